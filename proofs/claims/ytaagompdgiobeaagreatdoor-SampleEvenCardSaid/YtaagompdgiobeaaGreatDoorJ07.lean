/- the reading of a grammar, its counts, and what is drawn: lemmas -/
import Derived.Test.YtaagompdgiobeaaGreatDoorJ06
set_option linter.all false
set_option maxHeartbeats 1500000
set_option maxRecDepth 100000
namespace Go.Proofs.YtaagompdgiobeaaGreatDoor
open Go.RowKit Go.Proofs.Tryz
open Go.Value renaming slice→K,slice→aK,int→aI,bool→aB,pointer→aP,string→aS,agg→aG open Go.IntKind renaming i64→aJ open Go.Obj renaming cells→aC open Go.Ending renaming returned→aR open List renaming length→Q,length→aQ open Option renaming none→aN
section
variable{m a k:Nat}{b c d:List Nat}{t wd ps:List Int}{l:List (List Nat)}{p:List MemPlace}
def cnt22A(a:m<=4):Z2 Xt (m:Int)=Xm (Zx (Yk tab22A) [-1] m):=(cnt_of Zxf AA red22A Fh rfl).trans (of_told red22A Fh cyc22A ord22A chk22A AC AC AB a)
def v22A:Z2 Xt 4=([5],0):=(cnt22A (m:=4) AC).trans AB
def Zya(l:Option Addr)(n c1:Nat)(xs:List Nat)(o:Option Addr)(m c2:Nat)(ys:List Nat)(w:World)(h1:Zq .u32 w l n c1 xs)(r:Zq .u32 w o m c2 ys):
 Calls prog 17 #[K l n c1,K o m c2] w (Quiet w (aB (xs==ys))):=by
 obtain rfl:=h1.len;obtain rfl:=r.len;have G:=h1.cap;by_cases c:(Q xs)=(Q ys)
 case neg =>
  have a:(xs==ys)=false:=by
   rw[AR];intro h;exact c (by rw[h])
  rw[a];have z:(((Q xs):Int) != ((Q ys):Int))=true:=by rw[BK];omega
  clear a c;go_enter func17,ntmps17;go_wp2;go_ret;exact⟨rfl,Uz.refl _⟩
 have z:(((Q xs):Int) != ((Q ys):Int))=false:=by rw[BR];omega
 have g:=LH c;clear c;go_enter func17,ntmps17;go_wp2;go_loopw [5] (λi wr=>∃k:Nat,k<=(Q xs)/\i = aI aJ (k:Int)/\(∀j,j<k->xs.getD j 0=ys.getD j 0)/\Uz w wr) (λi _=>(Q xs)-(intOf i).toNat)
 case atStart=>exact⟨0,AV _,rfl,λj s=>AA,Uz.refl _⟩
 obtain⟨k,H,rfl,hrel,b⟩:=hrel;have p:=LH hrel;clear hrel;by_cases v:k<(Q xs)
 ·obtain⟨A,M,x,rfl,C,Hx,E⟩:=(h1.same b).get (j:=k) v;obtain⟨B,N,y,rfl,D,q,F⟩:=(r.same b).get (j:=k) (by have:=g.out;omega);have I:(0:Int)<=(k:Int):=AA
  have J:(k:Int)<((Q xs):Int):=AA
  have L:(k:Int)<((Q ys):Int):=by have:=g.out;omega
  by_cases d:x=y
  ·have u:((x:Int) != (y:Int))=false:=by rw[BR];omega
   have t:=LH d;clear d;go_wp2;go_quiet (fail)
   go_wp2;go_roundw
   case rel =>
    refine⟨k+1,AA,AF,λj s=>?_,b.drewN _⟩;rcases BD j k with h | h
    ·exact p j h
    obtain rfl:j=k:=AA
    rw[Yn Hx,Yn q,t]
   simp[intOf];omega
  have u:((x:Int) != (y:Int))=true:=by rw[BK];omega
  have a:(xs==ys)=false:=by
   rw[AR];intro h;have h1:=Hx.out;rw[h,q] at h1;injection h1 with h1;exact d h1.symm
  have f:=LH a;clear a d;go_wp2;go_quiet (fail)
  go_wp2;go_ret;rw[f];exact⟨rfl,b.drewN _⟩
 have a:(xs==ys)=true:=by
  rw[BS];exact same_stepN g λj s=>p j AA
 have f:=LH a;clear a;go_wp2;go_ret;rw[f];exact⟨rfl,b⟩
def Vj(G:Gr)(t:List Int)(b:List Nat)(a:Nat):Prop :=
 (Xl G t=none/\b=[]/\a=1)\/∃wd ps k,Xl G t=some (wd,ps,k) /\
   ((10<wd.length/\b=[]/\a=5)\/(wd.length<=10/\(Z2 G (wd.length:Int)).2≠0/\b=[]/\a=(Z2 G (wd.length:Int)).2) \/
     (wd.length<=10/\(Z2 G (wd.length:Int)).2=0/\a=0/\∃u r,UnT (Zi G) (Zi G).zt.toNat wd.length r u/\t=(u.map (Yr G)).map (λi:Nat=>(i:Int))/\b=Zq3 r))
def un1:UnT Xt (Zp (-1)) 1 0 [1]:=by
 rw[non22];exact⟨1,⟨0,[0],0⟩,0,[],rfl,rfl,.term AC .nil,by rw[M0.1],rfl⟩
def ul1:UnL Xt [-1] 1 0 [1]:=UnL.cat AC un1 .nil rfl M0.2.1
def un2:UnT Xt (Zp (-1)) 2 0 [0,1,1]:=by
 rw[non22];exact UnT.top (x:=⟨0,[-1,-1],-1⟩) rfl rfl (UnL.cat AC un1 ul1 rfl M0.2.2.1)
def ul2:UnL Xt [-1] 2 0 [0,1,1]:=UnL.cat AC un2 .nil rfl M0.2.2.2.1
def un22:UnT Xt 0 3 0 [0,1,0,1,1]/\UnT Xt 0 3 1 [0,0,1,1,1] :=
 ⟨UnT.top (x:=⟨0,[-1,-1],-1⟩) rfl rfl (UnL.cat AC un1 ul2 rfl M0.2.2.2.2.1),UnT.top (x:=⟨0,[-1,-1],-1⟩) rfl rfl (UnL.cat AC un2 ul1 rfl M0.2.2.2.2.2)⟩
def Zr6:Yv (Zv Xt) (-1) [-1] 4 3=3/\Yv (Zv Xt) (-1) [-1] 4 1=0/\Zx (Zv Xt) [-1] 1=1/\Yv (Zv Xt) (-1) [] 3 3=0:=by
 have a:Zv Xt (-1) 0=0:=(Ztt (k:=0) AC).trans AB;have b:Zv Xt (-1) 1=1:=(Ztt (k:=1) AC).trans AB;have c:Zv Xt (-1) 2=1:=(Ztt (k:=2) AC).trans AB;have d:Zv Xt (-1) 3=2:=(Ztt (k:=3) AC).trans AB;exact ahead24 a b c d (by funext n;exact Xb Xt AC n)
def un3:UnT Xt (Zp (-1)) 3 0 [0,1,0,1,1]:=by rw[non22];exact un22.1
def un3':UnT Xt (Zp (-1)) 3 1 [0,0,1,1,1]:=by rw[non22];exact un22.2
def ul3:UnL Xt [-1] 3 0 [0,1,0,1,1]:=UnL.cat AC un3 .nil rfl Zr6.2.2.2
def ul4:UnL Xt [-1,-1] 4 4 ([0,0,1,1,1]++[1]):=by
 have h:=UnL.non' (s:=-1) AC un3' ul1;have e:=Zr6.1;have a:=Zr6.2.2.1;refine h.to rfl ?_ rfl;rw[show (3+1:Nat)=4 from rfl,e,a]
def un24:UnT Xt 0 4 0 [0,1,0,1,0,1,1]/\UnT Xt 0 4 4 [0,0,0,1,1,1,1] :=
 ⟨UnT.top (x:=⟨0,[-1,-1],-1⟩) rfl rfl (UnL.cat AC un1 ul3 rfl Zr6.2.1),UnT.top (x:=⟨0,[-1,-1],-1⟩) rfl rfl ul4⟩
def unr24{t:List Nat}{v:Nat}(k:Zm b=true)(f:val b=v)(o:v<5)(l:UnT Xt 0 4 v t)(n:(Q t)<=300){g:List Nat}{c:Nat}(h:V9 Xt 4 b g c):g=t.map (Yr Xt)/\c=0:=by
 have e:Z2 Xt 4=([5],0):=v22A;rcases h with ⟨a,_⟩ | ⟨_,a,_⟩ | ⟨_,_,a,_⟩ | ⟨_,_,_,p,d,h⟩
 ·exact absurd a (nobad24 k)
 ·exact absurd (by rw[e]) a
 ·rw[e,f] at a;have m:val [5]=5:=rfl;have a:val [5]<=v:=a;omega
 rw[start22,Fh,f] at d;obtain rfl:=l.one Zxe d;rcases h with ⟨h1,_⟩ | ⟨_,h1,j⟩
 ·omega
 exact⟨h1,j⟩
def u24A(h:V9 Xt 4 [4] b a):b=[0,0,0,1,1,1,1]/\a=0:=by
 obtain⟨rfl,rfl⟩:=unr24 (v:=4) AC rfl AC un24.2 AC h;exact⟨by simp only[CU,List.map_nil,kept22],rfl⟩
def u24B(h:V9 Xt 4 [] b a):b=[0,1,0,1,0,1,1]/\a=0:=by
 obtain⟨rfl,rfl⟩:=unr24 (v:=0) AC rfl AC un24.1 AC h;exact⟨by simp only[CU,List.map_nil,kept22],rfl⟩
def smp24{f z t:List Nat}{u:Nat}(b:X5 [5] f=(z,u,0))(n:∀{o:List Nat} {e:Nat},V9 Xt 4 z o e->o=t/\e=0){c:Nat}(h:L3 Xt 4 f d k c):d=t/\k=u/\c=0:=by
 have e:Z2 Xt 4=([5],0):=v22A;unfold L3 at h;rw[e] at h;simp only[] at h;rw[b] at h;rcases h with ⟨a,_⟩ | ⟨_,a,_⟩ | ⟨_,_,a,_⟩ | ⟨_,_,_,o,p,m,hd⟩
 ·exact absurd rfl a
 ·cases a
 ·exact absurd rfl a
 obtain⟨rfl,rfl⟩:=n m;rcases hd with ⟨h1,_⟩ | ⟨_,g,j,l⟩
 ·exact absurd rfl h1
 exact⟨g,j,l⟩
def s24A(h:L3 Xt 4 [7,6,4,1] b k a):b=[0,0,0,1,1,1,1]/\k=3/\a=0:=smp24 AB u24A h
def s24B{c:Nat}(h:L3 Xt 4 [7,6] d k c):d=[]/\k=0/\c=12:=by
 have e:Z2 Xt 4=([5],0):=v22A;have b:X5 [5] [7,6]=([],0,12):=AB
 unfold L3 at h;rw[e] at h;simp only[] at h;rw[b] at h;rcases h with ⟨a,_⟩ | ⟨_,a,_⟩ | ⟨_,_,_,h1,f,g⟩ | ⟨_,_,a,_⟩
 ·exact absurd rfl a
 ·cases a
 ·exact⟨h1,f,g⟩
 cases a
def s24C{b:Nat}(h:L3 Xt 0 [] c k b):c=[]/\k=0/\b=9:=by
 have e:Z2 Xt ((0:Nat):Int)=([],0):=(cnt22A (m:=0) AC).trans AB;have e:Z2 Xt 0=([],0):=e;unfold L3 at h;rw[e] at h;simp only[] at h;rcases h with ⟨a,_⟩ | ⟨_,_,h1,d,f⟩ | ⟨_,a,_⟩ | ⟨_,a,_⟩
 ·exact absurd rfl a
 ·exact⟨h1,d,f⟩
 ·exact absurd rfl a
 exact absurd rfl a
def s24D(h:L3 Xt 4 [7,4,0] b k a):b=[0,0,0,1,1,1,1]/\k=2/\a=0:=smp24 AB u24A h
def s24E(h:L3 Xt 4 [0] b k a):b=[0,1,0,1,0,1,1]/\k=1/\a=0:=smp24 AB u24B h
def som24{d:Nat}(h:Zro Xt 4 2 [7,4,0] l a d):l=[[0,0,0,1,1,1,1],[0,1,0,1,0,1,1]]/\a=3/\d=0:=by
 have one:∀{l:List (List Nat)} {a:Nat},SomGo Xt 4 [7,4,0] 1 l a->l=[[0,0,0,1,1,1,1]]/\a=2:=by
  intro l a h;cases h with
  | step h1 c =>
    cases h1;obtain⟨rfl,rfl,_⟩:=s24D c;exact⟨rfl,rfl⟩
 rcases h with ⟨x,_⟩ | ⟨_,b,rfl⟩ | ⟨_,_,_,i,k,j,m,n,hi,b,g,f⟩
 ·omega
 ·have b:SomGo Xt 4 [7,4,0] 2 l a:=b;cases b with
  | step h1 c =>
    obtain⟨rfl,rfl⟩:=one h1;obtain⟨rfl,rfl,_⟩:=s24E c;exact⟨rfl,rfl,rfl⟩
 have hi:i<2:=hi;rcases (AA:i=0\/i=1) with rfl | rfl
 ·cases b;exact absurd (s24D g).2.2 f
 obtain⟨rfl,rfl⟩:=one b;exact absurd (s24E g).2.2 f
def Tryz.infoIntS:(prog.info? 30).map (λi=>(i.zero,i.size,i.bytes))=some (some (K aN 0 0),1,24):=AB
def Jj(G:Gr)(t:List Int)(w:World)(e:Ending)(w':World):Prop:=Below w.heap.size w w' /\
 ∃(a:List Nat) (d:Nat) (b:Option Addr) (c:Nat),e = aR (.tuple #[K b a.length c,aI aJ (d:Int)])/\Zq .u32 w' b a.length c a/\Vj G t a d
def Jj.no{G:Gr}{w w':World}(b:Below w w w')(h:Vj G t [] a):Jj G t w (aR (.tuple #[K aN 0 0,aI aJ (a:Int)])) w' :=
 ⟨b,[],a,aN,0,rfl,Zq.nil _ _ _ _ AE,h⟩
section
open Ieee
def readT_full{G:Gr}(a:G.rt=true)(c:(Q t)<=300)(h:Fs G [-1-G.zt] t ps wd k):Xl G t=some (wd,ps,k):=by
 have f:=(Gr.fits a).st;have:=symsP_full h (Q t) [] [] [] 0 (AJ _);unfold Xl;rw[a,show decide ((Q t)<=300)=true by rw[BA];exact c];simp only[Bool.and_self,if_true];unfold Wt at this;rw[if_neg AA,show -1-(-1-G.zt)=G.zt by omega,DJ] at this;cases b:Y0 G (Q t) ⟨t,[],[]⟩ G.zt with
 | none=>rw[b] at this;cases this
 | some x =>
   obtain⟨g,j⟩:=x;rw[b] at this;simp only[Wt,BT,DM,DA] at this;obtain⟨rfl,d⟩:=this;simp only[if_true,BT,DM,true_and];omega
end
section
variable {G:Gr}
def Ztu(k:G.Fits){ss f:List Int}(h:Fs G ss ps f wd m):∀s∈ss,s<0->(Zt G).getD (Zp s) false=true:=by
 induction h with
 | nil=>intro s a;cases a
 | term h0 _ o =>
   intro s a h1;rcases BY.1 a with rfl | a
   ·omega
   ·exact o s a h1
 | @non s i r ss y z w1 ps f wd x m h0 n u _ _ p t =>
   intro q c h1;rcases BY.1 c with rfl | c
   ·obtain⟨j,rfl,l⟩:=Uo n;have d:=AM l;have v:=k.L r d;have g:=Ue (b:=true) d AA (U8.2 λs a=>⟨λ_=>rfl,λh0=>p s a h0⟩);have e:Zp q=r.L.toNat:=by unfold Zp;omega
    rw[e];exact g
   exact t q c h1
def fs_red(b:G.Fits){ss d:List Int}(h:Fs G ss ps d wd m):(∀s∈ss,s<0->Zp s∈Ze G)->
 ∃u r,UnL (Zi G) (ss.map (Xd (Ze G))) (Q wd) r u/\ps=(u.map (Yr G)).map λi:Nat=>(i:Int):=by
 induction h with
 | nil=>intro _;exact⟨[],0,.nil,rfl⟩
 | @term s ss ps d wd m h0 _ C =>
   intro a;obtain⟨u,r,y,e⟩:=C λs h=>a s (.tail _ h);refine⟨u,r,?_,e⟩;rw[CU,AY];exact .term (by unfold Xd;rw[if_neg AA];exact h0) y
 | @non s i r ss L M w1 ps d wd J m h0 x H p _ D E =>
   intro a;obtain⟨j,rfl,f⟩:=Uo x;have l:=AM f;have I:=b.L r l;have c:=a s (By ..) h0;have e:Zp s=r.L.toNat:=by unfold Zp;omega
   have g:r∈Yh G:=Zub b l (by rw[<-e];exact c) (U8.2 λs a=>⟨λ_=>rfl,λh0=>Ztu b p s a h0⟩);obtain⟨k,q,t⟩:=kept_at b f g;obtain⟨u1,N,z,n⟩:=D λs h=>Qz b g h;obtain⟨u2,O,A,o⟩:=E λs h=>a s (.tail _ h);have F:=G8 h0 c;have B:(Wb (Ze G) r).L.toNat=Zp (Xd (Ze G) s):=by
    show (toI (Ze G) r.L.toNat).toNat=_;rw[<-e];omega
   have v:=UnL.non ((Mk s λ_=>c).2 h0) t B z A;refine⟨k::(u1++u2),_,by rw[CU,AU];exact v,?_⟩;rw[CU,CU,DI,DI,<-n,<-o,q]
def Zxc(h:Xl G t=some (wd,ps,k)):G.rt=true/\(Q t)<=300/\∃u r,UnT (Zi G) (Zi G).zt.toNat (Q wd) r u/\t=(u.map (Yr G)).map λi:Nat=>(i:Int):=by
 obtain⟨f,l,b⟩:=Zz4 h;have a:=Gr.fits f;have c:=Ztu a b (-1-G.zt) (By ..) (by have:=a.st;omega);have e:Zp (-1-G.zt)=G.zt.toNat:=by have:=a.st;unfold Zp;omega
 rw[e] at c;obtain⟨h1,g,j⟩:=Zvp a c;obtain⟨u,r,n,m⟩:=fs_red a b h1;obtain⟨q,d⟩:=un_single g n;rw[j] at d;exact⟨f,l,u,q,d,m⟩
def red_read(b:G.rt=true)(j:(Zt G).getD G.zt.toNat false=true){n r:Nat}{u:List Nat}(c:UnT (Zi G) (Zi G).zt.toNat n r u)(h:(Q u)<=300):∃wd ps k,Xl G ((u.map (Yr G)).map λi:Nat=>(i:Int))=some (wd,ps,k)/\(Q wd)=n:=by
 have a:=Gr.fits b;obtain⟨h1,d,f⟩:=Zvp a j;rw[<-f] at c;obtain⟨q,l⟩:=single_un d c;obtain⟨o,wd,m,g,e⟩:=red_fs a l [-1-G.zt] rfl h1;exact⟨wd,o,m,readT_full b (by simpa using h) g,e⟩
end
def Ztb{G:Gr}(h:Xl G t=some (wd,ps,k)):Xp G=true:=by
 obtain⟨a,_,c⟩:=Zz4 h;have b:=Ztu (Gr.fits a) c (-1-G.zt) (By ..) (Fa (Gr.fits a)).1;rw[(Fa (Gr.fits a)).2.1] at b;unfold Xp;rw[a,b];rfl
def V9.back{G:Gr}{n:Nat}{l:List Nat}(h:V9 G (n:Int) d l 0)(B:Lim d):(Z2 G (n:Int)).2=0/\Zm d=true/\val d<val (Z2 G (n:Int)).1/\G.rt=true/\(Q l)<=300 /\
 ∃wd ps k,Xl G (l.map λi:Nat=>(i:Int))=some (wd,ps,k)/\(Q wd)=n/\∀q m,Vj G (l.map λi:Nat=>(i:Int)) q m->m=0/\q=d:=by
 rcases h with ⟨_,_,e⟩ | ⟨_,b,_,e⟩ | ⟨_,_,_,_,e⟩ | ⟨a,b,c,u,j,⟨_,_,e⟩ | ⟨x,rfl,_⟩⟩
 ·cases e
 ·exact absurd e.symm b
 ·cases e
 ·cases e
 have f:G.rt=true:=by
  cases f:G.rt
  ·exact absurd (.inl f) a
  rfl
 have C:0<=(n:Int)/\(n:Int)<=10:=by
  constructor
  ·exact Int.not_lt.1 λh=>a (.inr (.inl h))
  exact Int.not_lt.1 λh=>a (.inr (.inr (.inl h)))
 have g:Zm d=true:=by
  cases g:Zm d
  ·exact absurd (.inr (.inr (.inr g))) a
  rfl
 have o:=(Bb f C b AA).1;have D:(Zt G).getD G.zt.toNat false=true:=by
  unfold Xp at o;rw[AS] at o;exact o.2
 rw[DH] at j;obtain⟨wd,ps,k,p,t⟩:=red_read f D j x;refine⟨b,g,c,f,by simpa using x,wd,ps,k,p,t,λq m A=>?_⟩;rcases A with ⟨y,_⟩ | ⟨H,F,E,y,h⟩
 ·rw[p] at y;cases y
 rw[p] at y;obtain⟨rfl,rfl,rfl⟩:wd=H/\ps=F/\k=E:=by simpa using y
 rw[t] at h;rcases h with ⟨y,_⟩ | ⟨_,y,_⟩ | ⟨_,_,rfl,v,r,s,e,rfl⟩
 ·omega
 ·exact absurd b y
 obtain rfl:=j.kept s (Ba e);have:=(j.parse (z:=[]) (z':=[]) s rfl).2.1;rw[<-this];exact⟨rfl,(Ul d B g).1.symm⟩
section
open Go.RowKit Go.Shelf
attribute [local go_sem] Oper.semAt_some
open Go.RowKit Go.Shelf
open Go.RowKit Go.Shelf
attribute [local go_sem] Oper.semAt_some
def need_zero(xs:List Nat)(d:Lim xs)(r:Zm xs=true)(h0:(Q xs)≠0)(b:B9 xs=0):val xs=1:=by
 obtain⟨ex,j⟩:=Ul xs d r;have k:0<val xs:=by
  rcases BW (val xs) with h | h
  ·rw[h,Va] at ex;rw[ex] at h0;simp at h0
  exact h
 have a:Zrs xs=0:=by unfold B9 at b;omega
 have f:Zm (Zq3 1)=true:=Ym 1 (Zrf 1 AC);have c:Mw xs (Zq3 1)=(Zq3 (val xs-1),0):=by
  simp[Mw,r,f,Yd];omega
 unfold Zrs at a;rw[c] at a;have g:=Ym (val xs-1) AA;simp only[Zz9,g,if_true,Yd] at a;by_cases h:val xs-1=0
 ·omega
 simp only[bitLen] at a;split at a <;> omega
def Zr0(xs a:List Nat)(g:Lim xs):(∃e,e≠0/\X5 xs a=([],0,e))\/∃t n,X5 xs a=(Zq3 t,n,0)/\Zm xs=true/\(Q xs)≠0/\t<val xs/\n<=(Q a):=by
 unfold X5;by_cases h1:Zm xs=true/\(Q xs)≠0
 ·rw[if_neg (by simpa using h1)];by_cases c:1000<(Q a)
  ·rw[if_pos c];exact .inl ⟨5,AC,rfl⟩
  rw[if_neg c];by_cases b:B9 xs=0
  ·rw[if_pos b];have:=need_zero xs g h1.1 h1.2 b;exact .inr ⟨0,0,by rw[Va],h1.1,h1.2,AA,AA⟩
  rw[if_neg b];rcases Zqk (val xs) (Zrs xs) (B9 xs) ((Q a)+1) 0 a with h | ⟨t,n,d,f,_,j⟩
  ·exact .inl ⟨12,AC,h⟩
  exact .inr ⟨t,n,d,h1.1,h1.2,f,AA⟩
 rw[if_pos h1];exact .inl ⟨1,AC,rfl⟩
def L3.used{G:Gr}{n:Int}{a:List Nat}(h:L3 G n a c k 0):k<=(Q a):=by
 rcases h with ⟨_,_,rfl,_⟩ | ⟨_,_,_,rfl,_⟩ | ⟨_,_,_,_,rfl,_⟩ | ⟨_,_,h0,_,_,_,⟨_,_,rfl,_⟩ | ⟨_,_,rfl,_⟩⟩
 ·exact AV _
 ·exact AV _
 ·exact AV _
 ·exact AV _
 rcases Zr0 (Z2 G n).1 a (Kg G n).1 with ⟨e,d,h⟩ | ⟨t,m,h,_,_,_,b⟩
 ·rw[h];exact AV _
 rw[h];exact b
end
section
open Go.ChangeShapes Go.WideShapes Go.ChangeAt Go.RowKit
open Go.ChangeShapes Go.WideShapes Go.ChangeAt Go.RowKit
open Go.ChangeShapes Go.WideShapes Go.ChangeAt Go.RowKit Go.Lib Go.Deep
open Go.ChangeShapes Go.WideShapes Go.ChangeAt Go.RowKit Go.Lib Go.Deep
variable {H:Type} {enc:TypeId × Value->H} {w:World} {base:Nat} {held:Bool}
structure GrIn (w:World) (h:GH) (G:Gr):Prop where
 at_:Yf w h G
 small:∀t∈G.T,t.name.size<=maxLen
 zt:U3 G.zt
def Kr{r:Reach}{b0:Nat}{v:Value}{d:DataW H}(o:Value.okWide prog w r b0 26 v)(h:DataW.Trod enc prog w base (λ_=>true) held 26 v d p):
 ∃(a:GH) (G:Gr),v=GV a G.zt/\GrIn w a G:=by
 obtain⟨x,y,z,A,B,C,D,E,n,rfl,_,_,g0,c,f,g⟩:=Go.Joins.open_agg4 underlying26 AB AB o h;obtain⟨a1,n1,c1,ts,rfl,l,m⟩:=open_terms g0;obtain⟨a2,n2,c2,ss,rfl,k⟩:=open_strsG c;obtain⟨a3,n3,c3,t,rfl,j,q⟩:=open_rules f;obtain⟨u,b,_,s⟩:=DataW.trod_int underlying3 g;simp at b;subst b;exact⟨⟨a1,n1,c1,a2,n2,c2,a3,n3,c3⟩,⟨ts,ss,t,u⟩,rfl,⟨l,k,j,q⟩,m,bounds_i64 s⟩
end
end
section
variable{l:List Int}{n B i:Nat}{a:World}{d:List Value}{f:List (List Nat)}
def tr_cOf(h:GH)(G:Gr)(Al:Option Addr)(v:Nat)(l:List Int)(n:Int)(w:World)(R:Yf w h G)(o:∀t∈G.T,t.name.size<=maxLen)(a4:Q2 w)(h1:h.n1<=100)(h2:h.n2<=100)(h3:h.n3<=100)(y:Za .i64 w Al (Q l) v l)(hi:∀s∈l,U3 s):
 Calls prog 41 #[GV h G.zt,K Al (Q l) v,aI aJ n] w (Xr w (Wi G l n)):=by
 obtain⟨a1,n1,c1,a2,n2,c2,a3,n3,c3⟩:=h;have e1:(Q G.T)=n1:=R.T.len;have e2:(Q G.O)=n2:=R.O.len;simp only[] at h1 h2 h3;have ca:=y.cap;have O:=LH R;have Hl:=LH y;have Hi:=LH hi;have Z:=LH o;have bh:=LH a4;have aa:=Zy w (aC #[K a1 n1 c1,K a2 n2 c2,K a3 n3 c3,aI aJ G.zt] 26);have ah:=Y1.new w 26 ⟨a1,n1,c1,a2,n2,c2,a3,n3,c3⟩ G.zt;clear R y hi o a4;go_enter func41,ntmps41;have⟨z5,z0,z1,z2,z3⟩:=ah;simp only[] at z0 z1 z2 z3;go_upto_region 1 with fail;generalize w.alloc (aC #[K a1 n1 c1,K a2 n2 c2,K a3 n3 c3,aI aJ G.zt] 26)=W0 at *;have f:=LH (tr_Is ⟨a1,n1,c1,a2,n2,c2,a3,n3,c3⟩ G W0 (O.out.below aa) Z.out h1 h2 h3);have r:=LH aa;have N:=LH ah;have d:(Q9 G=false\/6<(Q l)\/n<0\/10<n\/(∃s∈l,G.has s=false))->Wi G l n=([],1):=λhh=>by unfold Wi;rw[if_pos hh]
 have P:Hid (∀w',Below w w w'->Wi G l n=([],1)->Xr w (Wi G l n) (aR (.tuple #[K aN 0 0,aI aJ 1])) w'):=LH λw' hb he=>by rw[he];exact⟨aN,0,rfl,Zq.nil _ _ _ _ AA,hb⟩
 clear aa ah;cases H:Q9 G
 case false =>
  have u:=LH (d (.inl H));rw[H] at f;clear d;go_wp2_with (go_at_call 93;(with_reducible refine f.out.mono ?_);rintro e U⟨rfl,a⟩);go_ret2;exact P.out _ (Zz r.out a) u.out
 rw[H] at f;by_cases bz:6<(Q l)
 case pos =>
  have u:=LH (d (.inr (.inl bz)));have i1:(6:Int)<((Q l):Int):=AA
  clear d;go_wp2_with (go_at_call 93;(with_reducible refine f.out.mono ?_);rintro e U⟨rfl,a⟩);go_ret2;exact P.out _ (Zz r.out a) u.out
 have i1:¬((6:Int)<((Q l):Int)):=AA
 by_cases hn:0<=n/\n<=10
 case neg =>
  have u:=LH (d (by rcases (AA:n<0\/10<n) with h | h;exact .inr (.inr (.inl h));exact .inr (.inr (.inr (.inl h)))));have E:(decide (0<=n)&&decide (n<=10))=false:=by rw[Bool.and_eq_false_iff,AZ,AZ];omega
  have p:=λX=>Ld n X;rw[E] at p;have A:=LH p;clear d E p hn;go_wp2_with (first
   | (go_at_call 93;(with_reducible refine f.out.mono ?_);rintro e U⟨rfl,a⟩)
   | (go_at_call 39;(with_reducible refine (A.out _).mono ?_);rintro e w7⟨rfl,rfl⟩))
  go_ret2;exact P.out _ (Zz r.out a) u.out
 obtain⟨m,rfl⟩:∃m:Nat,n=(m:Int):=⟨n.toNat,AA⟩;have hm:m<=10:=AA
 have E:(decide (0<=(m:Int))&&decide ((m:Int)<=10))=true:=by rw[AS,BA,BA];exact hn
 have p:=λX=>Ld (m:Int) X;rw[E] at p;have A:=LH p;have Hr:=LH H;clear E p hn H;have F:(l.any λs=>!G.has s)=!l.all G.has:=by rw[List.all_eq_not_any_not];simp
 have z:Hid (∀W,Below w w W->Y1 W w ⟨a1,n1,c1,a2,n2,c2,a3,n3,c3⟩ G.zt->Calls prog 94 #[K Al (Q l) v,.func (.func 95) #[] #[aP (some ⟨w,0,aN⟩)]] W λe w'=>e = aR (aB (!l.all G.has))/\Below W W w'):=LH λW D hX=>by
  have hT:Zyw 95 #[aP (some ⟨w,0,aN⟩)] (aI aJ) W l (λs=>!G.has s):=λs b0 w' a5 =>
   tr_cof1 ⟨a1,n1,c1,a2,n2,c2,a3,n3,c3⟩ G w s w' ((O.out.below D).below a5) (Hi.out s b0) (by simp only[];omega) (by simp only[];omega) (hX.below a5)
  have g:=U1 Al (Q l) v l 95 _ (λs=>!G.has s) W enters_cof1 (Hl.out.below D) hT;rwa [F] at g
 cases c:l.all G.has
 case false =>
  have u:=LH (d (.inr (.inr (.inr (.inr (by
   rw[List.all_eq_false] at c;obtain⟨s,o,hh⟩:=c;exact⟨s,o,by simpa using hh⟩))))))
  rw[c] at z;clear d c F;go_wp2_with (first
   | (go_at_call 93;(with_reducible refine f.out.mono ?_);rintro e U⟨rfl,a⟩)
   | (go_at_call 39;(with_reducible refine (A.out _).mono ?_);rintro e w7⟨rfl,rfl⟩)
   | (go_at_call 94;(with_reducible refine (z.out _ (Zz r.out a) (N.out.below a)).mono ?_);rintro e w8⟨rfl,x⟩))
  go_ret2;exact P.out _ (Zz (Zz r.out a) x) u.out
 have j:Wi G l (m:Int)=if Vh G≠0 then ([],10) else Xm (Zx (Zv G) l m):=by
  unfold Wi;rw[if_neg]
  ·rfl
  rintro (h | h | h | h | ⟨s,o,h⟩)
  ·rw[Hr.out] at h;cases h
  ·omega
  ·omega
  ·omega
  rw[BG] at c;rw[c s o] at h;cases h
 have bi:=LH (BG.1 c);have av:=LH j;rw[c] at z;clear d c F j;have CY:Hid (∀W,Below w w W->Calls prog 97 #[GV ⟨a1,n1,c1,a2,n2,c2,a3,n3,c3⟩ G.zt] W λe w'=>Below W W w'/\e = aR (aI .u32 ((Vh G:Nat):Int))):=LH λW D =>
  tr_Cycles stepsSaid ⟨a1,n1,c1,a2,n2,c2,a3,n3,c3⟩ G W (O.out.below D) Z.out (bh.out.below D) (by simp only[];omega) (by simp only[];omega) (by simp only[];omega)
 go_wp2_with (first
  | (go_at_call 93;(with_reducible refine f.out.mono ?_);rintro e U⟨rfl,a⟩)
  | (go_at_call 39;(with_reducible refine (A.out _).mono ?_);rintro e w7⟨rfl,rfl⟩)
  | (go_at_call 94
     (with_reducible refine (z.out _ (Zz r.out a) (N.out.below a)).mono ?_);rintro e w8⟨rfl,x⟩;obtain⟨y5,I,J,L,M⟩:=N.out.below (Zz a x);simp only[] at I J L M))
 have V:=LH (Zz (Zz r.out a) x);have ar:=LH (N.out.below (Zz a x));clear a x f z A z0 z1 z2 z3 z5;(with_reducible refine (CY.out _ V.out).mono ?_);rintro e w9⟨ag,rfl⟩;have C:=LH (Zz V.out ag);have bj:=LH (ar.out.below ag);have cb:=Ztq G;have j:=av.out;clear I J L M y5 ag av CY V ar;by_cases g:Vh G=0
 case neg =>
  have Y:=LH j;have i4:(((Vh G:Nat):Int) != 0)=true:=by rw[BK];omega
  have Hc:=LH g;clear j g;go_wp2_with fail;go_ret2;rw[Y.out,if_pos Hc.out];exact⟨aN,0,rfl,Zq.nil _ _ _ _ AA,C.out⟩
 have i4:(((Vh G:Nat):Int) != 0)=false:=by rw[g];rfl
 rw[if_neg (by rw[g];simp)] at j;obtain⟨S,a7⟩:=Zzn.1 Hr.out;have T:G.rt=true/\(Zt G).getD G.zt.toNat false=true:=by unfold Xp at S;rw[AS] at S;exact S
 obtain⟨hP,bx,hO⟩:=U7 T.1 T.2 a7 g;have Y:=LH j;have HP:=LH hP;have ai:=O.out.below C.out;have CS:=LH (tr_start ⟨a1,n1,c1,a2,n2,c2,a3,n3,c3⟩ G w9 ai Z.out (by simp only[];omega) (by simp only[];omega) (by simp only[];omega) T.1);have a6:∀s∈l,-(n2:Int)<=s/\s<=1000:=λs o=>by
  have:=H7 (bi.out s o);rw[e1,e2] at this;omega
 have CF:Hid (∀k:CH,ForC w9 k ⟨a1,n1,c1,a2,n2,c2,a3,n3,c3⟩ G Al (Q l) v l m):=LH λk=>tr_forest (k:=k) hP ai (by simp only[];omega) (by simp only[];omega) l Al v m (Hl.out.below C.out) a6 AA AA;have⟨y5,I,J,L,M⟩:=bj.out;simp only[] at I J L M;clear j S a7 T hP bx hO g ai a6;generalize Vh G=cy at *;go_wp2_with fail;(with_reducible refine CS.out.mono ?_);rintro e ce⟨af,k,rfl,ab⟩;have an:=LH (CF.out k _ _ ab (λb hb=>hb.elim));have aq:=LH (Zz C.out af);have a8:=ab.low;clear I J L M y5 CS CF ab;have bm:=LH a8;have b8:=LH af;clear a8 af;go_wp2_with fail;(with_reducible refine an.out.mono ?_);rintro e b4⟨bs,a0,A5,k5,c5,b5,rfl,hv⟩;have be:=LH (aq.out.trans ((a0.is_below (B:=w.heap.size) aq.out.size λq F=>by
  have h9:=C.out.size;have y:=bm.out;rcases F with rfl | rfl
  ·exact BC h9 y.1
  exact BC h9 y.2)))
 clear bs a0 an;go_wp2_with fail;(with_reducible refine (tr_told A5 k5 c5 b5 _ b4 hv).mono ?_);rintro e cf⟨A6,c6,rfl,a9,a⟩;have bg:=LH a9;have bf:=LH (Zz be.out a);clear hv a9 a;generalize Xm (Zx (Zv G) l m)=cd at *;go_wp2_with fail;go_ret2;rw[Y.out];exact⟨A6,c6,rfl,bg.out,bf.out⟩
def Zus(h:GH)(G:Gr)(n:Int)(w:World)(hg:Yf w h G)(z:∀t∈G.T,t.name.size<=maxLen)(ak:Q2 w)(h1:h.n1<=100)(h2:h.n2<=100)(h3:h.n3<=100):
 Calls prog 22 #[GV h G.zt,aI aJ n] w (Xr w (Z2 G n)):=by
 obtain⟨a1,n1,c1,a2,n2,c2,a3,n3,c3⟩:=h;simp only[] at h1 h2 h3;have Hg:=LH hg;have N:=LH z;have az:=LH ak;have O:=Zy w (aC #[K a1 n1 c1,K a2 n2 c2,K a3 n3 c3,aI aJ G.zt] 26);have U:=Y1.new w 26 ⟨a1,n1,c1,a2,n2,c2,a3,n3,c3⟩ G.zt;clear hg z ak;go_enter func22,ntmps22;have⟨z5,z0,z1,z2,z3⟩:=U;simp only[] at z0 z1 z2 z3;go_upto_region 1 with fail;generalize w.alloc (aC #[K a1 n1 c1,K a2 n2 c2,K a3 n3 c3,aI aJ G.zt] 26)=W0 at *;have b:=LH (J4 ⟨a1,n1,c1,a2,n2,c2,a3,n3,c3⟩ G W0 (Hg.below O) N (by simp only[];omega) (by simp only[];omega));have F:=LH O;have a0:=LH U;have k:(G.rt=false\/n<0\/10<n)->Z2 G n=([],1):=λhh=>by unfold Z2;rw[if_pos hh]
 have M:Hid (∀w' g,Below w w w'->Z2 G n=([],g)->Xr w (Z2 G n) (aR (.tuple #[K aN 0 0,aI aJ (g:Int)])) w'):=LH λw' g hb he=>by rw[he];exact⟨aN,0,rfl,Zq.nil _ _ _ _ AA,hb⟩
 clear O U;cases f:G.rt
 case false =>
  have I:=LH (k (.inl f));rw[f] at b;clear k;go_wp2_with (go_at_call 38;refine b.out.mono ?_;rintro e w6⟨rfl,d⟩);go_ret2;exact M _ 1 (Zz F d) I
 rw[f] at b;by_cases V:0<=n/\n<=10
 case neg =>
  have I:=LH (k (by rcases (AA:n<0\/10<n) with h | h;exact .inr (.inl h);exact .inr (.inr h)));have l:(decide (0<=n)&&decide (n<=10))=false:=by rw[Bool.and_eq_false_iff,AZ,AZ];omega
  have a:=λX=>Ld n X;rw[l] at a;have E:=LH a;clear k l a V;go_wp2_with (first
   | (go_at_call 38;refine b.out.mono ?_;rintro e w6⟨rfl,d⟩)
   | (go_at_call 39;refine (E.out _).mono ?_;rintro e w7⟨rfl,rfl⟩))
  go_ret2;exact M _ 1 (Zz F d) I
 have be:¬n<0:=AA
 have bf:¬10<n:=AA
 have l:(decide (0<=n)&&decide (n<=10))=true:=by rw[AS,BA,BA];exact V
 have a:=λX=>Ld n X;rw[l] at a;have E:=LH a;clear l a V;have Hr:=LH f;have ap:Z2 G n=if Xp G=false then ([],0) else Wi (Zi G) [-1-(Zi G).zt] n:=by
  unfold Z2;rw[if_neg];rintro (h | h | h)
  ·rw[f] at h;cases h
  ·exact be h
  exact bf h
 have L:=LH ap;clear k ap f;go_wp2_with (first
  | (go_at_call 38
     refine b.out.mono ?_;rintro e W1⟨rfl,S⟩;obtain⟨y5,Y,Z,y2,y3⟩:=a0.below S;simp only[] at Y Z y2 y3)
  | (go_at_call 39;refine (E.out _).mono ?_;rintro e w7⟨rfl,rfl⟩))
 have P:=Zz F S;clear b z0 z1 z2 z3 z5 S;have r:=Zuf ⟨a1,n1,c1,a2,n2,c2,a3,n3,c3⟩ G W1 (Hg.below P) N h1 h2 h3;unfold Dh at r;refine r.mono ?_;rintro e W3⟨T,⟨ar,g,bc,rfl⟩ | ⟨m,h',Ak,nk,ck,rfl,an,m1,m2,m3⟩⟩
 ·have j:=Zz P T;have bq:(g != 0)=true:=by rw[BK];exact bc
  have J:Hid (Z2 G n=([],0)):=LH (by rw[L,if_pos ar]);clear r ar Y Z y2 y3 y5;go_wp2_with fail;go_ret2;exact M _ 0 (j.trans ((Zy W3 _).mono j.size)) J
 have j:=Zz P T;have W:G.rt=true/\(Zt G).getD G.zt.toNat false=true:=by unfold Xp at m;rw[AS] at m;exact m
 have ai:=Ju W.1 W.2;have J:Hid (Z2 G n=Wi (Zi G) [-1-(Zi G).zt] n):=LH (by rw[L,if_neg (by rw[m];simp)]);obtain⟨o,A,u,p,B,v,q,C,x⟩:=h';have a5:Hid (∀t∈(Zi G).T,t.name.size<=maxLen):=LH (by rw[Db];exact N);generalize Zi G=H at *;obtain⟨bu,bv,bw⟩:=Zsk ai;clear r Y Z y2 y3 y5 m W ai L;simp only[] at m1 m2 m3;have R:=Zy W3 (aC #[K o A u,K p B v,K q C x,aI aJ H.zt] 26);have al:=Y1.new W3 26 ⟨o,A,u,p,B,v,q,C,x⟩ H.zt;have ah:=Zz j R;have ao:=an.below R;go_upto_region 4 with fail;generalize W3.alloc (aC #[K o A u,K p B v,K q C x,aI aJ H.zt] 26)=c at *;generalize W3.heap.size=gH at *;have a4:=LH ao;have ad:=LH ah;have⟨x5,x0,x1,x2,x3⟩:=al;simp only[] at x0 x1 x2 x3;have br:IntKind.i64.wrap (-1-H.zt)=-1-H.zt:=BZ _ AA;have y:=Zy c (aC #[aI aJ (-1-H.zt)] 3);have hL:Za .i64 (c.alloc (aC #[aI aJ (-1-H.zt)] 3)) (some ⟨c,0,aN⟩) 1 1 [-1-H.zt]:=N6 c 3 (ints .i64 [-1-H.zt]) 1 _ rfl rfl AC;have D:=LH (tr_cOf ⟨o,A,u,p,B,v,q,C,x⟩ H (some ⟨c,0,aN⟩) 1 [-1-H.zt] n (c.alloc (aC #[aI aJ (-1-H.zt)] 3)) (a4.below y) a5 (az.below (Zz ad y)) (by simp only[];omega) (by simp only[];omega) (by simp only[];omega) hL (λs z=>by rw[BO.1 z];unfold U3;omega));have aw:=LH (Zz ad y);simp only[AY,DE,BF] at D;clear hL y ao ah R an j T al;go_wp2_with fail;refine D.out.mono ?_;rintro e W6⟨A6,c6,rfl,aq,d⟩;have ay:=LH aq;have ax:=LH (Zz aw d);clear aq d D;generalize Wi H [-1-H.zt] n=bt at *;go_wp2_with fail;go_ret2;rw[J];exact⟨A6,c6,rfl,ay,ax⟩
section
open Go.Maps (Keyed IsMap Tidy)
def Zzz{W0:World}{k:BkH}{h:GH}{G:Gr}(hB:BkG W0 h G)(hk:J1 l n)(hh:∀s∈l,G.has s=true)(S:Nat->Prop)(w:World)(Al:Option Addr)(cl:Nat)(C:Wd W0 k h G S w)(hS:∀b,S b->b<w.heap.size)(hl:Za .i64 w Al (aQ l) cl l):
 Calls prog 109 #[aP (some ⟨k.c,0,aN⟩),K Al (aQ l) cl,aI aJ (n:Int)] w (Zuw W0 k h G S w (Zx (Zv G) l n)):=by
 have fh:=hl.cap;have fl:=hk.len;have dm:=hk.n;have a7:=Zy w (aC #[K aN 0 0,aB false] 168);have cb:=Blk.new w 168 #[K aN 0 0,aB false];have b8:=C.more a7 (AJ w);have T:=LH hB;have HK:=LH hk;have Hh:=LH hh;have HS:=LH hS;have bb:=LH (hl.below a7);have bf:=LH cb;have bp:=LH b8;have bw:Hid (Off k.map w (w.alloc (aC #[K aN 0 0,aB false] 168))):=Off.of_below a7;have cf:W0.heap.size<=w.heap.size:=C.base.size;go_enter func109,ntmps109;go_upto_region 1 with fail;generalize w.alloc (aC #[K aN 0 0,aB false] 168)=J at *;have c8:Hid ((prog.info? 5).map (λi=>(i.zero,i.size,i.bytes))=some (some (aI .u8 0),1,1)):=LH AB;have b3:Hid (J.ownsRow J 5 1 (K aN 0 0) 0 (nums .u8 (Vr (l.take 0)))):=BL _ _ _ _;go_wp2_with fail;go_loopw [7,16] (λv i wr=>∃(q:Nat) (A:Option Addr) (c:Nat),q<=(aQ l)/\i = aI aJ (q:Int)/\v = K A q c/\Hid (wr.ownsRow J 5 1 (K A q c) q (nums .u8 (Vr (l.take q))))/\Hid (Below J J wr)) (λ_ i _=>(aQ l)-(intOf i).toNat)
 case atStart=>exact⟨0,aN,0,AV _,rfl,rfl,b3,LH (AP _ _)⟩
 obtain⟨q,A,c,hq,rfl,rfl,Ho,E⟩:=hrel;have av:J.heap.size<=wr.heap.size:=E.size;by_cases dn:q<(aQ l)
 case pos =>
  obtain⟨lb,lo,s,rfl,fk,b4,cs⟩:=(bb.below E).get dn;obtain⟨s1,s2⟩:=HK.sym s (AM b4);obtain⟨m,hm⟩:∃m:Nat,s+16=(m:Int):=⟨(s+16).toNat,AA⟩;have fm:IntKind.i64.wrap (s+16)=(m:Int):=by rw[hm];exact BZ _ AA
  have fn:IntKind.u8.wrap (m:Int)=(m:Int):=IntWalk.u8_in _ AA;have da:Hid (Vr (l.take (q+1))=Vr (l.take q)++[m]):=LH (by rw[symT_snoc b4,show (s+16).toNat=m by omega]);go_wp2_with (first
   | (at_builtin;refine Ye rfl _ _ 57 rfl J 5 _ 1 1 underlying57 c8 AC AC A q c (nums .u8 (Vr (l.take q))) rfl Ho [aI .u8 (m:Int)] rfl rfl (by simp[Value.oneCell']) AA AA av ?_;intro A5 c5 w5 ho hg ha
      have cw:=LH (E.trans ((Off.of_grown hg).is_below av λk hk=>(Ho.lt k hk).1));have c9:Hid (w5.ownsRow J 5 1 (K A5 (q+1) c5) (q+1) (nums .u8 (Vr (l.take (q+1))))):=LH (by
       rw[da,show nums .u8 (Vr (l.take q)++[m])=nums .u8 (Vr (l.take q))++[aI .u8 (m:Int)] by simp[nums]];exact ho)
      clear ho hg ha))
  go_roundw
  case rel=>exact⟨q+1,A5,c5,AA,AF,rfl,c9,cw⟩
  simp[intOf] <;> omega
 obtain rfl:q=(aQ l):=AA
 have cp:Zq .u8 wr A (aQ l) c (Vr l):=by
  have h1:=Yl Ho;rw[List.take_length] at h1;exact h1
 have bm:(Vr l).length=(aQ l):=by unfold Vr;rw[BI]
 have b2:Hid ((convert 57 9 (K A (aQ l) c)).run prog wr = .ok (aS (str (Vr l))) wr):=LH (by
  have:=Ux wr 57 5 9 underlying57 underlying5 underlying9 A c (Vr l) (by rw[bm];exact cp);rwa [bm] at this)
 have dj:=b2.out;have au:=Zy wr (aC #[aS (str (Vr l)),aI aJ (n:Int)] 220);have aq:=Blk.new wr 220 #[aS (str (Vr l)),aI aJ (n:Int)];have aa:=LH ((bp.below E).below au);have be:=LH ((bw.map_trans (Off.of_below E)).map_trans (Off.of_below au));have bg:=LH ((bf.ext E).ext au);have br:=LH ((bb.below E).below au);have dl:w.heap.size<wr.heap.size:=(bf.ext E).lt;go_upto_region 8 with fail;generalize wr.alloc (aC #[aS (str (Vr l)),aI aJ (n:Int)] 220)=r at *;generalize wr.heap.size=B at *;have b1:=LH aq;obtain⟨ts,W⟩:=aa.known;have F:=W.look HK;unfold kB at F;have H:=aa.box.lt;have Y:=aa.box.cell 4;have N:=aq.cell 0;have O:=aq.cell 1;have P:=aq.lt;have bc:=Yt r;rcases F with ⟨bv,F,hv,di⟩ | F
 case inl =>
  as_aux_lemma =>
   obtain⟨Av,nv,cv,dv,V,aw⟩:=hv;refine Zs AB AB ?_;repeat (go_big_quiet_step (fail))
   refine BJ ?_;rintro _⟨y,rfl⟩;have j:=Zr r y;have x:=LH (aa.below j);have aj:=LH (be.map_trans (Off.of_below j));have o:=bg.ext j;have a8:=V.ext j;have cy:=LH (aw.below j);have ak:=LH (Zxm (S:=S) x o cy aj (.inr rfl) cf (AJ _) λq hq => .inl hq);have c0:=o.cell 0;have c1:=o.cell 1;have f0:=o.frozen 0;have f1:=o.frozen 1;have l5:=o.lt;have v0:=a8.cell 0;have v1:=a8.cell 1;have l6:=a8.lt;generalize bl r y=W3 at *;go_wp2_with fail;refine AW (AX (p:=6) AB _ _ w 168 #[K Av nv cv,aB dv] (0,0) _ rfl ak.1 underlying168 rfl AB) rfl ?_;exact ak.2
 refine Zs AB AB ?_;repeat (go_big_quiet_step (fail))
 refine BJ ?_;rintro _⟨y,rfl⟩;have j:=Zr r y;have x:=LH (aa.below j);have aj:=LH (be.map_trans (Off.of_below j));have b0:=LH (bg.ext j);have bt:=LH (b1.ext j);have bs:=LH (br.below j);have fi:w.heap.size<B:=dl;generalize bl r y=W3 at *;obtain⟨gc,M⟩:=k;obtain⟨a1,n1,c1,a2,n2,c2,a3,n3,c3⟩:=h;have H:=x.box.lt;have k0:=x.box.cell 0;have k1:=x.box.cell 1;have k2:=x.box.cell 2;have k3:=x.box.cell 3;have bj:=x.base;have co:=Zua T.told (l:=l) (n:=n) HK.len dm Hh;have h1:=T.n1;have h2:=T.n2;have h3:=T.n3;simp only[] at h1 h2 h3;have Z:=tr_cOf ⟨a1,n1,c1,a2,n2,c2,a3,n3,c3⟩ G Al cl l (n:Int) W3 (T.at_.below bj) T.names (T.tab.below bj) (by simp only[];omega) (by simp only[];omega) (by simp only[];omega) bs (λs hs=>by have:=HK.sym s hs;unfold U3;omega);rw[co] at Z;obtain⟨R,er,bq,cd,fg,cq⟩:=fit_val (Zx (Zv G) l n);rw[cd] at Z;have Z:=LH Z;have b5:=LH cq;go_upto_region 12 with (
  go_at_call 41;refine Z.out.mono ?_;rintro e U⟨I,L,rfl,cm,ar⟩)
 have ab:=LH (x.below ar);have bx:=LH (aj.map_trans (Off.of_below ar));have az:=LH (b0.ext ar);have ad:=LH (bt.ext ar);have bu:=LH cm;have H:=ab.box.lt;have Y:=ab.box.cell 4;have N:=ad.cell 0;have O:=ad.cell 1;have P:=ad.lt;have dr:=az.lt;refine Xh (λX=>Below U U X) (λX X'=>Below X X X') (λu=>(⟨(aP (some ⟨gc,0,aN⟩) :: K Al (aQ l) cl :: aI aJ (n:Int)::undef::undef::undef :: aP (some ⟨w,0,aN⟩) :: K A (aQ l) c::undef::u9 :: aP (some ⟨B,0,aN⟩) :: aP aN :: K I (aQ R) L :: aI aJ (er:Int) :: K Al (aQ l) cl :: aI aJ ((aQ l):Int) :: aI aJ ((aQ l):Int) :: aB false::u18::u19::u20::u21::u22::u23::u24::u25::u26 :: K A (aQ l) c :: aS (str (Vr l)) :: aI aJ (n:Int) :: aG #[aS (str (Vr l)),aI aJ (n:Int)] :: aP (some ⟨gc,0,aN⟩) :: aP (some ⟨gc,0,aN⟩) :: aP (some ⟨gc,4,aN⟩) :: .map (some M) :: aG #[aS (str (Vr l)),aI aJ (n:Int)] :: aP aN :: aP aN :: aB false::undef::undef::undef :: .tuple #[K I (aQ R) L,aI aJ (er:Int)] :: aP (some ⟨gc,0,aN⟩) :: aP (some ⟨gc,0,aN⟩) :: aP (some ⟨gc,0,aN⟩) :: aG #[K a1 n1 c1,K a2 n2 c2,K a3 n3 c3,aI aJ G.zt] :: K Al (aQ l) cl :: aI aJ (n:Int) :: .tuple #[K I (aQ R) L,aI aJ (er:Int)] :: K I (aQ R) L :: aI aJ (er:Int)::u 0::u 1::u 2::u 3::u 4::u 5::u 6::u 7::u 8::u 9::undef::undef::undef::undef::undef::undef::undef::undef::[]).toArray,[]⟩:Act)) [undef,undef,undef,undef,undef,undef,undef,undef,undef,undef] [λv X=>v = aP (some ⟨gc,0,aN⟩),λv X=>v = aP (some ⟨gc,0,aN⟩),λv X=>v = aP (some ⟨gc,4,aN⟩),λv X=>v = .map (some M),λv X=>v = aG #[aS (str (Vr l)),aI aJ (n:Int)],λv X=>v = K I (aQ R) L,λv X=>v = aI aJ (er:Int),λv X=>v = aB bq,λv X=>v = aG #[K I (aQ R) L,aB bq],λv X=>∃D,v=aP (some ⟨D,0,aN⟩)/\U.heap.size<=D/\Blk X D 168 #[K I (aQ R) L,aB bq]] (λu X=>∃D ts,Wd W0 ⟨gc,M⟩ ⟨a1,n1,c1,a2,n2,c2,a3,n3,c3⟩ G (λb=>S b\/b=w.heap.size) X/\Off (BkH.map ⟨gc,M⟩) U X/\Gk X M G (λb=>S b\/b=w.heap.size) (((l,n),D)::ts)) (l:=[_,_,_,_,_,_,_,_,_,_]) AB AB AB rfl rfl (AP _ _).drew ⟨AI,AI,AI,AI,AI,AI,AI,AI,AI,(λ_ _ _ ⟨g,e,h,h2⟩ hb=>⟨g,e,h,Blk.ext h2 hb⟩),trivial⟩ ?_ ?_ ?_
 ·refine Zk.con (λQ u X a d KK f=>?_) ?_
  ·go_simp;exact f _ _ a (AP _ _) rfl
  refine Zk.con (λQ u X a d KK f=>?_) ?_
  ·have p0:u 0=_:=d 0 rfl;rw[p0] at f⊢;go_simp;exact f _ _ a (AP _ _) rfl
  refine Zk.con (λQ u X a d KK f=>?_) ?_
  ·have p1:u 1=_:=d 1 rfl;rw[p1] at f⊢;go_simp;exact f _ _ a (AP _ _) rfl
  refine Zk.con (λQ u X a d KK f=>?_) ?_
  ·have p2:u 2=_:=d 2 rfl;rw[p2] at f⊢;have dc:=(a.cell (p:=⟨gc,4,aN⟩) H).trans Y;go_simp;exact f _ _ a (AP _ _) rfl
  refine Zk.con (λQ u X a d KK f=>?_) ?_
  ·have dc:=(a.cell (p:=⟨B,0,aN⟩) P).trans N;have fc:=(a.cell (p:=⟨B,1,aN⟩) P).trans O;go_simp;exact f _ _ a (AP _ _) rfl
  iterate 2
   refine Zk.con (λQ u X a d KK f=>?_) ?_
   ·go_simp;exact f _ _ a (AP _ _) rfl
  refine Zk.con (λQ u X a d KK f=>?_) ?_
  ·have p6:u 6=_:=d 6 rfl;rw[p6] at f⊢;go_simp;exact f _ _ a (AP _ _) rfl
  refine Zk.con (λQ u X a d KK f=>?_) ?_
  ·have p5:u 5=_:=d 5 rfl;have p7:u 7=_:=d 7 rfl;rw[p5,p7] at f⊢;go_simp;exact f _ _ a (AP _ _) rfl
  refine Zk.con (λQ u X a d KK f=>?_) ?_
  ·have p8:u 8=_:=d 8 rfl;rw[p8] at f⊢;go_simp;exact f _ _ (Zo a _) (Zy _ _) ⟨_,rfl,a.size,Blk.new _ _ _⟩
  exact Zk.nil
 ·intro Q u X a d KK f;have p3:u 3=_:=d 3 AC;have p4:u 4=_:=d 4 AC;obtain⟨D,p9,fj,av⟩:=d 9 AC;generalize u 3=x3 at *;subst p3;generalize u 4=x4 at *;subst p4;generalize u 9=x9 at *;subst p9;have bi:=ab.below a;obtain⟨ts,W⟩:=bi.known;have cg:U4 prog 220 (kB l n):=Zs6 AA AA;obtain⟨w',dp,ck,ch⟩:=W.map.put (b:=D) Tryz.keyKB underlying162 W.few cg;have a9:=bi.put W HK ⟨I,(aQ R),L,bq,av,b5 _ _ _ (bu.below a)⟩ (by rintro (h | h);exact absurd (HS _ h) AA;omega) ck ch;have c6:=LH (And.intro a9.1 (And.intro ((Off.of_below a).trans a9.2.1 λ_ _ h=>h) a9.2.2));unfold kB at dp;go_simp;exact f (λi=>([u 0,u 1,u 2,.map (some M),aG #[aS (str (Vr l)),aI aJ (n:Int)],u 5,u 6,u 7,u 8,aP (some ⟨D,0,aN⟩)]:List Value).getD i undef) _ (⟨D,ts,c6⟩)
 intro u z dk;obtain⟨D,ts,b9,a6,cc⟩:=dk;have ay:=LH b9;have bz:=LH (bx.map_trans a6);have cz:=LH (a6.blk az (ab.not_map az));have bd:=LH (a6.blk ad (ab.not_map ad));obtain⟨bv,F,hv,di⟩:=cc.there (By ..);obtain⟨Av,nv,cv,dv,V,aw⟩:=hv;unfold kB at F;have H:=ay.box.lt;have Y:=ay.box.cell 4;have N:=bd.cell 0;have O:=bd.cell 1;have P:=bd.lt;have v0:=V.cell 0;have v1:=V.cell 1;have vl:=V.lt;have bc:=Yt z;go_upto_region 13 with fail;refine Yx 8 AB AB ?_;simp only[List.take_succ_cons,List.take_zero,List.drop_succ_cons,Ed];repeat (go_big_quiet_step (fail))
 refine BJ ?_;rintro _⟨y,rfl⟩;have j:=Zr z y;have o:=cz.ext j;have ak:=LH (Zxm (S:=S) (ay.below j) o (aw.below j) (bz.map_trans (Off.of_below j)) (.inr rfl) cf (AJ _) λq hq => .inl hq);have d0:=o.cell 0;have d1:=o.cell 1;have f0:=o.frozen 0;have f1:=o.frozen 1;have l5:=o.lt;generalize bl z y=WZ at *;go_wp2_with fail;refine AW (AX (p:=6) AB _ _ w 168 #[K Av nv cv,aB dv] (0,0) _ rfl ak.1 underlying168 rfl AB) rfl ?_;exact ak.2
end
section
variable {W0:World} {k:BkH} {h:GH} {G:Gr} {mk:Nat} {cs:List Nat} {S:Nat->Prop} {A:Option Addr} {c:Nat} {W:World}
def Me.below(M:Me W0 k h G mk cs S A c W)(b:Below W W a):Me W0 k h G mk cs S A c a:=M.off (M.bk.below b) (Off.of_below b)
end
def tr_pair{W0:World}{k:BkH}{h:GH}{G:Gr}(hB:BkG W0 h G){s:Int}{kk:Nat}(hk:J1 (s::l) n)(dy:kk<=n)(hh:∀x∈s::l,G.has x=true)(S:Nat->Prop)(w:World)(A:Option Addr)(c:Nat)(C:Wd W0 k h G S w)(hS:∀b,S b->b<w.heap.size)(hl:Za .i64 W0 A (s::l).length c (s::l)):
 Calls prog 166 #[aP (some ⟨k.c,0,none⟩),aK A (s::l).length c,aI aJ (kk:Int),aI aJ (n:Int)] w (Zuw W0 k h G S w (Zx (Zv G) [s] kk*Zx (Zv G) l (n-kk))):=by
 have b1:=hl.cap;have c5:=hk.len;have d4:=hk.n;obtain⟨ab,ao,_,rfl,_,_,_⟩:=hl.get (j:=0) AE;have bg:=hl.tail1;rw[show (s::l).length-1=l.length from rfl] at bg;obtain⟨At,cz⟩:∃At:Option Addr,(if c=1 then some (⟨ab,ao,none⟩:Addr) else some ⟨ab,ao+1,none⟩)=At:=⟨_,rfl⟩;rw[cz] at bg;have dx:(1:Int)<=(c:Int):=by simp at b1;omega
 have cf:=hl.take 1 c AE (by simp at b1;omega) b1.2;have K1:Hid (J1 [s] kk):=LH ⟨λx O=>hk.sym x (by simp at O ⊢;exact .inl O),AE,AA⟩;have K2:Hid (J1 l (n-kk)):=LH ⟨λx O=>hk.sym x (.tail _ O),by simp at c5;omega,AA⟩;have H1:Hid (∀x∈[s],G.has x=true):=LH λx O=>hh x (by simp at O ⊢;exact .inl O);have H2:Hid (∀x∈l,G.has x=true):=LH λx O=>hh x (.tail _ O);have b0:=(Zy w (aC #[aK none 0 0,aB false] 168)).drew;have bz:=(Blk.new w 168 #[aK none 0 0,aB false]).drew;have ci:=C.more b0 (AJ w);have HB:=LH hB;have cq:Hid (Za .i64 W0 (some ⟨ab,ao,none⟩) [s].length c [s]):=LH (by simpa using cf);have cr:=LH bg;have HM:Hid (PM W0 k h G (λb=>S b\/b=w.heap.size) w w (λ_=>false) (λi=>([]:List Value).getD i undef) (w.alloc (aC #[aK none 0 0,aB false] 168)).drew):=LH ⟨⟨_,ci,λq h=>h,λq R=>by
  have:=bz.lt;rcases R with R | rfl
  ·have:=hS q R;omega
  omega,nofun,nofun⟩,Off.of_below b0,bz,nofun⟩
 have b2:W0.heap.size<=w.heap.size:=C.base.size;have HS:=LH hS;clear hB hk hh C hS hl bz ci b0 cf bg;go_enter func166,ntmps166;go_upto_region 1 with fail;refine wp_region_free (Γ:=Unit) (λ_ b u X=>PM W0 k h G (λb=>S b\/b=w.heap.size) w w b u X) (λX X'=>Zf X X') () (λu=>(⟨(aP (some ⟨k.c,0,none⟩) :: aK (some ⟨ab,ao,none⟩) (l.length+1) c :: aI aJ (kk:Int) :: aI aJ (n:Int)::undef::undef::undef::undef :: aP (some ⟨w,0,none⟩)::u 12::u 13::undef::undef::u 0::u 1::u 2::u 3::u 4::u 5::u 6::u 7::u 8::u 9::u 10::u 11::undef::undef::undef::undef::undef::undef::undef::undef::undef::undef::undef::undef::undef::undef::undef::undef::undef::undef::undef::undef::undef::undef::undef::undef::undef::undef::undef::undef::undef::undef::undef::undef::undef::undef::undef::undef::undef::undef::undef::undef::undef::[]).toArray,[]⟩:Act)) [] [λv X=>v = aP (some ⟨k.c,0,none⟩),λv X=>v = aK (some ⟨ab,ao,none⟩) (l.length+1) c,λv X=>v = aK (some ⟨ab,ao,none⟩) 1 c,λv X=>v = aI aJ (kk:Int),λv X=>∃z n1 c1 L,v = aG #[aK z n1 c1,aB L]/\Z1 X z n1 c1 L (Zx (Zv G) [s] kk),λv X=>v = aP (some ⟨k.c,0,none⟩),λv X=>v = aK (some ⟨ab,ao,none⟩) (l.length+1) c,λv X=>v = aK At l.length (c-1),λv X=>v = aI aJ (n:Int),λv X=>v = aI aJ (kk:Int),λv X=>v = aI aJ ((n-kk:Nat):Int),λv X=>∃z n1 c1 L,v = aG #[aK z n1 c1,aB L]/\Z1 X z n1 c1 L (Zx (Zv G) l (n-kk)),λv X=>True,λv X=>True,λv X=>True,λv X=>True] (l:=[_,_,_,_,_,_,_,_,_,_,_,_,_,_,_,_]) AB AB rfl HM.out ⟨AI,AI,AI,AI,(λv X X' ⟨z,n1,c1,L,e,h⟩ hb=>⟨z,n1,c1,L,e,h.kept hb⟩),AI,AI,AI,AI,AI,AI,(λv X X' ⟨z,n1,c1,L,e,h⟩ hb=>⟨z,n1,c1,L,e,h.kept hb⟩),AI,AI,AI,AI,trivial⟩ ?_ ?_
 ·refine Zw.con (λQ g b u X f H a d K m=>?_) ?_
  ·have t:=λv=>a.idle 0 v AC;clear a f;clear d;go_simp;exact m _ () _ ⟨AJ _,λ_ _ _=>rfl⟩ (t _) (rfl)
  refine Zw.con (λQ g b u X f H a d K m=>?_) ?_
  ·have t:=λv=>a.idle 1 v AC;clear a f;clear d;go_simp;exact m _ () _ ⟨AJ _,λ_ _ _=>rfl⟩ (t _) (rfl)
  refine Zw.con (λQ g b u X f H a d K m=>?_) ?_
  ·have p1:u 1=_:=(d 1 rfl).2;have t:=λv=>a.idle 2 v AC;clear a f;clear d;rw[p1] at m⊢;go_simp;exact m _ () _ ⟨AJ _,λ_ _ _=>rfl⟩ (t _) (rfl)
  refine Zw.con (λQ g b u X f H a d K m=>?_) ?_
  ·have t:=λv=>a.idle 3 v AC;clear a f;clear d;go_simp;exact m _ () _ ⟨AJ _,λ_ _ _=>rfl⟩ (t _) (rfl)
  refine Zw.con (λQ g b u X f H a d K m=>?_) ?_
  ·have p0:u 0=_:=(d 0 rfl).2;have p2:u 2=_:=(d 2 rfl).2;have p3:u 3=_:=(d 3 rfl).2;have ap:b 14=false:=f.no H AB;obtain⟨S2,al,bb,bw⟩:=a.asked 4 (.inl ⟨rfl,ap⟩);have CC:Calls prog 109 #[aP (some ⟨k.c,0,none⟩),aK (some ⟨ab,ao,none⟩) 1 c,aI aJ (kk:Int)] X _:=Zzz HB.out K1.out H1.out S2 X _ _ al bb (cq.out.below al.base);clear a f;clear d;rw[p0,p2,p3] at m⊢;go_simp;go_at_call 109;(with_reducible refine CC.mono ?_);rintro e X'⟨bv,a6,z,n1,c1,L,rfl,hv⟩;go_simp;exact m _ () _ (al.keep a6) (bw _ _ bv a6) ⟨z,n1,c1,L,rfl,hv⟩
  refine Zw.con (λQ g b u X f H a d K m=>?_) ?_
  ·have t:=λv=>a.idle 5 v AC;clear a f;clear d;go_simp;exact m _ () _ ⟨AJ _,λ_ _ _=>rfl⟩ (t _) (rfl)
  refine Zw.con (λQ g b u X f H a d K m=>?_) ?_
  ·have t:=λv=>a.idle 6 v AC;clear a f;clear d;go_simp;exact m _ () _ ⟨AJ _,λ_ _ _=>rfl⟩ (t _) (rfl)
  refine Zw.con (λQ g b u X f H a d K m=>?_) ?_
  ·have p6:u 6=_:=(d 6 rfl).2;have dz:(1:Int)<=(l.length:Int)+1:=AA
   have t:=λv=>a.idle 7 v AC;clear a f;clear d;generalize u 6=x6 at *;subst p6;go_simp;exact m _ () _ ⟨AJ _,λ_ _ _=>rfl⟩ (t _) (rfl)
  refine Zw.con (λQ g b u X f H a d K m=>?_) ?_
  ·have t:=λv=>a.idle 8 v AC;clear a f;clear d;go_simp;exact m _ () _ ⟨AJ _,λ_ _ _=>rfl⟩ (t _) (rfl)
  refine Zw.con (λQ g b u X f H a d K m=>?_) ?_
  ·have t:=λv=>a.idle 9 v AC;clear a f;clear d;go_simp;exact m _ () _ ⟨AJ _,λ_ _ _=>rfl⟩ (t _) (rfl)
  refine Zw.con (λQ g b u X f H a d K m=>?_) ?_
  ·have p8:u 8=_:=(d 8 rfl).2;have p9:u 9=_:=(d 9 rfl).2;have hw:IntKind.i64.wrap ((n:Int)-(kk:Int))=((n-kk:Nat):Int):=by rw[BZ _ AA];omega
   have t:=λv=>a.idle 10 v AC;clear a f;clear d;generalize u 8=x8 at *;subst p8;generalize u 9=x9 at *;subst p9;go_simp;exact m _ () _ ⟨AJ _,λ_ _ _=>rfl⟩ (t _) (by first | rfl | rw[hw])
  refine Zw.con (λQ g b u X f H a d K m=>?_) ?_
  ·have p5:u 5=_:=(d 5 rfl).2;have p7:u 7=_:=(d 7 rfl).2;have dc:u 10=_:=(d 10 rfl).2;have ap:b 15=false:=f.no H AB;obtain⟨S2,al,bb,bw⟩:=a.asked 11 (.inr ⟨rfl,ap⟩);have CC:Calls prog 109 #[aP (some ⟨k.c,0,none⟩),aK At l.length (c-1),aI aJ ((n-kk:Nat):Int)] X _:=Zzz HB.out K2.out H2.out S2 X _ _ al bb (cr.out.below al.base);clear a f;clear d;rw[p5,p7,dc] at m⊢;go_simp;go_at_call 109;(with_reducible refine CC.mono ?_);rintro e X'⟨bv,a6,z,n1,c1,L,rfl,hv⟩;go_simp;exact m _ () _ (al.keep a6) (bw _ _ bv a6) ⟨z,n1,c1,L,rfl,hv⟩
  refine Zw.con (λQ g b u X f H a d K m=>?_) ?_
  ·have ap:b 14=false:=f.no H AB;have t:=a.made 12 (.inl ⟨rfl,ap⟩);clear a f;clear d;go_simp;exact m _ () _ (.of_below (Zy _ _)) t trivial
  refine Zw.con (λQ g b u X f H a d K m=>?_) ?_
  ·have ap:b 15=false:=f.no H AB;have t:=a.made 13 (.inr ⟨rfl,ap⟩);clear a f;clear d;go_simp;exact m _ () _ (.of_below (Zy _ _)) t trivial
  refine Zw.con (λQ g b u X f H a d K m=>?_) ?_
  ·obtain⟨z,n1,c1,L,p4,hv⟩:=(d 4 rfl).2;obtain⟨gC,A0,n0,c0,d0,dd,P,a8⟩:=a.wrote 14 12 4 (.inl ⟨rfl,rfl,rfl⟩) (d 12 rfl).1 p4 (AJ _) b2;clear d a f;generalize u 12=fd at *;subst dd;generalize u 4=x4 at *;subst p4;have y0:=P.cell 0;have y1:=P.cell 1;have y2:=P.frozen 0;have y3:=P.frozen 1;have y4:=P.lt;clear P;go_simp;exact m undef () _ (a8 undef).2 (a8 undef).1 trivial
  refine Zw.con (λQ g b u X f H a d K m=>?_) ?_
  ·obtain⟨z,n1,c1,L,cl,hv⟩:=(d 11 rfl).2;obtain⟨gC,A0,n0,c0,d0,de,P,a8⟩:=a.wrote 15 13 11 (.inr ⟨rfl,rfl,rfl⟩) (d 13 rfl).1 cl (AJ _) b2;clear d a f;generalize u 13=fe at *;subst de;generalize u 11=fc at *;subst cl;have y0:=P.cell 0;have y1:=P.cell 1;have y2:=P.frozen 0;have y3:=P.frozen 1;have y4:=P.lt;clear P;go_simp;exact m undef () _ (a8 undef).2 (a8 undef).1 trivial
  exact Zw.nil
 intro _ b u J a7 a hd;obtain⟨z,n1,c1,L,e4,b5⟩:=hd 4 AC;obtain⟨A2,n2,c2,d2,bt,b6⟩:=hd 11 AC;obtain⟨⟨S2,hC,b4,bb,cd,ce⟩,hO,hR,c7⟩:=a;obtain⟨g1,B1,m1,k1,q1,b9,c9,dm,X1,t1⟩:=cd (a7 12 AC);obtain⟨g2,B2,m2,k2,q2,ca,da,dn,X2,t2⟩:=ce (a7 13 AC);have t1:=e4.symm.trans (t1 (a7 14 AC));have t2:=bt.symm.trans (t2 (a7 15 AC));injection t1 with t1;injection t2 with t2;simp only[Array.mk.injEq,List.cons.injEq,Value.slice.injEq,Value.bool.injEq,and_true] at t1 t2;obtain⟨⟨rfl,rfl,rfl⟩,rfl⟩:=t1;obtain⟨⟨rfl,rfl,rfl⟩,rfl⟩:=t2;rw[e4,bt,b9,ca];clear c7 cd ce a7 hd HM e4 bt b9 ca;clear t1 t2;generalize u 0=z0 at *;generalize u 1=z1 at *;generalize u 2=z2 at *;generalize u 3=z3 at *;generalize u 5=z5 at *;generalize u 6=z6 at *;generalize u 7=z7 at *;generalize u 8=z8 at *;generalize u 9=z9 at *;generalize u 10=fp at *;clear u;have bl:=X1.cell 0;have bm:=X1.cell 1;have bn:=X2.cell 0;have bo:=X2.cell 1;have bp:=X1.lt;have br:=X2.lt;have r0:=hR.cell 0;have r1:=hR.cell 1;have f0:=hR.frozen 0;have f1:=hR.frozen 1;have l0:=hR.lt;have HC:=LH hC;have HO:=LH hO;have HR:=LH hR;have bc:=LH X1;have bd:=LH X2;have ae:=LH b5;have af:=LH b6;have cu:Hid (∀q,S q->S2 q):=LH λq R=>b4 q (.inl R);have ct:Hid (S2 w):=b4 _ (.inr rfl);have k1:=Zs5 b5;have k2:=Zs5 b6;clear hC hO hR X1 X2 b5 b6 b4 bb c9 da dm dn;generalize Zx (Zv G) [s] kk=x at *;generalize Zx (Zv G) l (n-kk)=y at *;have ai:Hid (∀(W:World) (A':Option Addr) (n' c':Nat) (b':Bool),Below J J W->Z1 W A' n' c' b' (x*y)->
  Blk ((W.setCell ⟨w,0,none⟩ (aK A' n' c')).setCell ⟨w,1,none⟩ (aB b')) w 168 #[aK A' n' c',aB b']/\Zuw W0 k h G S w (x*y) (aR (aG #[aK A' n' c',aB b'])) ((W.setCell ⟨w,0,none⟩ (aK A' n' c')).setCell ⟨w,1,none⟩ (aB b'))):=LH λW A' n' c' b' hb hv =>
  Zxm (S:=S) (HC.out.below hb) (HR.out.ext hb) hv (HO.out.map_trans (Off.of_below hb)) ct.out b2 (AJ _) cu.out
 rcases k1 with ⟨rfl,rfl,rfl⟩ | ⟨O,d3,rfl⟩ | ⟨O,rfl,rfl⟩
 case inl =>
  clear k2;have B:=LH (ai.out J none 0 0 false (AP _ _) (by rw[Nat.zero_mul];exact Z1.zero J none 0 AA));go_wp2_with fail;refine AW (AX (p:=8) AB _ _ w 168 #[aK none 0 0,aB false] (0,0) _ rfl B.out.1 underlying168 rfl AB) rfl ?_;exact B.out.2
 case inr.inl =>
  rcases k2 with ⟨rfl,rfl,rfl⟩ | ⟨hy,c6,rfl⟩ | ⟨hy,rfl,rfl⟩
  case inl =>
   have B:=LH (ai.out J none 0 0 false (AP _ _) (by rw[Nat.mul_zero];exact Z1.zero J none 0 AA));go_wp2_with fail;refine AW (AX (p:=8) AB _ _ w 168 #[aK none 0 0,aB false] (0,0) _ rfl B.out.1 underlying168 rfl AB) rfl ?_;exact B.out.2
  case inr.inl =>
   obtain⟨zs,er,Z,I⟩:=Bk O hy;obtain⟨U,R⟩:∃U,((er:Int) != 0)=U:=⟨_,rfl⟩;rw[R] at I;have D:=F2 z _ c1 (Vk x).1 A2 _ c2 (Vk y).1 J ae.out.2 af.out.2 (Wx x) (Wx y);rw[Z] at D;have V:=ae.out.1;have Y:=af.out.1;rw[<-V,<-Y] at I;have D:=LH D;have aj:=LH I;clear Z I V Y;go_wp2_with (first
    | (go_at_call 209
       (with_reducible refine D.out.mono ?_);rintro e T⟨M,c3,rfl,N,r⟩;simp only[] at N;have B:=LH (ai.out T M zs.length c3 _ r (aj.out T M c3 N));have E:=bc.out.ext r;have F:=bd.out.ext r;have o:=HR.out.ext r;have bl:=E.cell 0;have bm:=E.cell 1;have bn:=F.cell 0;have bo:=F.cell 1;have bp:=E.lt;have br:=F.lt;have r0:=o.cell 0;have r1:=o.cell 1;have f0:=o.frozen 0;have f1:=o.frozen 1;have l0:=o.lt;clear r N E F o))
   refine AW (AX (p:=8) AB _ _ w 168 #[aK M zs.length c3,aB _] (0,0) _ rfl B.out.1 underlying168 rfl AB) rfl ?_;exact B.out.2
  obtain⟨zs,er,Z,I⟩:=Bk O hy;obtain⟨U,R⟩:∃U,((er:Int) != 0)=U:=⟨_,rfl⟩;rw[R] at I;have D:=F2 z _ c1 (Vk x).1 A2 _ c2 (Vk y).1 J ae.out.2 af.out.2 (Wx x) (Wx y);rw[Z] at D;have V:=ae.out.1;have Y:=af.out.1;rw[<-V,<-Y] at I;have D:=LH D;have aj:=LH I;clear Z I V Y;go_wp2_with (first
   | (go_at_call 209
      (with_reducible refine D.out.mono ?_);rintro e T⟨M,c3,rfl,N,r⟩;simp only[] at N;have B:=LH (ai.out T M zs.length c3 _ r (aj.out T M c3 N));have E:=bc.out.ext r;have F:=bd.out.ext r;have o:=HR.out.ext r;have bl:=E.cell 0;have bm:=E.cell 1;have bn:=F.cell 0;have bo:=F.cell 1;have bp:=E.lt;have br:=F.lt;have r0:=o.cell 0;have r1:=o.cell 1;have f0:=o.frozen 0;have f1:=o.frozen 1;have l0:=o.lt;clear r N E F o))
  refine AW (AX (p:=8) AB _ _ w 168 #[aK M zs.length c3,aB _] (0,0) _ rfl B.out.1 underlying168 rfl AB) rfl ?_;exact B.out.2
 rcases k2 with ⟨rfl,rfl,rfl⟩ | ⟨hy,c6,rfl⟩ | ⟨hy,rfl,rfl⟩
 case inl =>
  have B:=LH (ai.out J none 0 0 false (AP _ _) (by rw[Nat.mul_zero];exact Z1.zero J none 0 AA));go_wp2_with fail;refine AW (AX (p:=8) AB _ _ w 168 #[aK none 0 0,aB false] (0,0) _ rfl B.out.1 underlying168 rfl AB) rfl ?_;exact B.out.2
 case inr.inl =>
  obtain⟨zs,er,Z,I⟩:=Bk O hy;obtain⟨U,R⟩:∃U,((er:Int) != 0)=U:=⟨_,rfl⟩;rw[R] at I;have D:=F2 z _ c1 (Vk x).1 A2 _ c2 (Vk y).1 J ae.out.2 af.out.2 (Wx x) (Wx y);rw[Z] at D;have V:=ae.out.1;have Y:=af.out.1;rw[<-V,<-Y] at I;have D:=LH D;have aj:=LH I;clear Z I V Y;go_wp2_with (first
   | (go_at_call 209
      (with_reducible refine D.out.mono ?_);rintro e T⟨M,c3,rfl,N,r⟩;simp only[] at N;have B:=LH (ai.out T M zs.length c3 _ r (aj.out T M c3 N));have E:=bc.out.ext r;have F:=bd.out.ext r;have o:=HR.out.ext r;have bl:=E.cell 0;have bm:=E.cell 1;have bn:=F.cell 0;have bo:=F.cell 1;have bp:=E.lt;have br:=F.lt;have r0:=o.cell 0;have r1:=o.cell 1;have f0:=o.frozen 0;have f1:=o.frozen 1;have l0:=o.lt;clear r N E F o))
  refine AW (AX (p:=8) AB _ _ w 168 #[aK M zs.length c3,aB _] (0,0) _ rfl B.out.1 underlying168 rfl AB) rfl ?_;exact B.out.2
 obtain⟨zs,er,Z,I⟩:=Bk O hy;obtain⟨U,R⟩:∃U,((er:Int) != 0)=U:=⟨_,rfl⟩;rw[R] at I;have D:=F2 z _ c1 (Vk x).1 A2 _ c2 (Vk y).1 J ae.out.2 af.out.2 (Wx x) (Wx y);rw[Z] at D;have V:=ae.out.1;have Y:=af.out.1;rw[<-V,<-Y] at I;have D:=LH D;have aj:=LH I;clear Z I V Y;go_wp2_with (first
  | (go_at_call 209
     (with_reducible refine D.out.mono ?_);rintro e T⟨M,c3,rfl,N,r⟩;simp only[] at N;have B:=LH (ai.out T M zs.length c3 _ r (aj.out T M c3 N));have E:=bc.out.ext r;have F:=bd.out.ext r;have o:=HR.out.ext r;have bl:=E.cell 0;have bm:=E.cell 1;have bn:=F.cell 0;have bo:=F.cell 1;have bp:=E.lt;have br:=F.lt;have r0:=o.cell 0;have r1:=o.cell 1;have f0:=o.frozen 0;have f1:=o.frozen 1;have l0:=o.lt;clear r N E F o))
 refine AW (AX (p:=8) AB _ _ w 168 #[aK M zs.length c3,aB _] (0,0) _ rfl B.out.1 underlying168 rfl AB) rfl ?_;exact B.out.2
section
open Go.RowKit Go.Shelf
attribute [local go_sem] Oper.semAt_some
open Go.RowKit Go.Shelf
def Boxed.below{W:World}{t:TypeId}{v:Value}(h:Boxed W B t v)(b:Below W W a):Boxed a B t v:=(b.block B h.lt).trans h
end
def Zrk.below{w w':World}{A:Option Addr}{c:Nat}(h:Zrk w B A n c d f)(a:Below w w w'):Zrk w' B A n c d f :=
 ⟨B7 h.own a,λg b=>(h.noInt g b).same (a.block g (h.own.lt g b).2),h.len,λj xs o=>by
   obtain⟨k,l,h1,m⟩:=h.row j xs o;exact⟨k,l,h1,m.below a⟩⟩
section
variable {W X:World} {L:List Qr} {b:Nat->Bool} {u:Nat->Value}
def VMs.more{k:World}(M:VMs W L b u X)(l:Below X X k)(hi:∀p∈L,i≠p.ia/\i≠p.is/\(i=p.ic->b p.is=false))(v:Value):VMs W L (Mz b i) (upd u i v) k:=by
 refine⟨Zz M.below l,λp f h=>?_,λp f q n y h1 j=>?_⟩
 ·obtain⟨h1,j,s⟩:=hi p f;rw[Ys h1.symm] at h;obtain⟨g,o,e,x,t,d⟩:=M.at_ p f h;refine⟨g,o,by rw[Yj h1.symm];exact e,x,t.ext l,?_⟩;rw[Ys j.symm];rcases d with d | ⟨d,r⟩
  ·exact .inl d
  refine .inr ⟨d,?_⟩;by_cases m:i=p.ic
  ·rw[s m] at d;cases d
  rw[Yj λe=>m e.symm];exact r
 have a:=(hi p f).1;have c:=(hi q n).1;rw[Ys a.symm] at h1;rw[Ys c.symm] at j;rw[Yj a.symm,Yj c.symm];exact M.apart p f q n y h1 j
def VMs.idle(M:VMs W L b u X)(c:Below X X a)(i:Nat)(hi:L.all (λp=>p.ia != i&&p.is != i&&p.ic != i)=true)(v:Value):VMs W L (Mz b i) (upd u i v) a :=
 M.more c (λp d=>by
   have h:=BG.1 hi p d;simp only[AS,BK] at h;exact⟨h.1.1.symm,h.1.2.symm,λe=>absurd e.symm h.2⟩) v
def VMs.still{W:World}{L:List Qr}{l:List Oper}(hi:L.all (λp=>p.ia != i&&p.is != i&&p.ic != i)=true):∀(g:Unit) (b:Nat->Bool) (u:Nat->Value) (X:World) (w:Value),G9 l b->b i=false->VMs W L b u X->VMs W L (Mz b i) (upd u i w) X:=λ_ _ _ _ w _ _ h=>h.idle (AP _ _) i hi w
end
theorem Kd(A:Option Addr)(n c N:Nat)(tab:Nat->Nat->Nat)(Al:Option Addr)(W:Nat)(l:List Int)(m:Nat)(w:World)(hT:Zyq w A n c N tab)(hm:m<n)(h0:m<=100)(hN:N<=1000)(hl:Za .i64 w Al l.length W l)(hx:l.length<=100)(hs:∀s∈l,-(N:Int)<=s/\s<=1000):
 Calls prog 63 #[.slice A n c,.slice Al l.length W,.int .i64 (m:Int)] w (RetV w (Zx (Yk tab) l m)):=by
 have ht:=hl.cap;have HT:=LH hT;have Hl:=LH hl;have Hs:=LH hs;clear hT hl hs;have dl:=Zy w (.cells #[.slice none 0 0,.bool false] 110);have d5:=Blk.new w 110 #[.slice none 0 0,.bool false];have e1:(w.alloc (.cells #[.slice none 0 0,.bool false] 110)).heap.size=w.heap.size+1:=Zl _ _;have a8:=Zzv (m+1) AA;have h5:IntKind.i64.wrap ((m:Int)+1)=(m:Int)+1:=BZ _ AA;rw[show ((m+1:Nat):Int)=(m:Int)+1 from rfl] at a8;go_enter func63,ntmps63;go_upto_region 1 with fail;generalize w.alloc (.cells #[.slice none 0 0,.bool false] 110)=W1 at *;go_upto_region 2 with fail;have hR:=Vp.new W1 110 (m+1);have C:=Zy W1 (.cells (zeroCells (m+1)) 110);have d6:=Blk.ext d5 C;have dm:=Zz dl C;generalize W1.alloc (.cells (zeroCells (m+1)) 110)=W2 at *;rw[e1] at hR;clear d5 dl C;go_wp2_with fail;(with_reducible refine (Zsl W2).mono ?_);rintro e W3⟨bk,A3,m3,c3,b3,rfl,fd⟩;have al:=hR.below bk;have d7:=Blk.ext d6 bk;have b1:=Zz dm bk;obtain⟨Az,nz,cz,bz,q0,q1,_⟩:=al.get (j:=0) AE;rw[Nat.zero_mul] at q0 q1;rw[BF] at q1;have bx:=al.frozen 0;have b0:=al.frozen 1;have gb:=al.lt;obtain⟨b9,du⟩:=al.put (j:=0) AE fd;rw[Nat.zero_mul,BF] at b9 du;have hO:=(Off.of_set W3 (w.heap.size+1) 0 (.slice A3 m3 c3)).trans (Off.of_set _ (w.heap.size+1) 1 (.bool b3)) λ_ _ h=>h;have d8:=hO.blk d7 AA;have dn:Below w w _:=b1.trans (hO.is_below b1.size λk hk=>AA);have dz:Vp ((W3.setCell ⟨w+1,0,none⟩ (.slice A3 m3 c3)).setCell ⟨w+1,1,none⟩ (.bool b3)) (w.heap.size+1) 110 (Gs (Yk tab) (l.drop l.length) m):=by rw[List.drop_length,forR_nil];exact b9
 clear hR d6 dm bk al d7 b1 fd du b9 a8 e1;go_upto_region 3 with fail;generalize (W3.setCell ⟨w+1,0,none⟩ (.slice A3 m3 c3)).setCell ⟨w+1,1,none⟩ (.bool b3)=W4 at *;have fl:=LH dz;have fm:=LH d8;have fi:=LH dn;have h6:IntKind.i64.wrap ((l.length:Int)-1)=(l.length:Int)-1:=BZ _ AA;clear dz d8 dn hO q0 q1 bx b0 gb;go_wp2_with fail;go_loopw [7,8] (λv i wr=>∃(q y:Nat),q<=l.length/\i = .int .i64 ((q:Int)-1)/\v = .slice (some ⟨y,0,none⟩) (m+1) (m+1)/\w.heap.size<y/\Hid (Vp wr y 110 (Gs (Yk tab) (l.drop q) m))/\Hid (Below w w wr)/\Hid (Blk wr w 110 #[.slice none 0 0,.bool false])) (λ_ i _=>(intOf i+1).toNat)
 case atStart=>exact⟨l.length,w.heap.size+1,AJ _,rfl,rfl,Ek _,fl,fi,fm⟩
 obtain⟨q,y,hq,rfl,rfl,hu,HR,HB,O⟩:=hrel;by_cases gg:q=0
 case pos =>
  subst gg;have hn:¬(((0:Nat):Int)-1 ≥ 0):=AA
  obtain⟨A5,m5,c5,b5,q0,q1,ce⟩:=HR.out.get (j:=m) (by rw[Zwg];omega);rw[Ed,Zy6 _ _ (AJ m)] at ce;have x0:=O.out.cell 0;have x1:=O.out.cell 1;have f0:=O.out.frozen 0;have f1:=O.out.frozen 1;have xl:=O.out.lt;have gl:=HR.out.lt;have fs:=LH ce;have bo:=LH (Vb O.out HB.out (AJ _) A5 m5 c5 b5);clear ce;go_wp2_with fail;refine AW (AX (p:=6) AB _ _ w 110 #[.slice A5 m5 c5,.bool b5] (0,0) _ rfl bo.out.2.1 underlying110 rfl AB) rfl ?_;exact⟨bo.out.1,_,_,_,_,rfl,fs.out.kept bo.out.2.2⟩
 obtain⟨z,rfl⟩:∃z,q=z+1:=⟨q-1,AA⟩;have hi:((z+1:Nat):Int)-1=(z:Int):=AA
 rw[hi];have a8:=Zzv (m+1) AA;rw[show ((m+1:Nat):Int)=(m:Int)+1 from rfl] at a8;have cb:=Hl.out.below HB.out;obtain⟨lb,I,t,rfl,cc,de,dj⟩:=cb.get (j:=z) AA;have gi:=Hs.out t (AM de.out);have fp:Hid (l.drop z=t::l.drop (z+1)):=LH (by
  have h1:=(AN.1 de.out);rw[Eb h1.1,h1.2])
 generalize ga:l.drop (z+1)=x at *;have dd:=LH (HT.out.below HB.out);clear ga hi;go_upto_region 7 with fail;have d0:=Vp.new wr 110 (m+1);have aa:=Zy wr (.cells (zeroCells (m+1)) 110);have dy:=HR.out.below aa;have d9:=Blk.ext O.out aa;have dp:=Zz HB.out aa;have fa:=HR.out.lt;have h8:=O.out.lt;have g7:=LH (cb.below aa);have g6:=LH (dd.out.below aa);have e2:(wr.alloc (.cells (zeroCells (m+1)) 110)).heap.size=wr.heap.size+1:=Zl _ _;have fw:(wr.alloc (.cells (zeroCells (m+1)) 110)).cell? ⟨lb,I+z,none⟩=some (.int .i64 t):=(aa.cell (p:=⟨lb,I+z,none⟩) cc).trans dj;generalize f9:wr.heap.size=r at *;generalize wr.alloc (.cells (zeroCells (m+1)) 110)=WX at *;have db:Hid (Vp WX r 110 (D5 (Yk tab) t (Zx (Yk tab) x) m 0)):=LH (by rw[rowF_zero];exact d0);have fk:=LH dy;have fo:=LH d9;have bh:=LH dp;have hw:lb<r:=cc;clear d0 aa dy d9 dp HR HB O dd cb a8 dj cc f9;go_wp2_with fail;go_loopw [10] (λi wz=>∃K:Nat,K<=m+1/\i = .int .i64 (K:Int)/\Hid (Vp wz r 110 (D5 (Yk tab) t (Zx (Yk tab) x) m K))/\Hid (Vp wz y 110 (Gs (Yk tab) x m))/\Hid (Off (λk=>k=r) WX wz)) (λi _=>m+1-(intOf i).toNat)
 case atStart=>exact⟨0,AV _,rfl,db,fk,LH (Off.refl _ _)⟩
 obtain⟨K,hK,rfl,bm,L,E⟩:=hrel;by_cases ho:K<=m
 case neg =>
  obtain rfl:m+1=K:=AA
  have gf:¬(((m+1:Nat):Int)<=(m:Int)):=AA
  have P:Hid (Vp wr r 110 (Gs (Yk tab) (l.drop z) m)):=LH (by rw[fp.out,<-rowF_done];exact bm.out);have fj:=LH (bh.out.trans (E.out.is_below bh.out.size λk hk=>AA));have fn:=LH (E.out.blk fo.out AA);go_wp2_with fail;go_roundw
  case rel=>exact⟨z,r,AA,AF,rfl,AA,P,fj,fn⟩
  simp[intOf] <;> omega
 have h9:r<WX.heap.size:=AA
 have f2:Zf WX wr:=Zf.of_off E.out λg hg=>by rw[hg];exact db.out.noInt
 have d4:Zyq wr A n c N tab:=HT.out.below (bh.out.trans (E.out.is_below bh.out.size λk hk=>AA));have cT:=Ztn A n c N tab t K wr d4 AA hN AA (λ_=>gi.1);have fx:wr.cell? ⟨lb,I+z,none⟩=some (.int .i64 t):=(DG (a:=⟨lb,I+z,none⟩) (E.out.keep lb AA AA)).trans fw;have CT:=LH cT;clear d4 cT;go_wp2_with fail;(with_reducible refine CT.out.mono ?_);rintro e W6⟨bl,D,B,F,Y,rfl,cf⟩;have b7:=bm.out.below bl;have dw:=L.out.below bl;have dx:=E.out.trans (Off.of_below (S:=λk=>k=r) bl) λ_ _ h=>h;have a4:=Zy W6 (.cells #[.slice D B F,.bool Y] 110);have dt:=Blk.new W6 110 #[.slice D B F,.bool Y];have b8:=LH (b7.below a4);have f5:=LH (dw.below a4);have f6:=LH (dx.trans (Off.of_below (S:=λk=>k=r) a4) λ_ _ h=>h);have fe:=LH (cf.below a4);have hz:=cf.none_iff;have hv:r<W6.heap.size:=b7.lt;go_upto_region 11 with fail;generalize W6.alloc (.cells #[.slice D B F,.bool Y] 110)=W7 at *;generalize W6.heap.size=H at *;have c9:=LH dt;clear b7 dw dx a4 dt cf bl CT fx bm L E f2;have Hz:=LH hz;have gk:=c9.out.cell 0;clear hz gk;go_wp2_with fail;go_loopw [12] (λi wz=>∃M:Nat,K<=M/\M<=m+1/\i = .int .i64 (M:Int)/\Hid (Yk tab t K=0->M=K)/\Hid (Vp wz r 110 (Gx (Yk tab) t (Zx (Yk tab) x) m K M))/\Hid (Vp wz y 110 (Gs (Yk tab) x m))/\Hid (Off (λk=>k=r) W7 wz)) (λi _=>m+1-(intOf i).toNat)
 case atStart=>exact⟨K,AJ _,AA,rfl,LH λ_=>rfl,LH (by rw[Zvo];exact b8.out),f5,LH (Off.refl _ _)⟩
 obtain⟨M,dv,hM,rfl,ft,V,L,E⟩:=hrel;have ae:=E.out.blk c9.out AA;have x0:=ae.cell 0;have x1:=ae.cell 1;have xl:=ae.lt;have da:=LH (f6.out.trans E.out λ_ _ h=>h);by_cases bj:M<=m
 case neg =>
  obtain rfl:m+1=M:=AA
  have gf:¬(((m+1:Nat):Int)<=(m:Int)):=AA
  have P:Hid (Vp wr r 110 (D5 (Yk tab) t (Zx (Yk tab) x) m (K+1))):=LH (by rw[<-mid_end];exact V.out);clear ae;go_wp2_with fail;go_roundw
  case rel=>exact⟨K+1,AA,AF,P,L,da⟩
  simp[intOf] <;> omega
 by_cases am:Yk tab t K=0
 case pos =>
  obtain⟨rfl,rfl⟩:=Hz.out.2 am;obtain rfl:M=K:=ft.out am;have P:Hid (Vp wr r 110 (D5 (Yk tab) t (Zx (Yk tab) x) m (M+1))):=LH (by rw[mid_skip _ _ am,<-Zvo];exact V.out);clear ae;go_wp2_with fail;go_roundw
  case rel=>exact⟨M+1,AA,AF,P,L,da⟩
  simp[intOf] <;> omega
 have f7:(Y=true)\/(Y=false/\(0:Int)<(B:Int)):=by
  rcases Y with _ | _
  ·exact .inr ⟨rfl,by have h7:B≠0:=λh=>am (Hz.out.1 ⟨rfl,h⟩);omega⟩
  exact .inl rfl
 rcases f7 with rfl | ⟨rfl,h3⟩
 case inl =>
  as_aux_lemma =>
   go_upto_region 14 with fail;obtain⟨A1,n1,c1,d1,r0,r1,ag⟩:=V.out.get (j:=M) (by rw[J2];omega);obtain⟨A2,n2,c2,d2,s0,s1,ah⟩:=L.out.get (j:=M-K) (by rw[Zwg];omega);rw[mid_get _ _ _ bj] at ag;rw[Zy6 _ _ (AA:M-K<=m)] at ah;have bu:Hid (Z1 wr D B F true (Yk tab t K)):=LH (fe.out.kept (Zf.of_off E.out λg hg=>by rw[hg];exact b8.out.noInt));have bs:=LH ag;have bt:=LH ah;have a7:=V.out.lt;have a6:=L.out.lt;have cd:((M:Int)-(K:Int))=((M-K:Nat):Int):=AA
   have gj:IntKind.i64.wrap ((M:Int)-(K:Int))=(M:Int)-(K:Int):=BZ _ AA;have gc:(0:Int)<=(M:Int)-(K:Int):=AA
   have gd:(M:Int)-(K:Int)<(m:Int)+1:=AA
   have ge:((M:Int)-(K:Int)).toNat=M-K:=AA
   have f3:(M:Int)<(m:Int)+1:=AA
   have bn:Hid (Hw (Yk tab) t (Zx (Yk tab) x) (K+1) M=Hw (Yk tab) t (Zx (Yk tab) x) K M+Yk tab t K*Zx (Yk tab) x (M-K)):=Ah _ _ _ dv;clear ag ah cd ae;refine Xh (λX=>Below wr wr X) (λX X'=>Below X X X') (λu=>(⟨(Value.slice A n c::Value.slice (some ⟨lb,I,none⟩) l.length W::Value.int .i64 (m:Int)::undef::undef::undef::Value.pointer (some ⟨w,0,none⟩)::Value.slice (some ⟨y,0,none⟩) (m+1) (m+1)::Value.int .i64 (z:Int)::Value.slice (some ⟨r,0,none⟩) (m+1) (m+1)::Value.int .i64 (K:Int)::Value.pointer (some ⟨H,0,none⟩)::Value.int .i64 (M:Int)::Value.int .i64 (m:Int)::Value.int .i64 ((m:Int)+1)::Value.slice (some ⟨w+1,0,none⟩) (m+1) (m+1)::Value.slice (some ⟨w+1,0,none⟩) (m+1) (m+1)::Value.agg #[Value.slice A3 m3 c3,Value.bool b3]::Value.pointer (some ⟨w+1,0,none⟩)::Value.slice (some ⟨lb,I,none⟩) l.length W::Value.int .i64 (l.length:Int)::Value.int .i64 ((l.length:Int)-1)::Value.int .i64 (z:Int)::Value.bool true::u24::u25::Value.int .i64 (m:Int)::Value.int .i64 ((m:Int)+1)::Value.slice (some ⟨r,0,none⟩) (m+1) (m+1)::Value.int .i64 (K:Int)::Value.int .i64 (m:Int)::Value.bool true::u32::u33::Value.slice A n c::Value.slice (some ⟨lb,I,none⟩) l.length W::Value.int .i64 (z:Int)::Value.pointer (some ⟨lb,I+z,none⟩)::Value.int .i64 t::Value.int .i64 (K:Int)::Value.agg #[Value.slice D B F,Value.bool true]::Value.int .i64 (K:Int)::Value.int .i64 (M:Int)::Value.int .i64 (m:Int)::Value.bool true::Value.bool true::Value.pointer (some ⟨H,1,none⟩)::Value.bool true::Value.bool true::undef::undef::undef::undef::Value.bool true::Value.bool true::u55::u56::u 0::u 1::u 2::u 3::u 4::u 5::u 6::u 7::u 8::u 9::u 10::u 11::u 12::u 13::u 14::u 15::u73::undef::undef::undef::undef::[]).toArray,[]⟩:Act)) [u57,u58,u59,u60,u61,u62,u63,u64,u65,u66,u67,u68,u69,u70,u71,u72] [λv X=>v=Value.slice (some ⟨r,0,none⟩) (m+1) (m+1),λv X=>v=Value.int .i64 (M:Int),λv X=>v=Value.slice (some ⟨r,0,none⟩) (m+1) (m+1),λv X=>v=Value.int .i64 (M:Int),λv X=>v=Value.pointer (some ⟨r,M*2,none⟩),λv X=>v=Value.agg #[Value.slice A1 n1 c1,Value.bool d1],λv X=>v=Value.agg #[Value.slice D B F,Value.bool true],λv X=>v=Value.slice (some ⟨y,0,none⟩) (m+1) (m+1),λv X=>v=Value.int .i64 (M:Int),λv X=>v=Value.int .i64 (K:Int),λv X=>v=Value.int .i64 ((M:Int)-(K:Int)),λv X=>v=Value.pointer (some ⟨y,(M-K)*2,none⟩),λv X=>v=Value.agg #[Value.slice A2 n2 c2,Value.bool d2],λv X=>∃A n c b,v=Value.agg #[Value.slice A n c,Value.bool b]/\Z1 X A n c b (Yk tab t K*Zx (Yk tab) x (M-K)),λv X=>∃A n c b,v=Value.agg #[Value.slice A n c,Value.bool b]/\Z1 X A n c b (Hw (Yk tab) t (Zx (Yk tab) x) (K+1) M),λv X=>v=Value.pointer (some ⟨r,M*2,none⟩)] (λu X=>Vp X r 110 (Gx (Yk tab) t (Zx (Yk tab) x) m K (M+1))/\Vp X y 110 (Gs (Yk tab) x m)/\Off (λk=>k=r) wr X) (l:=[_,_,_,_,_,_,_,_,_,_,_,_,_,_,_,_]) AB AB AB rfl rfl (AP _ _).drew ⟨AI,AI,AI,AI,AI,AI,AI,AI,AI,AI,AI,AI,AI,(λ_ _ _ ⟨A,n,c,b,e,h⟩ hb=>⟨A,n,c,b,e,h.below hb⟩),(λ_ _ _ ⟨A,n,c,b,e,h⟩ hb=>⟨A,n,c,b,e,h.below hb⟩),AI,trivial⟩ ?_ ?_ ?_
   ·refine Zk.v0 ?_;refine Zk.v0 ?_;refine Zk.v0 ?_;refine Zk.v0 ?_;refine Zk.vf (λQ u X KK d f o=>?_) ?_
    ·have p2:u 2=_:=f 2 rfl;have p3:u 3=_:=f 3 rfl;clear f;generalize u 2=x2 at *;subst p2;generalize u 3=x3 at *;subst p3;go_simp;exact o
    refine Zk.vf (λQ u X KK d f o=>?_) ?_
    ·have p4:u 4=_:=f 4 rfl;clear f;generalize u 4=x4 at *;subst p4;have ax:=(d.cell (p:=⟨r,M*2,none⟩) a7).trans r0;have ay:=(d.cell (p:=⟨r,M*2+1,none⟩) a7).trans r1;go_simp;exact o
    refine Zk.vf (λQ u X KK d f o=>?_) ?_
    ·have ax:=(d.cell (p:=⟨H,0,none⟩) xl).trans x0;have ay:=(d.cell (p:=⟨H,1,none⟩) xl).trans x1;go_simp;exact o
    refine Zk.v0 ?_;refine Zk.v0 ?_;refine Zk.v0 ?_;refine Zk.vf (λQ u X KK d f o=>?_) ?_
    ·have p8:u 8=_:=f 8 rfl;have p9:u 9=_:=f 9 rfl;clear f;generalize u 8=x8 at *;subst p8;generalize u 9=x9 at *;subst p9;go_simp;exact o
    refine Zk.vf (λQ u X KK d f o=>?_) ?_
    ·have p7:u 7=_:=f 7 rfl;have ck:u 10=_:=f 10 rfl;clear f;generalize u 7=x7 at *;subst p7;generalize u 10=gn at *;subst ck;go_simp;exact o
    refine Zk.vf (λQ u X KK d f o=>?_) ?_
    ·have cm:u 11=_:=f 11 rfl;clear f;generalize u 11=gp at *;subst cm;have ax:=(d.cell (p:=⟨y,(M-K)*2,none⟩) a6).trans s0;have ay:=(d.cell (p:=⟨y,(M-K)*2+1,none⟩) a6).trans s1;go_simp;exact o
    refine Zk.con (λQ u X d f KK o=>?_) ?_
    ·have p6:u 6=_:=f 6 rfl;have cn:u 12=_:=f 12 rfl;clear f;rw[p6,cn] at o⊢;have ch:=bu.out.below d;have ci:=bt.out.below d;go_simp;(with_reducible refine (Gt D B F true _ A2 n2 c2 d2 _ X ch ci).mono ?_);rintro e w2⟨C,Ar,nr,cr,Z,rfl,ai⟩;go_simp;exact o _ _ (Zz d C) C ⟨Ar,nr,cr,Z,rfl,ai⟩
    refine Zk.con (λQ u X d f KK o=>?_) ?_
    ·have p5:u 5=_:=f 5 rfl;obtain⟨Ar,nr,cr,Z,co,ai⟩:=f 13 rfl;clear f;rw[p5] at o⊢;generalize u 13=gr at *;subst co;have cg:=bs.out.below d;go_simp;(with_reducible refine (Zuc A1 n1 c1 d1 _ Ar nr cr Z _ X cg ai).mono ?_);rintro e w2⟨C,J,ns,cs,ds,rfl,U⟩;rw[<-bn.out] at U;go_simp;exact o _ _ (Zz d C) C ⟨J,ns,cs,ds,rfl,U⟩
    refine Zk.vf (λQ u X KK d f o=>?_) ?_
    ·have p0:u 0=_:=f 0 rfl;have p1:u 1=_:=f 1 rfl;clear f;generalize u 0=x0 at *;subst p0;generalize u 1=x1 at *;subst p1;go_simp;exact o
    exact Zk.nil
   ·intro Q u X d f KK o;obtain⟨J,ns,cs,ds,cp,U⟩:=f 14 AC;have ct:u 15=_:=f 15 AC;clear f;generalize u 14=gs at *;subst cp;generalize u 15=gt at *;subst ct;have G:=V.out.below d;have ab:=L.out.below d;obtain⟨Aq,nq,cq,dq,q0,q1,_⟩:=G.get (j:=M) (by rw[J2];omega);have bx:=G.frozen (M*2);have b0:=G.frozen (M*2+1);have gh:=G.lt;have T:=G.put (j:=M) (by rw[J2];omega) U;rw[mid_set _ _ _ bj] at T;have af:Off (λk=>k=r) X ((X.setCell ⟨r,M*2,none⟩ (.slice J ns cs)).setCell ⟨r,M*2+1,none⟩ (.bool ds)):=(Off.of_set X r (M*2) (.slice J ns cs)).trans (Off.of_set _ r (M*2+1) (.bool ds)) λ_ _ h=>h;have R:Vp _ r 110 (Gx (Yk tab) t (Zx (Yk tab) x) m K (M+1))/\Vp _ y 110 (Gs (Yk tab) x m)/\Off (λk=>k=r) wr _:=⟨T.1,ab.kept T.2 (af.keep y ab.lt (Nat.ne_of_lt fa)),(Off.of_below (S:=λk=>k=r) d).trans af λ_ _ h=>h⟩;have P:=LH R;clear R T af G ab;go_simp;exact o (λi=>([u 0,u 1,u 2,u 3,u 4,u 5,u 6,u 7,u 8,u 9,u 10,u 11,u 12,u 13,Value.agg #[Value.slice J ns cs,Value.bool ds],Value.pointer (some ⟨r,M*2,none⟩)]:List Value).getD i undef) _ (P.out)
   intro u W9 R;obtain⟨g1,g2,g3⟩:=R;have bp:=LH g1;have bq:=LH g2;have br:=LH (E.out.trans g3 λ_ _ h=>h);clear g1 g2 g3 r0 r1 s0 s1;go_wp2_with fail;go_roundw
   case rel=>exact⟨M+1,AA,AA,AF,LH λh=>absurd h am,bp,bq,br⟩
   simp[intOf] <;> omega
 as_aux_lemma =>
  go_upto_region 14 with fail;have f8:decide (0<B)=true:=by rw[BA];omega
  rw[f8];obtain⟨A1,n1,c1,d1,r0,r1,ag⟩:=V.out.get (j:=M) (by rw[J2];omega);obtain⟨A2,n2,c2,d2,s0,s1,ah⟩:=L.out.get (j:=M-K) (by rw[Zwg];omega);rw[mid_get _ _ _ bj] at ag;rw[Zy6 _ _ (AA:M-K<=m)] at ah;have bu:Hid (Z1 wr D B F false (Yk tab t K)):=LH (fe.out.kept (Zf.of_off E.out λg hg=>by rw[hg];exact b8.out.noInt));have bs:=LH ag;have bt:=LH ah;have a7:=V.out.lt;have a6:=L.out.lt;have cd:((M:Int)-(K:Int))=((M-K:Nat):Int):=AA
  have gj:IntKind.i64.wrap ((M:Int)-(K:Int))=(M:Int)-(K:Int):=BZ _ AA;have gc:(0:Int)<=(M:Int)-(K:Int):=AA
  have gd:(M:Int)-(K:Int)<(m:Int)+1:=AA
  have ge:((M:Int)-(K:Int)).toNat=M-K:=AA
  have f3:(M:Int)<(m:Int)+1:=AA
  have bn:Hid (Hw (Yk tab) t (Zx (Yk tab) x) (K+1) M=Hw (Yk tab) t (Zx (Yk tab) x) K M+Yk tab t K*Zx (Yk tab) x (M-K)):=Ah _ _ _ dv;clear ag ah cd ae;refine Xh (λX=>Below wr wr X) (λX X'=>Below X X X') (λu=>(⟨(Value.slice A n c::Value.slice (some ⟨lb,I,none⟩) l.length W::Value.int .i64 (m:Int)::undef::undef::undef::Value.pointer (some ⟨w,0,none⟩)::Value.slice (some ⟨y,0,none⟩) (m+1) (m+1)::Value.int .i64 (z:Int)::Value.slice (some ⟨r,0,none⟩) (m+1) (m+1)::Value.int .i64 (K:Int)::Value.pointer (some ⟨H,0,none⟩)::Value.int .i64 (M:Int)::Value.int .i64 (m:Int)::Value.int .i64 ((m:Int)+1)::Value.slice (some ⟨w+1,0,none⟩) (m+1) (m+1)::Value.slice (some ⟨w+1,0,none⟩) (m+1) (m+1)::Value.agg #[Value.slice A3 m3 c3,Value.bool b3]::Value.pointer (some ⟨w+1,0,none⟩)::Value.slice (some ⟨lb,I,none⟩) l.length W::Value.int .i64 (l.length:Int)::Value.int .i64 ((l.length:Int)-1)::Value.int .i64 (z:Int)::Value.bool true::u24::u25::Value.int .i64 (m:Int)::Value.int .i64 ((m:Int)+1)::Value.slice (some ⟨r,0,none⟩) (m+1) (m+1)::Value.int .i64 (K:Int)::Value.int .i64 (m:Int)::Value.bool true::u32::u33::Value.slice A n c::Value.slice (some ⟨lb,I,none⟩) l.length W::Value.int .i64 (z:Int)::Value.pointer (some ⟨lb,I+z,none⟩)::Value.int .i64 t::Value.int .i64 (K:Int)::Value.agg #[Value.slice D B F,Value.bool false]::Value.int .i64 (K:Int)::Value.int .i64 (M:Int)::Value.int .i64 (m:Int)::Value.bool true::Value.bool true::Value.pointer (some ⟨H,1,none⟩)::Value.bool false::Value.bool false::Value.pointer (some ⟨H,0,none⟩)::Value.slice D B F::Value.int .i64 (B:Int)::Value.bool true::Value.bool true::Value.bool true::u55::u56::u 0::u 1::u 2::u 3::u 4::u 5::u 6::u 7::u 8::u 9::u 10::u 11::u 12::u 13::u 14::u 15::u73::undef::undef::undef::undef::[]).toArray,[]⟩:Act)) [u57,u58,u59,u60,u61,u62,u63,u64,u65,u66,u67,u68,u69,u70,u71,u72] [λv X=>v=Value.slice (some ⟨r,0,none⟩) (m+1) (m+1),λv X=>v=Value.int .i64 (M:Int),λv X=>v=Value.slice (some ⟨r,0,none⟩) (m+1) (m+1),λv X=>v=Value.int .i64 (M:Int),λv X=>v=Value.pointer (some ⟨r,M*2,none⟩),λv X=>v=Value.agg #[Value.slice A1 n1 c1,Value.bool d1],λv X=>v=Value.agg #[Value.slice D B F,Value.bool false],λv X=>v=Value.slice (some ⟨y,0,none⟩) (m+1) (m+1),λv X=>v=Value.int .i64 (M:Int),λv X=>v=Value.int .i64 (K:Int),λv X=>v=Value.int .i64 ((M:Int)-(K:Int)),λv X=>v=Value.pointer (some ⟨y,(M-K)*2,none⟩),λv X=>v=Value.agg #[Value.slice A2 n2 c2,Value.bool d2],λv X=>∃A n c b,v=Value.agg #[Value.slice A n c,Value.bool b]/\Z1 X A n c b (Yk tab t K*Zx (Yk tab) x (M-K)),λv X=>∃A n c b,v=Value.agg #[Value.slice A n c,Value.bool b]/\Z1 X A n c b (Hw (Yk tab) t (Zx (Yk tab) x) (K+1) M),λv X=>v=Value.pointer (some ⟨r,M*2,none⟩)] (λu X=>Vp X r 110 (Gx (Yk tab) t (Zx (Yk tab) x) m K (M+1))/\Vp X y 110 (Gs (Yk tab) x m)/\Off (λk=>k=r) wr X) (l:=[_,_,_,_,_,_,_,_,_,_,_,_,_,_,_,_]) AB AB AB rfl rfl (AP _ _).drew ⟨AI,AI,AI,AI,AI,AI,AI,AI,AI,AI,AI,AI,AI,(λ_ _ _ ⟨A,n,c,b,e,h⟩ hb=>⟨A,n,c,b,e,h.below hb⟩),(λ_ _ _ ⟨A,n,c,b,e,h⟩ hb=>⟨A,n,c,b,e,h.below hb⟩),AI,trivial⟩ ?_ ?_ ?_
  ·refine Zk.v0 ?_;refine Zk.v0 ?_;refine Zk.v0 ?_;refine Zk.v0 ?_;refine Zk.vf (λQ u X KK d f o=>?_) ?_
   ·have p2:u 2=_:=f 2 rfl;have p3:u 3=_:=f 3 rfl;clear f;generalize u 2=x2 at *;subst p2;generalize u 3=x3 at *;subst p3;go_simp;exact o
   refine Zk.vf (λQ u X KK d f o=>?_) ?_
   ·have p4:u 4=_:=f 4 rfl;clear f;generalize u 4=x4 at *;subst p4;have ax:=(d.cell (p:=⟨r,M*2,none⟩) a7).trans r0;have ay:=(d.cell (p:=⟨r,M*2+1,none⟩) a7).trans r1;go_simp;exact o
   refine Zk.vf (λQ u X KK d f o=>?_) ?_
   ·have ax:=(d.cell (p:=⟨H,0,none⟩) xl).trans x0;have ay:=(d.cell (p:=⟨H,1,none⟩) xl).trans x1;go_simp;exact o
   refine Zk.v0 ?_;refine Zk.v0 ?_;refine Zk.v0 ?_;refine Zk.vf (λQ u X KK d f o=>?_) ?_
   ·have p8:u 8=_:=f 8 rfl;have p9:u 9=_:=f 9 rfl;clear f;generalize u 8=x8 at *;subst p8;generalize u 9=x9 at *;subst p9;go_simp;exact o
   refine Zk.vf (λQ u X KK d f o=>?_) ?_
   ·have p7:u 7=_:=f 7 rfl;have ck:u 10=_:=f 10 rfl;clear f;generalize u 7=x7 at *;subst p7;generalize u 10=gn at *;subst ck;go_simp;exact o
   refine Zk.vf (λQ u X KK d f o=>?_) ?_
   ·have cm:u 11=_:=f 11 rfl;clear f;generalize u 11=gp at *;subst cm;have ax:=(d.cell (p:=⟨y,(M-K)*2,none⟩) a6).trans s0;have ay:=(d.cell (p:=⟨y,(M-K)*2+1,none⟩) a6).trans s1;go_simp;exact o
   refine Zk.con (λQ u X d f KK o=>?_) ?_
   ·have p6:u 6=_:=f 6 rfl;have cn:u 12=_:=f 12 rfl;clear f;rw[p6,cn] at o⊢;have ch:=bu.out.below d;have ci:=bt.out.below d;go_simp;(with_reducible refine (Gt D B F false _ A2 n2 c2 d2 _ X ch ci).mono ?_);rintro e w2⟨C,Ar,nr,cr,Z,rfl,ai⟩;go_simp;exact o _ _ (Zz d C) C ⟨Ar,nr,cr,Z,rfl,ai⟩
   refine Zk.con (λQ u X d f KK o=>?_) ?_
   ·have p5:u 5=_:=f 5 rfl;obtain⟨Ar,nr,cr,Z,co,ai⟩:=f 13 rfl;clear f;rw[p5] at o⊢;generalize u 13=gr at *;subst co;have cg:=bs.out.below d;go_simp;(with_reducible refine (Zuc A1 n1 c1 d1 _ Ar nr cr Z _ X cg ai).mono ?_);rintro e w2⟨C,J,ns,cs,ds,rfl,U⟩;rw[<-bn.out] at U;go_simp;exact o _ _ (Zz d C) C ⟨J,ns,cs,ds,rfl,U⟩
   refine Zk.vf (λQ u X KK d f o=>?_) ?_
   ·have p0:u 0=_:=f 0 rfl;have p1:u 1=_:=f 1 rfl;clear f;generalize u 0=x0 at *;subst p0;generalize u 1=x1 at *;subst p1;go_simp;exact o
   exact Zk.nil
  ·intro Q u X d f KK o;obtain⟨J,ns,cs,ds,cp,U⟩:=f 14 AC;have ct:u 15=_:=f 15 AC;clear f;generalize u 14=gs at *;subst cp;generalize u 15=gt at *;subst ct;have G:=V.out.below d;have ab:=L.out.below d;obtain⟨Aq,nq,cq,dq,q0,q1,_⟩:=G.get (j:=M) (by rw[J2];omega);have bx:=G.frozen (M*2);have b0:=G.frozen (M*2+1);have gh:=G.lt;have T:=G.put (j:=M) (by rw[J2];omega) U;rw[mid_set _ _ _ bj] at T;have af:Off (λk=>k=r) X ((X.setCell ⟨r,M*2,none⟩ (.slice J ns cs)).setCell ⟨r,M*2+1,none⟩ (.bool ds)):=(Off.of_set X r (M*2) (.slice J ns cs)).trans (Off.of_set _ r (M*2+1) (.bool ds)) λ_ _ h=>h;have R:Vp _ r 110 (Gx (Yk tab) t (Zx (Yk tab) x) m K (M+1))/\Vp _ y 110 (Gs (Yk tab) x m)/\Off (λk=>k=r) wr _:=⟨T.1,ab.kept T.2 (af.keep y ab.lt (Nat.ne_of_lt fa)),(Off.of_below (S:=λk=>k=r) d).trans af λ_ _ h=>h⟩;have P:=LH R;clear R T af G ab;go_simp;exact o (λi=>([u 0,u 1,u 2,u 3,u 4,u 5,u 6,u 7,u 8,u 9,u 10,u 11,u 12,u 13,Value.agg #[Value.slice J ns cs,Value.bool ds],Value.pointer (some ⟨r,M*2,none⟩)]:List Value).getD i undef) _ (P.out)
  intro u W9 R;obtain⟨g1,g2,g3⟩:=R;have bp:=LH g1;have bq:=LH g2;have br:=LH (E.out.trans g3 λ_ _ h=>h);clear g1 g2 g3 r0 r1 s0 s1;go_wp2_with fail;go_roundw
  case rel=>exact⟨M+1,AA,AA,AF,LH λh=>absurd h am,bp,bq,br⟩
  simp[intOf] <;> omega
end
def rf_Read(A:Option Addr)(n c:Nat)(xs:List Nat)(G:Gr)(w:World)(h:Zq .u8 w A n c xs)(l:∀x∈xs,x<256)(hn:n<=4000)(ts:List Af)(P:Ml xs ((Q xs)+1) 0=some ts)(J:Dd ts<2)(hl:(Q ts)<=4000)(ps:List Prd)(N:srcP ((Q ts)+1) (ts.map Zyr)=some ps)(ag:(Q ps)<=4000)(M:∀q∈ps,(Q q.rt)<=4000)(C:Zwy ps=some G):
 Calls prog 20 #[K A n c] w λe w'=>∃h,e = aR (.tuple #[GV h G.zt,.complex .f64 0 0,aI aJ 0])/\Yf w' h G/\h.n1<=24/\h.n2<=16/\h.n3<=40/\G.zt=0/\Below w w w':=by
 have o:=Zy w (aC #[K aN 0 0,K aN 0 0,K aN 0 0,aI aJ 0] 26);have F:=Blk.new w 26 #[K aN 0 0,K aN 0 0,K aN 0 0,aI aJ 0];have T:=LH (rf_Parse A n c ((Q xs)+1) ((Q ts)+1) xs _ (h.below o) l hn ts P J hl ps N);have ap:∀(w:World) (a:Addr) (k:FloatKind) (x y:Nat) (m:Mode),(store a (.complex k x y) m).run prog w=stored prog w a (.complex k x y) m:=λw a k x y m=>run_store prog w a _ m rfl;have R:=LH λ(W:World) (t:Option Addr) (B:Nat) (j:Prds W t (Q ps) B ps)=>rf_Build t (Q ps) B ps G W j ag M C;clear h l P J N M C;go_enter func20,ntmps20;go_wp2_with fail;generalize w.alloc (aC #[K aN 0 0,K aN 0 0,K aN 0 0,aI aJ 0] 26)=W0 at *;(with_reducible refine T.out.mono ?_);rintro e w1⟨g,c1,cs,rfl,E,j,r⟩;have H:=F.ext r;have D:=Zz o r;have ah:=(own_prds E j).below (Zy w1 (aC #[K aN 0 0,K g (Q ps) c1] 79));have I:=H.ext (Zy w1 (aC #[K aN 0 0,K g (Q ps) c1] 79));have U:=LH (Zo D (aC #[K aN 0 0,K g (Q ps) c1] 79));clear r D H E j o F;go_wp2_with fail;have S:=LH (R.out _ g c1 ah);generalize w1.alloc (aC #[K aN 0 0,K g (Q ps) c1] 79)=X at *;(with_reducible refine S.out.mono ?_);rintro e f⟨h,rfl,hF,O,Y,Z,b3,s⟩;have d:=I.ext s;have v0:=d.frozen 0;have v1:=d.frozen 1;have v2:=d.frozen 2;have v3:=d.frozen 3;have i0:=d.cell 0;have i1:=d.cell 1;have i2:=d.cell 2;have i3:=d.cell 3;have V:=LH (Zz U.out s);have ak:w.heap.size<X.heap.size:=I.lt;have z:=LH O;clear O s;go_wp2_with fail;have ad:Blk ((((f.setCell ⟨w,0,aN⟩ (K h.a1 h.n1 h.c1)).setCell ⟨w,1,aN⟩ (K h.a2 h.n2 h.c2)).setCell ⟨w,2,aN⟩ (K h.a3 h.n3 h.c3)).setCell ⟨w,3,aN⟩ (aI aJ 0)) w 26 #[K h.a1 h.n1 h.c1,K h.a2 h.n2 h.c2,K h.a3 h.n3 h.c3,aI aJ 0] :=
  (((d.set 0 (K h.a1 h.n1 h.c1)).set 1 (K h.a2 h.n2 h.c2)).set 2 (K h.a3 h.n3 h.c3)).set 3 (aI aJ 0)
 have L:f.grownBy ((((f.setCell ⟨w,0,aN⟩ (K h.a1 h.n1 h.c1)).setCell ⟨w,1,aN⟩ (K h.a2 h.n2 h.c2)).setCell ⟨w,2,aN⟩ (K h.a3 h.n3 h.c3)).setCell ⟨w,3,aN⟩ (aI aJ 0)) (some w) :=
  Zc (Zc (Zc (Zd _ _ _ _) (Zd _ _ _ _)) (Zd _ _ _ _)) (Zd _ _ _ _)
 refine AW (Yu (p:=2) (u:=3) (v:=4) AB _ _ w 26 #[K h.a1 h.n1 h.c1,K h.a2 h.n2 h.c2,K h.a3 h.n3 h.c3,aI aJ 0] (0,0) _ rfl ad underlying26 rfl AB) rfl ?_;refine⟨h,by rw[z.out];rfl,hF _ L.size λb l aj=>L.block b l (by intro e;injection e with e;omega),Y,Z,b3,z.out,Zg (Zg (Zg (Zg V.out _ _ _ (AJ _)) _ _ _ (AJ _)) _ _ _ (AJ _)) _ _ _ (AJ _)⟩
def rf_ReadC(A:Option Addr)(n c:Nat)(xs:List Nat)(G:Gr)(w:World)(a:readC xs=some G)(h:Zq .u8 w A n c xs)(d:∀x∈xs,x<256)(f:n<=4000):
 Calls prog 20 #[K A n c] w λe w'=>∃h,e = aR (.tuple #[GV h G.zt,.complex .f64 0 0,aI aJ 0])/\Yf w' h G/\h.n1<=24/\h.n2<=16/\h.n3<=40/\G.zt=0/\Below w w w':=by
 unfold readC at a;split at a
 ·cases a
 rename_i ts k;split at a
 ·rename_i h1;split at a
  ·cases a
  rename_i ps g;split at a
  ·rename_i b;refine rf_Read A n c xs G w h d f ts k h1.1 h1.2 ps g b.1 (λq j=>?_) a;have:=BG.1 b.2 q j;simpa using this
  cases a
 cases a
theorem nat_sub_ok(v:Option Addr)(n c1:Nat)(xs:List Nat)(z:Option Addr)(m c2:Nat)(P:List Nat)(w:World)(h1:Zq .u32 w v n c1 xs)(d:Zq .u32 w z m c2 P)(r:Lim xs)(s:Lim P)(t:Zm xs=true)(N:Zm P=true)(R:val P<=val xs)(U:m<=n):
 Calls prog 103 #[.slice v n c1,.slice z m c2] w (Xr w (Mw xs P)):=by
 obtain rfl:=h1.len;obtain rfl:=d.len;have ai:xs.length<=32:=by simp[Zm] at t;omega
 have ab:decide (Vq xs P<0)=false:=by
  simp only[Vq,t,N,Bool.and_self,if_true,Vm];rw[if_neg AA];split <;> simp
 have G:Mw xs P=(Zq3 (val xs-val P),0):=by simp[Mw,t,N];omega
 rw[G];clear G;go_enter func103,ntmps103;go_wp2_with (first
  | (go_at_call 42;(with_reducible refine (Zb _ _ _ _ _ h1).mono ?_);rintro e w'⟨rfl,rfl⟩)
  | (go_at_call 42;(with_reducible refine (Zb _ _ _ _ _ d).mono ?_);rintro e w'⟨rfl,rfl⟩)
  | (go_at_call 47;(with_reducible refine (Zym _ _ _ _ _ _ _ _ _ h1 d r s).mono ?_);rintro e w1⟨rfl,b⟩)
  | (go_at_call 102;(with_reducible refine (Zw4 _ _ _ _ _ (h1.same b) AA).mono ?_);rintro e Y⟨A,c,rfl,a,q⟩))
 have I:=Bv a (base':=w.heap.size) (by rw[b.size];exact AJ _);have E:Below w w Y:=(b.below _).trans (q.mono (by rw[b.size];exact AJ _));clear a q b;go_loopw [7,28] (SubRel w A xs.length c xs P) (λ_ i _=>xs.length-(intOf i).toNat)
 case atStart=>exact⟨0,AV _,rfl,rfl,I,E⟩
 clear I E;obtain⟨k,hk,rfl,rfl,a,f⟩:=hrel;have F:=Qi xs P k;have o:=LH (Mj xs P k);by_cases h:k<xs.length
 ·obtain⟨g,u,rfl,H,ag,O,ad,af⟩:=Gh a h;obtain⟨x,Hx⟩:∃x,Hid (xs[k]? = some x):=⟨_,LH (AL h)⟩;have W:u = .int .u32 (x:Int):=by
   obtain⟨x',l,rfl⟩:=Zrz _ _ _ _ O.out;rw[Zsa _ _ _ _ o.out Hx.out] at l;injection l with l;rw[l]
  subst W;have L:=r.of_get Hx.out;by_cases S:k<P.length
  ·obtain⟨b2,o2,y,rfl,q,p,ae⟩:=(d.below f).get (j:=k) S;have X:=s.of_get p.out;go_wp2_with (go_at_call 161;(with_reducible refine (Dj x y _ _ L X F).mono ?_);rintro e w'⟨rfl,rfl⟩);go_roundw
   case rel =>
    refine⟨k+1,AA,AF,?_,?_,f.setCell H _⟩
    ·simp only[Xn,Yn Hx.out,Yn p.out]
    have:=Lt a k (.int .u32 (((4294967296+x-y-(Xn xs P k).2) % 4294967296:Nat):Int));rw[<-Be,Md _ xs k _ o.out h] at this;simpa [Xn,Hx.out,p.out] using this
   simp[intOf];omega
  have C:=LH (K8 (xs:=P) (j:=k) AA);go_wp2_with (go_at_call 161;(with_reducible refine (L7 x _ _ L F).mono ?_);rintro e w'⟨rfl,rfl⟩);go_roundw
  case rel =>
   refine⟨k+1,AA,AF,?_,?_,f.setCell H _⟩
   ·simp only[Xn,Yn Hx.out,C.out,Nat.sub_zero]
   have:=Lt a k (.int .u32 (((4294967296+x-0-(Xn xs P k).2) % 4294967296:Nat):Int));rw[<-Be,Md _ xs k _ o.out h] at this;have M:=C.out;rw[AO] at M;simpa [Xn,Hx.out,M] using this
  simp[intOf];omega
 obtain rfl:k=xs.length:=AA
 rw[List.drop_length,DJ] at a;have V:Zq .u32 wr A xs.length c (Xn xs P xs.length).1:=Yl a;have J:=Zyj xs P r s xs.length (AJ _) U R;have T:=Gv xs P xs.length;have B:=LH (Vg _ T);rw[J] at B;have Z:=LH (Mj xs P xs.length);clear J;go_wp2_with (go_at_call 162;(with_reducible refine (Q3 _ _ _ _ _ V).mono ?_);rintro e w'⟨rfl,D,rfl⟩);go_ret2;rw[B.out] at D ⊢;exact⟨_,_,rfl,D,f⟩
theorem nat_sub(f:Option Addr)(n c1:Nat)(xs:List Nat)(g:Option Addr)(m c2:Nat)(t:List Nat)(w:World)(h1:Zq .u32 w f n c1 xs)(b:Zq .u32 w g m c2 t)(h:Lim xs)(j:Lim t):
 Calls Tryz.prog 103 #[.slice f n c1,.slice g m c2] w (Xr w (Mw xs t)):=by
 by_cases d:Zm xs=true
 case neg =>
  have q:Zm xs=false:=by simpa using d
  have a:Mw xs t=([],1):=by simp[Mw,q]
  rw[a];clear a d;go_enter Tryz.func103,Tryz.ntmps103;go_wp2_with (first
   | (go_at_call 42;(with_reducible refine (Zb _ _ _ _ _ h1).mono ?_);rintro e w'⟨rfl,rfl⟩)
   | (go_at_call 42;(with_reducible refine (Zb _ _ _ _ _ b).mono ?_);rintro e w'⟨rfl,rfl⟩))
  go_ret2;exact⟨none,0,rfl,Zq.nil _ _ _ _ (by simp),Below.refl _ _⟩
 by_cases c:Zm t=true
 case neg =>
  have r:Zm t=false:=by simpa using c
  have a:Mw xs t=([],1):=by simp[Mw,r]
  rw[a];clear a c;go_enter Tryz.func103,Tryz.ntmps103;go_wp2_with (first
   | (go_at_call 42;(with_reducible refine (Zb _ _ _ _ _ h1).mono ?_);rintro e w'⟨rfl,rfl⟩)
   | (go_at_call 42;(with_reducible refine (Zb _ _ _ _ _ b).mono ?_);rintro e w'⟨rfl,rfl⟩))
  go_ret2;exact⟨none,0,rfl,Zq.nil _ _ _ _ (by simp),Below.refl _ _⟩
 by_cases k:val t<=val xs
 ·refine nat_sub_ok f n c1 xs g m c2 t w h1 b h j d c k ?_;rcases Nat.lt_or_ge n m with o | l
  ·have:=Qu xs t h j (X8 t c) (by rw[h1.len,b.len];exact o);omega
  exact l
 have s:decide (Vq xs t<0)=true:=by
  simp only[Vq,d,c,Bool.and_self,if_true,Vm];rw[if_pos (by omega)];simp
 have a:Mw xs t=([],11):=by simp[Mw,d,c];omega
 rw[a];clear a;go_enter Tryz.func103,Tryz.ntmps103;go_wp2_with (first
  | (go_at_call 42;(with_reducible refine (Zb _ _ _ _ _ h1).mono ?_);rintro e w'⟨rfl,rfl⟩)
  | (go_at_call 42;(with_reducible refine (Zb _ _ _ _ _ b).mono ?_);rintro e w'⟨rfl,rfl⟩)
  | (go_at_call 47;(with_reducible refine (Zym _ _ _ _ _ _ _ _ _ h1 b h j).mono ?_);rintro e w1⟨rfl,p⟩))
 go_ret2;exact⟨none,0,rfl,Zq.nil _ _ _ _ (by simp),p.below _⟩
def nat_tk(f:Option Addr)(n c1:Nat)(xs:List Nat)(g:Option Addr)(m c2:Nat)(r:List Nat)(w:World)(h1:Zq .u32 w f n c1 xs)(j:Zq .u32 w g m c2 r)(a:Lim xs)(b:Lim r)(ty:Mo r)(q:n<=1000):
 Calls prog 211 #[K f n c1,K g m c2] w (RetTk w (val xs) (val r)):=by
 refine (nat_take _ _ _ _ _ _ _ _ _ h1 j a b q).mono ?_;intro e w' h;unfold RetTake at h;unfold RetTk;obtain⟨A,c,rfl,k,l,o⟩:=h;refine⟨A,c,_,?_,k,l,o,?_⟩
 ·have hd:decide ((Xn xs r (Q xs)).2=0/\(Q r)<=(Q xs))=decide (val r<=val xs):=?_
  ·rw[hd]
  rw[decide_eq_decide];by_cases d:(Q r)<=(Q xs)
  ·rw[Zup xs r a b _ (AJ _) d];split <;> omega
  have:=Qu xs r a b ty AA;constructor
  ·intro h;omega
  intro h;omega
 refine LH λp=>?_;have d:(Q r)<=(Q xs):=by
  rcases BD (Q xs) (Q r) with h | h
  ·have:=Qu xs r a b ty h;omega
  exact h
 rw[Vg _ (Gv xs r _),Zyj xs r a b _ (AJ _) d p]
theorem nat_quo(C:Option Addr)(n c1:Nat)(xs:List Nat)(D:Option Addr)(m c2:Nat)(ys:List Nat)(w:World)(h1:Zq .u32 w C n c1 xs)(p:Zq .u32 w D m c2 ys)(J:Lim xs)(ly:Lim ys):
 Calls prog 167 #[.slice C n c1,.slice D m c2] w (RetQuo w (M2 xs ys)):=by
 obtain rfl:=h1.len;obtain rfl:=p.len;by_cases N:Zm xs=true
 case neg =>
  have ca:Zm xs=false:=by simpa using N
  have l:M2 xs ys=([],[],1):=by simp[M2,ca]
  rw[l];clear l N;go_enter func167,ntmps167;go_wp2_with (first
   | (go_at_call 42;(with_reducible refine (Zb _ _ _ _ _ h1).mono ?_);rintro e w'⟨rfl,rfl⟩)
   | (go_at_call 42;(with_reducible refine (Zb _ _ _ _ _ p).mono ?_);rintro e w'⟨rfl,rfl⟩))
  go_ret3
  unfold RetQuo;exact⟨none,0,none,0,rfl,Zq.nil _ _ _ _ AE,Zq.nil _ _ _ _ AE,AP _ _⟩
 by_cases O:Zm ys=true
 case neg =>
  have cb:Zm ys=false:=by simpa using O
  have l:M2 xs ys=([],[],1):=by simp[M2,cb]
  rw[l];clear l O;go_enter func167,ntmps167;go_wp2_with (first
   | (go_at_call 42;(with_reducible refine (Zb _ _ _ _ _ h1).mono ?_);rintro e w'⟨rfl,rfl⟩)
   | (go_at_call 42;(with_reducible refine (Zb _ _ _ _ _ p).mono ?_);rintro e w'⟨rfl,rfl⟩))
  go_ret3
  unfold RetQuo;exact⟨none,0,none,0,rfl,Zq.nil _ _ _ _ AE,Zq.nil _ _ _ _ AE,AP _ _⟩
 by_cases y:ys.length=0
 ·have l:M2 xs ys=([],[],1):=by simp[M2,y]
  rw[l];clear l;have b8:((ys.length:Int)==0)=true:=by simp[y]
  clear y;go_enter func167,ntmps167;go_wp2_with (first
   | (go_at_call 42;(with_reducible refine (Zb _ _ _ _ _ h1).mono ?_);rintro e w'⟨rfl,rfl⟩)
   | (go_at_call 42;(with_reducible refine (Zb _ _ _ _ _ p).mono ?_);rintro e w'⟨rfl,rfl⟩))
  go_ret3
  unfold RetQuo;exact⟨none,0,none,0,rfl,Zq.nil _ _ _ _ AE,Zq.nil _ _ _ _ AE,AP _ _⟩
 have b8:((ys.length:Int)==0)=false:=by rw[AR];omega
 have co:xs.length<=32:=by simp[Zm] at N;omega
 have ty:=X8 ys O;have aq:0<val ys:=by
  rcases BW (val ys) with h | h
  ·have:=Mf ys ly ty;rw[h,Va] at this;rw[<-this] at y;simp at y
  exact h
 have bw:=Wm (P:=prog) 44 41 .u32 4 underlying44 Tryz.info34 xs.length AA AA;have l:M2 xs ys=(Zq3 (val xs / val ys),Zq3 (val xs % val ys),0):=by simp[M2,N,O,y]
 have a2:Zz9 xs=bitLen (val xs):=by simp[Zz9,N]
 have ch:bitLen (val xs)<=1024:=by
  rcases BD 1024 (bitLen (val xs)) with h | h
  ·have:=bit_in xs J 1024 h;omega
  exact h
 rw[l];have bh:=LH a2;clear l a2;go_enter func167,ntmps167;go_wp2_with (first
  | (go_at_call 42;(with_reducible refine (Zb _ _ _ _ _ h1).mono ?_);rintro e w'⟨rfl,rfl⟩)
  | (go_at_call 42;(with_reducible refine (Zb _ _ _ _ _ p).mono ?_);rintro e w'⟨rfl,rfl⟩)
  | (go_at_call 105;(with_reducible refine (Zqb _ _ _ _ _ (h1.below ((AP _ _).alloc (AJ _) _)) J).mono ?_);rintro e w'⟨rfl,rfl⟩;rw[bh.out]))
 go_loopw [8,9] (QuoRel w xs (val ys)) (λ_ i _=>(intOf i+1).toNat)
 case atStart =>
  have hz:val xs / 2 ^ bitLen (val xs)=0:=Nat.div_eq_of_lt (bitLen_lt _);have e1:(List.replicate xs.length 0).length=xs.length:=AE
  have e2:val (List.replicate xs.length 0)=val xs / 2 ^ bitLen (val xs) / val ys*2 ^ bitLen (val xs):=by rw[hz,zz_val];simp
  have e3:[]=Zq3 (val xs / 2 ^ bitLen (val xs) % val ys):=by rw[hz,Nat.zero_mod,Va]
  exact⟨bitLen (val xs),none,0,List.replicate xs.length 0,[],rfl,AJ _,rfl,Zq.nil _ _ _ _ AE,(λ_ _ h=>by cases h),Own.new w 41 .u32 (List.replicate xs.length 0),(AP _ _).alloc (AJ _) _,
   LH e1,zz_lim _,LH e2,LH e3⟩
 clear bw;obtain⟨k,A,c,qs,o,rfl,hk,rfl,an,ck,W,q,E,I,S,U⟩:=hrel;have X:=W.lt;by_cases bv:0<k
 ·obtain⟨i,rfl⟩:∃i,k=i+1:=⟨k-1,AA⟩;clear bv;have a7:((i+1:Nat):Int)-1=(i:Int):=AA
  rw[a7];clear a7;have V:=bit_in xs J i AA;have R:=LH (bit_of xs J i);have ax:=LH (Zsy (val xs) (val ys) i aq);obtain⟨j,r,a8,hr⟩:∃j r,i=32*j+r/\r<32:=⟨i / 32,i % 32,AA,AA⟩;have hj:i / 32=j:=AA
  have am:i % 32=r:=AA
  rw[hj] at V R;rw[am] at R;have cm:(i:Int) / 32=(j:Int):=AA
  have cr:(i:Int) % 32=(r:Int):=AA
  have cd:=LH a8;have Hj:=LH hj;have Hr:=LH am;clear a8 hj am;obtain⟨b1,o1,u,rfl,cg,Hu,ci⟩:=(h1.below q).get (j:=j) V;have b6:=J.of_get Hu.out;have cq:(2:Int) ^ r=((2 ^ r:Nat):Int):=AE
  have cu:(u:Int) / ((2 ^ r:Nat):Int)=((u / 2 ^ r:Nat):Int):=AE
  have a6:=Yn (d:=0) Hu.out;have a3:u / 2 ^ r % 2=val xs / 2 ^ i % 2:=by have:=R.out;rwa [a6] at this
  have b9:u / 2 ^ r<4294967296:=En (Nat.div_le_self _ _) b6;have cf:bits .and .u32 ((u / 2 ^ r:Nat):Int) 1=((u / 2 ^ r % 2:Nat):Int):=by
   have:=u32_and_nat (u / 2 ^ r) 1 b9 AC;rw[show ((1:Nat):Int)=1 from rfl] at this;rw[this,Nat.and_one_is_mod]
  have a4:u / 2 ^ r % 2<=1:=AA
  generalize u / 2 ^ r=z at *;generalize bs:z % 2=bt at *;have bi:=LH a3;clear bs a3 a6 R;have ap:val o=val xs / 2 ^ (i+1) % val ys:=by rw[U.out,Yd]
  have lr:Lim o:=by rw[U.out];exact Z9 _
  have bb:val ys<4294967296 ^ 32:=by
   have h1:=Ui ys ly;have p:ys.length<=32:=by simp[Zm] at O;omega
   exact AK h1 (CV AC p)
  have cs:o.length<=32:=by
   rw[U.out,Vt];exact Nat.lt_trans (Nat.mod_lt _ aq) bb
  have Y:=ax.out;have cv:(Zq3 (2*val o+bt)).length<=33:=by
   rw[Vt,Nat.pow_succ];have:val o<val ys:=by rw[ap];exact Nat.mod_lt _ aq
   generalize (4294967296:Nat) ^ 32=B at *;omega
  have bn:=LH ap;simp only[] at Y;rw[<-bi.out,<-bn.out] at Y;have T:=LH Y;clear Y ax ap bb;obtain⟨s,ae⟩:∃s,Hid (qs[j]? = some s):=⟨_,LH (AL (by rw[E.out];exact V))⟩;have a9:=set_bit qs I i (by rw[Hj.out,E.out];exact V) _ S.out;rw[Hj.out,Hr.out,Yn ae.out] at a9;obtain⟨be,cx,bf⟩:=a9;have b3:=I.of_get ae.out;have bz:2 ^ r<4294967296:=by
   have:=Nat.pow_lt_pow_right (a:=2) AC hr;simpa using this
  have cp:bits .or .u32 (s:Int) ((2 ^ r:Nat):Int)=((s+2 ^ r:Nat):Int):=by
   rw[u32_or_nat _ _ b3 bz,be]
  generalize b0:(2:Nat) ^ r=M at *;have bm:=LH bf;clear b0 be bf;have ct:IntKind.u32.wrap (M:Int)=(M:Int):=by rw[IntKind.wrap_u32];omega
  have b1:(0:Int)<=(j:Int):=AA
  have b2:(j:Int)<(xs.length:Int):=AA
  by_cases x:val ys<=2*val o+bt
  ·have ai:decide (val ys<=2*val o+bt)=true:=by simpa using x
   have ad:=LH (T.out.1 x);have bj:=LH x;clear x T;generalize H:2*val o+bt=v2 at *;have af:=LH H;clear H;go_wp2_with (first
    | (go_at_call 210;(with_reducible refine (Zw7 _ _ _ _ bt _ an lr a4 AA).mono ?_);intro e w1 f;unfold RetNew at f;rw[af.out] at f;obtain⟨C,c3,rfl,Z,g,a5⟩:=f)
    | (go_at_call 211;(with_reducible refine (nat_tk _ _ _ _ _ _ _ _ _ Z ((p.below q).below g) (Z9 _) ly ty AA).mono ?_);intro e w2 f;unfold RetTk at f;rw[Yd,ai] at f;obtain⟨D,c4,ts,rfl,ht,t,aj,ay⟩:=f))
   have G:=(W.below g X).below t (AK X g.size);have cj:=own_cell G ae.out;have cl:=G.frozen j;have F:=q.size;have ah:=g.size;have hB:=(q.trans (g.mono F)).trans (t.mono (BC F ah));go_region
   go_wp2;go_roundw
   case rel =>
    obtain⟨ar,au⟩:=ad.out;have bu:=nums_far ht (B:=w.heap.size) (λb L h=>by have:=aj b L h;omega) j (.int .u32 ((s+M:Nat):Int));have b5:=G.set_ j (s+M);refine⟨i,D,c4,qs.set j (s+M),ts,AF,AA,rfl,bu.drew,λb L h=>?_,b5.drew,(hB.setCell AE _).drew,LH (by rw[List.length_set];exact E.out),?_,LH ?_,LH ?_⟩
    ·have:=aj b L h;omega
    ·intro v hv;rcases List.mem_or_eq_of_mem_set hv with h | h
     ·exact I v h
     omega
    ·rw[bm.out,S.out,au,Nat.pow_succ,Nat.add_mul,Nat.one_mul,<-DT,Ef _ 2,DT]
    rw[ay.out bj.out,ar]
   simp[intOf] <;> omega
  have ai:decide (val ys<=2*val o+bt)=false:=by simpa using x
  have ad:=LH (T.out.2 AA);clear x T;generalize H:2*val o+bt=v2 at *;have af:=LH H;clear H;go_wp2_with (first
   | (go_at_call 210;(with_reducible refine (Zw7 _ _ _ _ bt _ an lr a4 AA).mono ?_);intro e w1 f;unfold RetNew at f;rw[af.out] at f;obtain⟨C,c3,rfl,Z,g,a5⟩:=f)
   | (go_at_call 211;(with_reducible refine (nat_tk _ _ _ _ _ _ _ _ _ Z ((p.below q).below g) (Z9 _) ly ty AA).mono ?_);intro e w2 f;unfold RetTk at f;rw[Yd,ai] at f;obtain⟨D,c4,ts,rfl,ht,t,aj,ay⟩:=f))
  have G:=(W.below g X).below t (AK X g.size);have F:=q.size;have ah:=g.size;have hB:=(q.trans (g.mono F)).trans (t.mono (BC F ah));go_roundw
  case rel =>
   obtain⟨ar,au⟩:=ad.out;refine⟨i,C,c3,qs,Zq3 v2,AF,AA,rfl,Z.below t,λb L h=>?_,G,hB,E,I,LH ?_,LH ?_⟩
   ·have:=a5 b L h;omega
   ·rw[S.out,au,Nat.pow_succ,<-DT,Ef _ 2,DT]
   rw[ar]
  simp[intOf] <;> omega
 obtain rfl:k=0:=AA
 have bx:=W.nums (n:=xs.length) (c:=xs.length) E.out (AJ _) AA;have av:=LH (Vg _ I);have al:=S.out;rw[Nat.pow_zero,Nat.div_one,Eh] at al;rw[al] at av;have ao:=U.out;rw[Nat.pow_zero,Nat.div_one] at ao;have bl:=LH ao;clear al ao;go_wp2_with (go_at_call 162;(with_reducible refine (Q3 _ _ _ _ _ bx).mono ?_);rintro e w'⟨rfl,hN,rfl⟩);go_ret3
 rw[av.out] at hN ⊢;rw[<-bl.out];unfold RetQuo;exact⟨_,_,_,_,rfl,hN,an,q⟩
theorem ref_sub(l:Option Addr)(n c1:Nat)(xs:List Nat)(o:Option Addr)(m c2:Nat)(P:List Nat)(w:World)(h1:Zq .u32 w l n c1 xs)(c:Zq .u32 w o m c2 P)(f:Lim xs)(h:Lim P):
 Calls prog 111 #[.slice l n c1,.slice o m c2] w (Xr w (Mw xs P)):=by
 by_cases b:Zm xs=true
 case neg =>
  have aa:Zm xs=false:=by simpa using b
  have a:Mw xs P=([],1):=by simp[Mw,aa]
  rw[a];clear a b;go_enter func111,ntmps111;go_wp2_with (first
   | (go_at_call 35;(with_reducible refine (Z4 _ _ _ _ _ h1).mono ?_);rintro e w'⟨rfl,rfl⟩)
   | (go_at_call 35;(with_reducible refine (Z4 _ _ _ _ _ c).mono ?_);rintro e w'⟨rfl,rfl⟩))
  go_ret2;exact⟨none,0,rfl,Zq.nil _ _ _ _ AE,AP _ _⟩
 by_cases d:Zm P=true
 case neg =>
  have ab:Zm P=false:=by simpa using d
  have a:Mw xs P=([],1):=by simp[Mw,ab]
  rw[a];clear a d;go_enter func111,ntmps111;go_wp2_with (first
   | (go_at_call 35;(with_reducible refine (Z4 _ _ _ _ _ h1).mono ?_);rintro e w'⟨rfl,rfl⟩)
   | (go_at_call 35;(with_reducible refine (Z4 _ _ _ _ _ c).mono ?_);rintro e w'⟨rfl,rfl⟩))
  go_ret2;exact⟨none,0,rfl,Zq.nil _ _ _ _ AE,AP _ _⟩
 have W:=Ut xs b;have V:=Ut P d;by_cases U:val P<=val xs
 case neg =>
  have S:decide (Vq xs P<0)=true:=by
   simp only[Vq,b,d,Bool.and_self,if_true,Vm];rw[if_pos AA];simp
  have a:Mw xs P=([],11):=by simp[Mw,b,d];omega
  rw[a];clear a;go_enter func111,ntmps111;go_wp2_with (first
   | (go_at_call 35;(with_reducible refine (Z4 _ _ _ _ _ h1).mono ?_);rintro e w'⟨rfl,rfl⟩)
   | (go_at_call 35;(with_reducible refine (Z4 _ _ _ _ _ c).mono ?_);rintro e w'⟨rfl,rfl⟩)
   | (go_at_call 36;(with_reducible refine (Le _ _ _ _ _ _ _ _ _ h1 c f h).mono ?_);rintro e w1⟨rfl,j⟩))
  go_ret2;exact⟨none,0,rfl,Zq.nil _ _ _ _ AE,j.below _⟩
 have S:decide (Vq xs P<0)=false:=by
  simp only[Vq,b,d,Bool.and_self,if_true,Vm];rw[if_neg AA];split <;> simp
 have a:Mw xs P=(Zq3 (val xs-val P),0):=by simp[Mw,b,d];omega
 rw[a];clear a;go_enter func111,ntmps111;go_wp2_with (first
  | (go_at_call 35;(with_reducible refine (Z4 _ _ _ _ _ h1).mono ?_);rintro e w'⟨rfl,rfl⟩)
  | (go_at_call 35;(with_reducible refine (Z4 _ _ _ _ _ c).mono ?_);rintro e w'⟨rfl,rfl⟩)
  | (go_at_call 36;(with_reducible refine (Le _ _ _ _ _ _ _ _ _ h1 c f h).mono ?_);rintro e w1⟨rfl,j⟩))
 go_loopw [6,7,8] (RSubRel w xs P) (λ_ _ i _=>(32-intOf i).toNat)
 case atStart=>exact⟨0,none,0,AV _,rfl,rfl,rfl,BL _ _ _ _,j.below _⟩
 clear j;obtain⟨k,A,M,hk,rfl,rfl,rfl,s,g⟩:=hrel;have ad:=Qi xs P k;have R:=g.size;by_cases af:k<32
 ·have Y:=f.getD k;have Z:=h.getD k;obtain⟨x,Hx⟩:∃x,Hid (xs.getD k 0=x):=⟨_,LH rfl⟩;obtain⟨y,p⟩:∃y,Hid (P.getD k 0=y):=⟨_,LH rfl⟩;have q:=Ww l n c1 xs k wr (h1.below g) f;have r:=Ww o m c2 P k wr (c.below g) h;rw[Hx.out] at q Y;rw[p.out] at r Z;have F:=LH q;have G:=LH r;have u:Hid (4294967296+(x:Int)-(y:Int)-((Xn xs P k).2:Int)=((4294967296+x-y-(Xn xs P k).2:Nat):Int)):=LH AA;clear q r;go_wp2_with (first
   | (go_at_call 76;(with_reducible refine F.out.mono ?_);rintro e w'⟨rfl,rfl⟩)
   | (go_at_call 76;(with_reducible refine G.out.mono ?_);rintro e w'⟨rfl,rfl⟩)
   | (at_builtin;refine Vc (w:=wr) rfl _ _ 44 rfl w 41 (.int .u32 0) 4 underlying44 Tryz.info34 rfl _ k _ _ rfl s (.int .u32 ((4294967296+(x:Int)-(y:Int)-((Xn xs P k).2:Int)) % 4294967296)) rfl rfl AA AA AA ?_;intro D L w2 z T))
  go_roundw
  case rel =>
   refine⟨k+1,D,L,AA,AF,?_,rfl,?_,X6 g T s R⟩
   ·simp only[Xn,Hx.out,p.out];rw[u.out];go_num
   rw[u.out] at z;simp only[Xn,Hx.out,p.out,Mi];simpa using z
  simp[intOf];omega
 obtain rfl:k=32:=AA
 have B:=Zyj xs P f h 32 W V U;have v:Xm (val xs-val P)=(Zq3 (val xs-val P),0):=Km (by have:=(Ul xs f b).2;omega);have I:=LH B;have E:=LH v;clear B v;have X:=Yl s;have t:=As _ _ _ _ _ X (Gv xs P 32);rw[I.out,E.out] at t;have H:=LH t;clear t;go_wp2_with (go_at_call 168;(with_reducible refine H.out.mono ?_);rintro e w'⟨C,J,rfl,O,N⟩);go_ret2;exact⟨C,J,rfl,O,Zz g N⟩
theorem ref_less(b:Option Addr)(n c1:Nat)(xs:List Nat)(c:Option Addr)(m c2:Nat)(P:List Nat)(w:World)(h1:Zq .u32 w b n c1 xs)(C:Zq .u32 w c m c2 P)(j:Lim xs)(l:Lim P)(H:xs.length<=33)(G:P.length<=33)(F:val P<=val xs):
 Calls prog 189 #[.slice b n c1,.slice c m c2] w (Bq w (Zq3 (val xs-val P))):=by
 go_enter func189,ntmps189;go_wp2;go_loopw [5,6,7] (RLessRel w xs P) (λ_ _ i _=>(33-intOf i).toNat)
 case atStart=>exact⟨0,none,0,AV _,rfl,rfl,rfl,BL _ _ _ _,AP _ _⟩
 obtain⟨k,A,B,N,rfl,rfl,rfl,h,a⟩:=hrel;have M:=Qi xs P k;have D:=a.size;by_cases O:k<33
 ·have J:=j.getD k;have L:=l.getD k;obtain⟨x,Hx⟩:∃x,Hid (xs.getD k 0=x):=⟨_,LH rfl⟩;obtain⟨y,d⟩:∃y,Hid (P.getD k 0=y):=⟨_,LH rfl⟩;have f:=Ww b n c1 xs k wr (h1.below a) j;have g:=Ww c m c2 P k wr (C.below a) l;rw[Hx.out] at f J;rw[d.out] at g L;have u:=LH f;have v:=LH g;have p:Hid (4294967296+(x:Int)-(y:Int)-((Xn xs P k).2:Int)=((4294967296+x-y-(Xn xs P k).2:Nat):Int)):=LH AA;clear f g;go_wp2_with (first
   | (go_at_call 76;(with_reducible refine u.out.mono ?_);rintro e w'⟨rfl,rfl⟩)
   | (go_at_call 76;(with_reducible refine v.out.mono ?_);rintro e w'⟨rfl,rfl⟩)
   | (at_builtin;refine Vc (w:=wr) rfl _ _ 44 rfl w 41 (.int .u32 0) 4 underlying44 Tryz.info34 rfl _ k _ _ rfl h (.int .u32 ((4294967296+(x:Int)-(y:Int)-((Xn xs P k).2:Int)) % 4294967296)) rfl rfl AA AA AA ?_;intro t z R r E))
  go_roundw
  case rel =>
   refine⟨k+1,t,z,AA,AF,?_,rfl,?_,X6 a E h D⟩
   ·simp only[Xn,Hx.out,d.out];rw[p.out];go_num
   rw[p.out] at r;simp only[Xn,Hx.out,d.out,Mi];simpa using r
  simp[intOf];omega
 obtain rfl:k=33:=AA
 have s:=Zyj xs P j l 33 H G F;have I:Zq .u32 wr A 33 B (Xn xs P 33).1:=Yl h;have o:=LH (Vg _ (Gv xs P 33));rw[s] at o;clear s;go_wp2_with (go_at_call 31;(with_reducible refine (G6 _ _ _ _ _ I).mono ?_);rintro e w'⟨rfl,q,rfl⟩);go_ret;rw[o.out] at q ⊢;exact⟨_,_,rfl,q,a⟩
theorem ref_quo(A1:Option Addr)(n c1:Nat)(xs:List Nat)(A2:Option Addr)(m c2:Nat)(ys:List Nat)(w:World)(h1:Zq .u32 w A1 n c1 xs)(o:Zq .u32 w A2 m c2 ys)(lx:Lim xs)(ly:Lim ys):
 Calls prog 138 #[.slice A1 n c1,.slice A2 m c2] w (RetQuo w (M2 xs ys)):=by
 obtain rfl:=h1.len;obtain rfl:=o.len;by_cases N:Zm xs=true
 case neg =>
  have cz:Zm xs=false:=by simpa using N
  have l:M2 xs ys=([],[],1):=by simp[M2,cz]
  rw[l];clear l N;go_enter func138,ntmps138;go_wp2_with (first
   | (go_at_call 35;(with_reducible refine (Z4 _ _ _ _ _ h1).mono ?_);rintro e w'⟨rfl,rfl⟩)
   | (go_at_call 35;(with_reducible refine (Z4 _ _ _ _ _ o).mono ?_);rintro e w'⟨rfl,rfl⟩))
  go_ret3
  unfold RetQuo;exact⟨none,0,none,0,rfl,Zq.nil _ _ _ _ AE,Zq.nil _ _ _ _ AE,AP _ _⟩
 by_cases O:Zm ys=true
 case neg =>
  have c0:Zm ys=false:=by simpa using O
  have l:M2 xs ys=([],[],1):=by simp[M2,c0]
  rw[l];clear l O;go_enter func138,ntmps138;go_wp2_with (first
   | (go_at_call 35;(with_reducible refine (Z4 _ _ _ _ _ h1).mono ?_);rintro e w'⟨rfl,rfl⟩)
   | (go_at_call 35;(with_reducible refine (Z4 _ _ _ _ _ o).mono ?_);rintro e w'⟨rfl,rfl⟩))
  go_ret3
  unfold RetQuo;exact⟨none,0,none,0,rfl,Zq.nil _ _ _ _ AE,Zq.nil _ _ _ _ AE,AP _ _⟩
 by_cases D:ys.length=0
 ·have l:M2 xs ys=([],[],1):=by simp[M2,D]
  rw[l];clear l;have cv:((ys.length:Int)==0)=true:=by simp[D]
  clear D;go_enter func138,ntmps138;go_wp2_with (first
   | (go_at_call 35;(with_reducible refine (Z4 _ _ _ _ _ h1).mono ?_);rintro e w'⟨rfl,rfl⟩)
   | (go_at_call 35;(with_reducible refine (Z4 _ _ _ _ _ o).mono ?_);rintro e w'⟨rfl,rfl⟩))
  go_ret3
  unfold RetQuo;exact⟨none,0,none,0,rfl,Zq.nil _ _ _ _ AE,Zq.nil _ _ _ _ AE,AP _ _⟩
 have cv:((ys.length:Int)==0)=false:=by rw[AR];omega
 have de:xs.length<=32:=Ut xs N;have cm:ys.length<=32:=Ut ys O;have ty:=X8 ys O;have a3:0<val ys:=by
  rcases BW (val ys) with h | h
  ·have:=Mf ys ly ty;rw[h,Va] at this;rw[<-this] at D;simp at D
  exact h
 have bv:=Wm (P:=prog) 44 41 .u32 4 underlying44 Tryz.info34 33 AA AA;have bw:∀w:World,(Instr.makeSlice 44 (.int .i64 33) (.int .i64 33)).run prog w = .ok (.slice (some ⟨w,0,none⟩) 33 33) (w.alloc (.cells (nums .u32 (List.replicate 33 0)).toArray 41)):=bv;clear bv;obtain⟨E,be⟩:∃E,Hid (List.replicate 33 0=E):=⟨_,LH rfl⟩;rw[be.out] at bw;have ap:Hid (E.length=33):=LH (by rw[<-be.out];simp);have l:M2 xs ys=(Zq3 (val xs / val ys),Zq3 (val xs % val ys),0):=by simp[M2,N,O,D]
 have bc:=LH (Ul xs lx N).2;have a2:val ys<4294967296 ^ 32:=AK (Ui ys ly) (CV AC cm);have bd:=LH a2;rw[l];clear l a2;go_enter func138,ntmps138;go_wp2_with (first
  | (go_at_call 35;(with_reducible refine (Z4 _ _ _ _ _ h1).mono ?_);rintro e w'⟨rfl,rfl⟩)
  | (go_at_call 35;(with_reducible refine (Z4 _ _ _ _ _ o).mono ?_);rintro e w'⟨rfl,rfl⟩))
 go_loopw [7,8,9] (RQuoRel w xs (val ys)) (λ_ _ i _=>(intOf i+1).toNat)
 case atStart =>
  have hz:val xs / 2 ^ (32*xs.length)=0:=Nat.div_eq_of_lt (by
   have:=Ui xs lx;rwa [show (4294967296:Nat)=2 ^ 32 from rfl,<-Nat.pow_mul] at this)
  have F:[]=Zq3 (val xs / 2 ^ (32*xs.length) / val ys):=by rw[hz,Nat.zero_div,Va]
  have e3:[]=Zq3 (val xs / 2 ^ (32*xs.length) % val ys):=by rw[hz,Nat.zero_mod,Va]
  exact⟨32*xs.length,none,0,none,0,[],[],AF,AJ _,rfl,Zq.nil _ _ _ _ AE,rfl,Zq.nil _ _ _ _ AE,AP _ _,LH F,LH e3⟩
 obtain⟨k,A,c,f,g,qs,b,rfl,hk,rfl,ax,rfl,ay,X,al,W⟩:=hrel;by_cases ck:0<k
 ·obtain⟨i,rfl⟩:∃i,k=i+1:=⟨k-1,AA⟩;clear ck;have bp:((i+1:Nat):Int)-1=(i:Int):=AA
  rw[bp];clear bp;have br:i / 32<xs.length:=AA
  have S:=LH (bit_of xs lx i);have ba:=LH (Zsy (val xs) (val ys) i a3);obtain⟨j,r,bq,s⟩:∃j r,i=32*j+r/\r<32:=⟨i / 32,i % 32,AA,AA⟩;have hj:i / 32=j:=AA
  have bz:i % 32=r:=AA
  rw[hj] at br S;rw[bz] at S;have cj:(i:Int) / 32=(j:Int):=AA
  have cs:(i:Int) % 32=(r:Int):=AA
  have c3:=LH bq;clear bq hj bz;obtain⟨b1,o1,u,rfl,c9,Hu,J⟩:=(h1.below X).get (j:=j) br;have cu:=lx.of_get Hu.out;have co:(2:Int) ^ r=((2 ^ r:Nat):Int):=AE
  have cx:(u:Int) / ((2 ^ r:Nat):Int)=((u / 2 ^ r:Nat):Int):=AE
  have bo:=Yn (d:=0) Hu.out;have bl:u / 2 ^ r % 2=val xs / 2 ^ i % 2:=by have:=S.out;rwa [bo] at this
  have dg:u / 2 ^ r<4294967296:=En (Nat.div_le_self _ _) cu;have bk:((u / 2 ^ r:Nat):Int) % 2=((u / 2 ^ r % 2:Nat):Int):=AA
  have bm:u / 2 ^ r % 2<=1:=AA
  generalize u / 2 ^ r=z at *;generalize ch:z % 2=bt at *;have b6:=LH bl;clear ch bl bo S;generalize cp:(2:Nat) ^ r=pw at *;clear cp;have a1:val b=val xs / 2 ^ (i+1) % val ys:=by rw[W.out,Yd]
  have lr:Lim b:=by rw[W.out];exact Z9 _
  have ct:b.length<=32:=by
   rw[W.out,Vt];exact Nat.lt_trans (Nat.mod_lt _ a3) bd.out
  have ab:=ba.out;have b2:(Zq3 (2*val b+bt)).length<=33:=by
   have a2:=bd.out;rw[Vt,Nat.pow_succ];have:val b<val ys:=by rw[a1];exact Nat.mod_lt _ a3
   generalize (4294967296:Nat) ^ 32=B at *;omega
  have cc:=LH a1;simp only[] at ab;rw[<-b6.out,<-cc.out] at ab;have V:=LH ab;clear ab ba a1;obtain⟨wo,rfl⟩:∃wo:World,wo=wr:=⟨_,rfl⟩;go_wp2;go_loopw [12,13] (RDblRel wo b E bt) (λ_ q _=>(33-intOf q).toNat)
  case atStart=>exact⟨0,AV _,rfl,congrArg _ bk,by simpa [twP] using Own.new wo 41 .u32 E,(AP _ _).alloc (AJ _) _⟩
  clear J bw co cx bk cj cs;obtain⟨q,hq,rfl,rfl,C,Y⟩:=hrel;have ci:=Ae b bt bm lr q;have U:=LH (Zye b bt q);by_cases cl:q<33
  ·have cw:=lr.getD q;obtain⟨y,Hy⟩:∃y,Hid (b.getD q 0=y):=⟨_,LH rfl⟩;have hl:=Ww f b.length g b q wr (ay.below Y) lr;rw[Hy.out] at hl cw;have Hl:=LH hl;obtain⟨v,Hv,db⟩:=C.cell (i:=q) (by rw[AU,U.out,CJ,ap.out];omega);have dc:=C.frozen q;clear hl;go_wp2_with (go_at_call 76;(with_reducible refine Hl.out.mono ?_);rintro e w'⟨rfl,rfl⟩);go_roundw
   case rel =>
    refine⟨q+1,AA,AF,?_,?_,Y.setCell AE _⟩
    ·simp only[twP,Hy.out];go_num
    have:=C.set_ q ((2*y+(twP b bt q).2) % 4294967296);rw[Md _ E q _ U.out (by rw[ap.out];exact cl)] at this;simp only[twP,Hy.out];simpa using this
   simp[intOf];omega
  have av:q=33:=AA
  rw[List.drop_eq_nil_of_le (by rw[ap.out];omega),DJ] at C;have bx:=C.nums (n:=33) (c:=33) (by rw[U.out];exact av) (AJ _) AA;have aj:=LH (Vg _ (twP_lim b bt q));rw[dbl_done b lr bt bm ct q av] at aj;have M:qs=Zq3 (val xs / 2 ^ (i+1) / val ys):=al.out;have R:Hid (val xs / 2 ^ (i+1) / val ys<big):=LH (by
   have h1:=bc.out;have o:=Nat.div_le_self (val xs) (2 ^ (i+1));have h3:=Nat.div_le_self (val xs / 2 ^ (i+1)) (val ys);omega)
  have T:Hid (val xs / 2 ^ i / val ys<big):=LH (by
   have h1:=bc.out;have o:=Nat.div_le_self (val xs) (2 ^ i);have h3:=Nat.div_le_self (val xs / 2 ^ i) (val ys);omega)
  clear al;generalize cq:val xs / 2 ^ (i+1) / val ys=a at *;clear cq;subst M;have x:Below w w wr:=X.trans (Y.mono X.size);have aa:=ax.below Y;have da:=x.size;have ak:=LH b2;have ao:Hid (ys.length<=33):=LH AA;have a5:=LH ly;clear C U ci av ay ax b2;generalize hp:(twP b bt q).1=ps at *;clear hp;by_cases Z:val ys<=2*val b+bt
  ·have J:decide (Vm (2*val b+bt) (val ys)=-1)=false:=by
    unfold Vm;rw[if_neg AA];split <;> rfl
   have s:=V.out.1 Z;have Hr:=LH s;have b9:=LH Z;have L:Xm (a+a)=(Zq3 (a+a),0):=Km (by have:=T.out;rw[s.2] at this;omega);have bn:Xm (a+a+1)=(Zq3 (a+a+1),0):=Km (by have:=T.out;rw[s.2] at this;omega);have b5:Hid (a+a<big):=LH (by have:=T.out;rw[s.2] at this;omega);have ai:=LH L;have b7:=LH bn;clear L bn s Z V;generalize a0:2*val b+bt=v2 at *;clear a0;have H:∀w' A c f g,Zq .u32 w' A (Zq3 a).length c (Zq3 a)->Zq .u32 w' f (Zq3 a).length g (Zq3 a)->Calls prog 125 #[.slice A (Zq3 a).length c,.slice f (Zq3 a).length g] w' (Xr w' (Zq3 (a+a),0)):=by
    intro w' A c f g G I;have:=Aa A c a f g a w' G I R.out R.out;rwa [ai.out] at this
   have bj:∀w' A c f g,Zq .u32 w' A (Zq3 (a+a)).length c (Zq3 (a+a))->Zq .u32 w' f 1 g [1]->Calls prog 125 #[.slice A (Zq3 (a+a)).length c,.slice f 1 g] w' (Xr w' (Zq3 (a+a+1),0)):=by
    intro w' A c f g G I;have e:=Zqh;have cg:Zq .u32 w' f (Zq3 1).length g (Zq3 1):=by rw[e];exact I
    have:=Aa A c (a+a) f g 1 w' G cg b5.out (Zrf 1 AC);rw[b7.out,e] at this;exact this
   have ah:=LH H;have b4:=LH bj;clear H bj;go_wp2_with (first
    | (go_at_call 31;(with_reducible refine (G6 _ _ _ _ _ bx).mono ?_);rintro e w'⟨rfl,t,rfl⟩;rw[aj.out] at t ⊢)
    | (go_at_call 188;(with_reducible refine (Zvr _ _ _ _ _ _ _ _ _ (t.below p) ((o.below x).below p) (Z9 _) a5.out ak.out ao.out).mono ?_);rintro e w'⟨rfl,rfl⟩;rw[Yd,J])
    | (go_at_call 189;(with_reducible refine (ref_less _ _ _ _ _ _ _ _ _ (t.below p) ((o.below x).below p) (Z9 _) a5.out ak.out ao.out (by rw[Yd];exact b9.out)).mono ?_);rintro e w3⟨A5,c5,rfl,bu,bg⟩;rw[Yd] at bu ⊢)
    | (go_at_call 125;(with_reducible refine (ah.out _ _ _ _ _ aa aa).mono ?_);rintro e w1⟨A4,c4,rfl,aw,p⟩)
    | (go_at_call 125;(with_reducible refine (b4.out _ _ _ _ _ ((aw.below bg).below ((AP _ _).alloc (AJ _) _)) (Zqr w3)).mono ?_);rintro e w6⟨A6,c6,rfl,cr,bh⟩))
   have bi:Below w3 w3 (w3.alloc (.cells #[.int .u32 1] 41)):=(AP _ _).alloc (AJ _) _;have ar:=Zz (Zz (Zz (Zz x p) bg) bi) bh;go_roundw
   case rel =>
    obtain⟨e1,F⟩:=Hr.out;refine⟨i,A6,c6,A5,c5,Zq3 (a+a+1),Zq3 (v2-val ys),AF,AA,rfl,cr,rfl,(bu.below bi).below bh,ar,LH ?_,LH ?_⟩
    ·rw[F,Nat.two_mul]
    rw[e1]
   simp[intOf] <;> omega
  have J:decide (Vm (2*val b+bt) (val ys)=-1)=true:=by
   unfold Vm;rw[if_pos AA];rfl
  have s:=V.out.2 AA;have Hr:=LH s;have L:Xm (a+a)=(Zq3 (a+a),0):=Km (by have:=T.out;rw[s.2] at this;omega);have ai:=LH L;clear L s Z V;generalize a0:2*val b+bt=v2 at *;clear a0;have H:∀w' A c f g,Zq .u32 w' A (Zq3 a).length c (Zq3 a)->Zq .u32 w' f (Zq3 a).length g (Zq3 a)->Calls prog 125 #[.slice A (Zq3 a).length c,.slice f (Zq3 a).length g] w' (Xr w' (Zq3 (a+a),0)):=by
   intro w' A c f g G I;have:=Aa A c a f g a w' G I R.out R.out;rwa [ai.out] at this
  have ah:=LH H;clear H;go_wp2_with (first
   | (go_at_call 31;(with_reducible refine (G6 _ _ _ _ _ bx).mono ?_);rintro e w'⟨rfl,t,rfl⟩;rw[aj.out] at t ⊢)
   | (go_at_call 188;(with_reducible refine (Zvr _ _ _ _ _ _ _ _ _ (t.below p) ((o.below x).below p) (Z9 _) a5.out ak.out ao.out).mono ?_);rintro e w'⟨rfl,rfl⟩;rw[Yd,J])
   | (go_at_call 125;(with_reducible refine (ah.out _ _ _ _ _ aa aa).mono ?_);rintro e w1⟨A4,c4,rfl,aw,p⟩))
  have ar:=Zz x p;go_roundw
  case rel =>
   obtain⟨e1,F⟩:=Hr.out;refine⟨i,A4,c4,_,33,Zq3 (a+a),Zq3 v2,AF,AA,rfl,aw,rfl,t.below p,ar,LH ?_,LH ?_⟩
   ·rw[F,Nat.two_mul]
   rw[e1]
  simp[intOf] <;> omega
 obtain rfl:k=0:=AA
 have M:=al.out;rw[Nat.pow_zero,Nat.div_one] at M;have az:=W.out;rw[Nat.pow_zero,Nat.div_one] at az;have ca:=LH M;have cb:=LH az;clear M az;go_wp2;go_ret3
 rw[<-ca.out,<-cb.out];unfold RetQuo;exact⟨_,_,_,_,rfl,ax,ay,X⟩
def draw_number(U:Option Addr)(n c1:Nat)(d:List Nat)(k:Nat)(w:World)(h1:Zq .u32 w U n c1 d)(lw:Lim d)(h0:0<(Q d))(an:32*((Q d)-1)<k)(ao:k<=32*(Q d))(hn:(Q d)<=40):
 Calls prog 45 #[K U n c1,aI aJ (k:Int)] w (Bq w (oneOf k d)):=by
 obtain rfl:=h1.len;have C:=LH (Zqs k d lw h0 an ao);obtain⟨l,R⟩:∃l,(Q d)=l+1:=⟨(Q d)-1,AA⟩;obtain⟨y,N⟩:∃y,Hid (d[l]? = some y):=⟨_,LH (AL AA)⟩;have ab:=lw.of_get N.out;obtain⟨r,Y⟩:∃r,r=k % 32:=⟨_,rfl⟩;have a8:(k:Int) % 32=(r:Int):=AA
 have Z:r<32:=AA
 by_cases ba:0<r
 ·have s:=LH (mask_last k d l y R AA AA N.out);have W:k-32*l=r:=AA
  rw[W] at s;clear W Y;have aq:((Q d):Int)-1=(l:Int):=AA
  have aa:=shl_hand r Z;have aw:2 ^ r<4294967296:=by
   have:=Nat.pow_lt_pow_right (a:=2) AC Z;simpa using this
  have ax:0<2 ^ r:=Nat.two_pow_pos r;have O:bits .and .u32 (y:Int) ((2 ^ r-1:Nat):Int)=((y % 2 ^ r:Nat):Int):=by
   rw[u32_and_nat _ _ ab AA,Nat.and_two_pow_sub_one_eq_mod]
  have V:((2 ^ r:Nat):Int)-1=((2 ^ r-1:Nat):Int):=AA
  have X:(2:Int) ^ r=((2 ^ r:Nat):Int):=AE
  have av:y % 2 ^ r<4294967296:=En (Nat.mod_le _ _) ab;obtain⟨m,ae⟩:∃m,Hid (y % 2 ^ r=m):=⟨_,LH rfl⟩;rw[ae.out] at O av s;obtain⟨L,af⟩:∃L,Hid (2 ^ r=L):=⟨_,LH rfl⟩;rw[af.out] at aa aw ax O V X;have b1:(0:Int)<=(l:Int):=AA
  have b2:(l:Int)<((Q d):Int):=AA
  have a3:IntKind.i64.wrap (((Q d):Int)-1)=(l:Int):=by rw[aq];exact i64w AA AA
  have a2:IntKind.u32.wrap ((L:Int)-1)=((L-1:Nat):Int):=by rw[IntKind.wrap_u32];omega
  have ar:l<(Q d):=AA
  clear R;go_enter func45,ntmps45;go_wp2_with (go_at_call 102;(with_reducible refine (Zw4 _ _ _ _ _ h1 AA).mono ?_);rintro e w1⟨A,c,rfl,D,ah⟩);obtain⟨g,u,rfl,hg,a7,Hu,aj,al⟩:=Gh D (j:=l) ar;have hu:u = aI .u32 (y:Int):=by
   obtain⟨x',J,rfl⟩:=Zrz _ _ _ _ Hu.out;rw[N.out] at J;injection J with J;rw[J]
  subst hu;go_wp2;go_region
  have h:=Lt D l (aI .u32 (m:Int));rw[<-Be,<-s.out] at h;have h:Zq .u32 (w1.setCell ⟨g,l,aN⟩ (aI .u32 (m:Int))).drew (some ⟨g,0,aN⟩) (Q d) c (Zrx k d (Q d)):=Zq.drew (Yl h);have G:Below w w (w1.setCell ⟨g,l,aN⟩ (aI .u32 (m:Int))).drew:=(ah.setCell hg _).drew;generalize (w1.setCell ⟨g,l,aN⟩ (aI .u32 (m:Int))).drew=wr at *;clear aj al D s a3 a2 O aa X V;obtain⟨xs,M⟩:∃xs,Hid (Zrx k d (Q d)=xs):=⟨_,LH rfl⟩;rw[M.out] at h C;have I:=h.len;have F:=LH I;clear I;have ak:=h.cap;go_wp2;go_loop [5] (λv=>∃q:Nat,q<=(Q d)/\v = K (some ⟨g,0,aN⟩) q c/\Xx xs=Xx (xs.take q)) (λv=>lenOf v)
  case atStart=>exact⟨(Q d),AJ _,rfl,by rw[AQ (by have:=F.out;omega)]⟩
  obtain⟨q,T,rfl,hrel⟩:=hrel;have t:=LH hrel;clear hrel;by_cases au:0<q
  ·obtain⟨b,a4,x,z,hb,Hx,P⟩:=h.get (j:=q-1) AA;injection z with z;injection z with e1 e2;subst e1;subst e2;try rw[BF] at P
   have S:=F.out;have ay:q<=(Q xs):=AA
   clear S;by_cases B:x=0
   ·subst B;go_wp2;go_round
    case rel =>
     refine⟨q-1,AA,AF,?_⟩;rw[t.out];have:=Zws xs (q-1) AA (by simp[Hx.out]);rw[<-this,show q-1+1=q from by omega]
    simp[lenOf];omega
   have ht:((x:Int)==0)=false:=by simp[B]
   have f:=Zxp xs (q-1) AA (by simpa [Hx.out] using B);rw[show q-1+1=q from by omega,<-t.out] at f;have H:(Xx xs).length=q:=by rw[f];simp;omega
   have p:=LH f;have E:=LH H;clear f H;go_wp2;go_ret;rw[<-C.out];refine⟨(some ⟨g,0,aN⟩),c,by rw[E.out];rfl,?_,G⟩;rw[E.out,p.out];exact h.take q c T AA AA
  have f:Xx xs=[]:=by rw[t.out,show q=0 from by omega];simp[Xx]
  have p:=LH f;clear f;obtain rfl:q=0:=AA
  go_wp2;go_ret;rw[<-C.out,p.out];exact⟨_,_,rfl,Zq.nil _ _ _ _ AA,G⟩
 have az:r=0:=AA
 have ap:k=32*(Q d):=AA
 have s:Hid (Zrx k d (Q d)=d):=LH (by rw[Zr2 k d (Q d) (AJ _) AA,List.take_length]);subst az;clear Y R ap;go_enter func45,ntmps45;go_wp2_with (go_at_call 102;(with_reducible refine (Zw4 _ _ _ _ _ h1 AA).mono ?_);rintro e wr⟨A,c,rfl,D,G⟩);have h:Zq .u32 wr A (Q d) c (Zrx k d (Q d)):=by rw[s.out];exact Yl D
 obtain⟨g,o,_,rfl,_⟩:=h.get (j:=0) h0;clear D s;obtain⟨xs,M⟩:∃xs,Hid (Zrx k d (Q d)=xs):=⟨_,LH rfl⟩;rw[M.out] at h C;have I:=h.len;have F:=LH I;clear I;have ak:=h.cap;go_wp2;go_loop [5] (λv=>∃q:Nat,q<=(Q d)/\v = K (some ⟨g,o,aN⟩) q c/\Xx xs=Xx (xs.take q)) (λv=>lenOf v)
 case atStart=>exact⟨(Q d),AJ _,rfl,by rw[AQ (by have:=F.out;omega)]⟩
 obtain⟨q,T,rfl,hrel⟩:=hrel;have t:=LH hrel;clear hrel;by_cases au:0<q
 ·obtain⟨b,a4,x,z,hb,Hx,P⟩:=h.get (j:=q-1) AA;injection z with z;injection z with e1 e2;subst e1;subst e2;try rw[BF] at P
  have S:=F.out;have ay:q<=(Q xs):=AA
  clear S;by_cases B:x=0
  ·subst B;go_wp2;go_round
   case rel =>
    refine⟨q-1,AA,AF,?_⟩;rw[t.out];have:=Zws xs (q-1) AA (by simp[Hx.out]);rw[<-this,show q-1+1=q from by omega]
   simp[lenOf];omega
  have ht:((x:Int)==0)=false:=by simp[B]
  have f:=Zxp xs (q-1) AA (by simpa [Hx.out] using B);rw[show q-1+1=q from by omega,<-t.out] at f;have H:(Xx xs).length=q:=by rw[f];simp;omega
  have p:=LH f;have E:=LH H;clear f H;go_wp2;go_ret;rw[<-C.out];refine⟨(some ⟨g,o,aN⟩),c,by rw[E.out];rfl,?_,G⟩;rw[E.out,p.out];exact h.take q c T AA AA
 have f:Xx xs=[]:=by rw[t.out,show q=0 from by omega];simp[Xx]
 have p:=LH f;clear f;obtain rfl:q=0:=AA
 go_wp2;go_ret;rw[<-C.out,p.out];exact⟨_,_,rfl,Zq.nil _ _ _ _ AA,G⟩
def rf_less(d:Option Addr)(c1 a:Nat)(f:Option Addr)(c2 b:Nat)(w:World)(h1:Zq .u32 w d (Zq3 a).length c1 (Zq3 a))(g:Zq .u32 w f (Zq3 b).length c2 (Zq3 b))(k:a<big)(l:b<=a):
 Calls prog 79 #[K d (Zq3 a).length c1,K f (Zq3 b).length c2] w λe w'=>∃A c,e = aR (K A (Zq3 (a-b)).length c)/\Zq .u32 w' A (Zq3 (a-b)).length c (Zq3 (a-b))/\Below w w w':=by
 have CA:=ref_sub d _ c1 (Zq3 a) f _ c2 (Zq3 b) w h1 g (Z9 _) (Z9 _);rw[Zw6 k l] at CA;have CA:=LH CA;go_enter func79,ntmps79;go_wp2_with (first
  | (go_at_call 111
     refine CA.out.mono ?_;rintro e o⟨h,j,rfl,n,m⟩))
 go_ret;exact⟨h,j,rfl,n,m⟩
section
variable {W X:World} {L:List Qr} {b:Nat->Bool} {u:Nat->Value}
def VMs.there(M:VMs W L b u X){p:Qr}(f:p∈L)(h:b p.ia=true)(j:b p.is=false):∃g,u p.ia = aP (some ⟨g,0,aN⟩)/\W.heap.size<=g/\Blk X g p.ty p.z:=by
 obtain⟨g,k,e,d,c,⟨_,rfl⟩ | ⟨a,_⟩⟩:=M.at_ p f h
 ·exact⟨g,e,d,c⟩
 rw[j] at a;cases a
end
section
variable {W0:World} {h:GH} {G:Gr} {At:Option Addr} {nt ct wk:Nat} {cs:List Nat} {full:Bool} {A:Option Addr} {c:Nat} {W:World}
def Bp.fill(M:Bp W0 h G At nt ct wk cs full A c W):Bp W0 h G At nt ct wk cs true A c (W.setCell ⟨wk,6,aN⟩ (aB true))/\Zu W (W.setCell ⟨wk,6,aN⟩ (aB true)):=by
 have b:=Off.of_set W wk 6 (aB true);refine⟨⟨M.base.trans (b.is_below M.base.size λq a=>by rw[a];exact M.low),M.box.set 6 _,M.row.off b λq a e=>M.apart (by rw[a,e]),M.low,M.few⟩,Zu.of_off b λq a o z=>by rw[a];exact M.no32 o z⟩
end
section
variable{a:World}{wd ps:List Int}{l:List Oper}{ops:Array Oper}{o:Oper}{E:Prop}
section
variable {W X:World} {L:List Qr} {b:Nat->Bool} {u:Nat->Value}
def VMs.call(M:VMs W L b u X)(c:Below X X a)(i:Nat){j:Nat}(f:b j=false)(hi:L.all (λp=>p.ia != i&&p.is != i&&(p.ic != i || p.is==j))=true)(v:Value):VMs W L (Mz b i) (upd u i v) a :=
 M.more c (λp d=>by
   have h:=BG.1 hi p d;simp only[AS,BK,Cs,BS] at h;exact⟨h.1.1.symm,h.1.2.symm,λe=>h.2.elim (λh=>absurd e.symm h) λh=>by rw[h];exact f⟩) v
end
section
variable {W0:World} {h:GH} {G:Gr} {At:Option Addr} {nt ct wk:Nat} {cs:List Nat} {full:Bool} {A:Option Addr} {c:Nat} {W:World}
def Bp.below{b:World}(M:Bp W0 h G At nt ct wk cs full A c W)(a:Below W W b):Bp W0 h G At nt ct wk cs full A c b :=
 ⟨Zz M.base a,M.box.ext a,M.row.off (Off.of_below (S:=λ_=>False) a) λ_ _=>id,M.low,M.few⟩
end
def rf_Same9(h k:GH)(A B:Gr)(w:World)(L:Yf w h A)(M:Yf w k B):
 Calls prog 118 #[GV h A.zt,GV k B.zt] w λe w'=>e = aR (aB (eqG A B))/\Below w w w':=by
 obtain⟨a1,n1,c1,a2,n2,c2,a3,n3,c3⟩:=h;obtain⟨b1,O,d1,b2,P,d2,b3,R,d3⟩:=k;have X:(Q A.T)=n1:=L.T.len;have Y:(Q A.O)=n2:=L.O.len;have Z:(Q A.U)=n3:=L.U.len;have g1:(Q B.T)=O:=M.T.len;have g2:(Q B.O)=P:=M.O.len;have g3:(Q B.U)=R:=M.U.len;have k1:=L.T.cap;have k2:=L.O.cap;have k3:=L.U.cap;have l1:=M.T.cap;have l2:=M.O.cap;have l3:=M.U.cap;simp only[] at k1 k2 k3 l1 l2 l3;have HA:=LH L;have HB:=LH M;have bk:=Y1.new w 26 ⟨a1,n1,c1,a2,n2,c2,a3,n3,c3⟩ A.zt;have am:=Y1.new (w.alloc (aC #[K a1 n1 c1,K a2 n2 c2,K a3 n3 c3,aI aJ A.zt] 26)) 26 ⟨b1,O,d1,b2,P,d2,b3,R,d3⟩ B.zt;have bd:=Zy w (aC #[K a1 n1 c1,K a2 n2 c2,K a3 n3 c3,aI aJ A.zt] 26);have a0:=Zy (w.alloc (aC #[K a1 n1 c1,K a2 n2 c2,K a3 n3 c3,aI aJ A.zt] 26)) (aC #[K b1 O d1,K b2 P d2,K b3 R d3,aI aJ B.zt] 26);have bf:(w.alloc (aC #[K a1 n1 c1,K a2 n2 c2,K a3 n3 c3,aI aJ A.zt] 26)).heap.size=w.heap.size+1:=Zl _ _;have az:=bk.below a0;have hW:=Zz bd a0;clear L M bk bd a0;go_enter func118,ntmps118;go_upto_region 1 with fail;generalize (w.alloc (aC #[K a1 n1 c1,K a2 n2 c2,K a3 n3 c3,aI aJ A.zt] 26)).alloc (aC #[K b1 O d1,K b2 P d2,K b3 R d3,aI aJ B.zt] 26)=W at *;rw[bf] at am;have C:=LH az;have D:=LH am;have b:=LH hW;have⟨y5,y0,y1,y2,y3⟩:=az;simp only[] at y0 y1 y2 y3;have⟨z5,z0,z1,z2,z3⟩:=am;simp only[] at z0 z1 z2 z3;clear az am bf hW;have s:A≠B->Hid (eqG A B=false):=λh=>LH (eqG_no h);by_cases q1:n1=O
 case neg =>
  have m:=s (by rintro rfl;omega);have i1:((n1:Int) != (O:Int))=true:=by rw[BK];omega
  clear s q1 X Y Z g1 g2 g3;go_wp2_with fail;go_ret;exact⟨by rw[m.out];rfl,b.out⟩
 have i1:((n1:Int) != (O:Int))=false:=by rw[BR];omega
 by_cases q2:n2=P
 case neg =>
  have m:=s (by rintro rfl;omega);have i2:((n2:Int) != (P:Int))=true:=by rw[BK];omega
  clear s q1 q2 X Y Z g1 g2 g3;go_wp2_with fail;go_ret;exact⟨by rw[m.out];rfl,b.out⟩
 have i2:((n2:Int) != (P:Int))=false:=by rw[BR];omega
 by_cases q3:n3=R
 case neg =>
  have m:=s (by rintro rfl;omega);have y:((n3:Int) != (R:Int))=true:=by rw[BK];omega
  clear s q1 q2 q3 X Y Z g1 g2 g3;go_wp2_with fail;go_ret;exact⟨by rw[m.out];rfl,b.out⟩
 have y:((n3:Int) != (R:Int))=false:=by rw[BR];omega
 by_cases q4:A.zt=B.zt
 case neg =>
  have m:=s (by rintro rfl;exact q4 rfl);have i4:(A.zt != B.zt)=true:=by rw[BK];exact q4
  clear s q1 q2 q3 q4 X Y Z g1 g2 g3;go_wp2_with fail;go_ret;exact⟨by rw[m.out];rfl,b.out⟩
 have i4:(A.zt != B.zt)=false:=by rw[BR];exact q4
 have b0:=LH q4;have E1:=LH X;have E2:=LH Y;have E3:=LH Z;have G1:=LH g1;have G2:=LH g2;have G3:=LH g3;obtain rfl:n1=O:=q1;obtain rfl:n2=P:=q2;obtain rfl:n3=R:=q3;have m:=LH s;clear s q4 X Y Z g1 g2 g3;go_wp2_with fail;clear i1 i2 y i4 y0 y1 y2 y3 z0 z1 z2 z3;go_loopw [5] (λi wr=>∃q:Nat,q<=n1/\i = aI aJ (q:Int)/\Hid (A.T.take q=B.T.take q)/\Hid (Below W W wr)) (λi _=>n1-(intOf i).toNat)
 case atStart=>exact⟨0,AV _,rfl,LH rfl,LH (AP _ _)⟩
 obtain⟨q,hq,rfl,n,a⟩:=hrel;have⟨y5',y0,y1,y2,y3⟩:=C.out.below a.out;simp only[] at y0 y1 y2 y3;have⟨z5',z0,z1,z2,z3⟩:=D.out.below a.out;simp only[] at z0 z1 z2 z3;by_cases N:q<n1
 case pos =>
  obtain⟨tb,bn,t,rfl,bg,E,p0,p1,p2⟩:=(HA.out.below (Zz b.out a.out)).T.get N;obtain⟨ub,bp,u,rfl,bi,F,r0,r1,r2⟩:=(HB.out.below (Zz b.out a.out)).T.get N;have ae:=eq_trm t u;have cm:=Tryz.guardTerm;have bc:=Yt wr;cases v:trmB t u
  case false =>
   have d:=m.out (λe=>by
    have h1:=E.out;rw[e,F.out] at h1;have:u=t:=by simpa using h1
    rw[this,Bf.2 rfl] at v;cases v)
   rw[v] at ae;go_wp2_with fail;refine Zs AB AB ?_;repeat (go_big_quiet_step (fail))
   refine BJ ?_;rintro _⟨x,rfl⟩;go_wp2_with fail;go_ret;exact⟨by rw[d.out];rfl,Zz b.out (a.out.trans ((Zr wr x).mono a.out.size))⟩
  obtain rfl:=Bf.1 v;rw[v] at ae;go_wp2_with fail;refine Zs AB AB ?_;repeat (go_big_quiet_step (fail))
  refine BJ ?_;rintro _⟨x,rfl⟩;go_wp2_with fail;go_roundw
  case rel=>exact⟨q+1,AA,AF,LH (Qc n.out E.out F.out),LH (a.out.trans ((Zr wr x).mono a.out.size))⟩
  simp[intOf];omega
 obtain rfl:q=n1:=AA
 have HT:Hid (A.T=B.T):=LH (by have:=n.out;rwa [AQ (by rw[E1.out];exact AJ _),AQ (by rw[G1.out];exact AJ _)] at this);have ai:=LH (Zz b.out a.out);have aj:=LH (C.out.below a.out);have ak:=LH (D.out.below a.out);go_wp2_with fail;clear y0 y1 y2 y3 z0 z1 z2 z3 y5' z5' n a C D b;have C:=aj;have D:=ak;have b:=ai;clear aj ak ai;generalize wr=W at *;go_loopw [6] (λi wr=>∃q:Nat,q<=n2/\i = aI aJ (q:Int)/\Hid (A.O.take q=B.O.take q)/\Hid (Below W W wr)) (λi _=>n2-(intOf i).toNat)
 case atStart=>exact⟨0,AV _,rfl,LH rfl,LH (AP _ _)⟩
 obtain⟨q,hq,rfl,n,a⟩:=hrel;have⟨y5',y0,y1,y2,y3⟩:=C.out.below a.out;simp only[] at y0 y1 y2 y3;have⟨z5',z0,z1,z2,z3⟩:=D.out.below a.out;simp only[] at z0 z1 z2 z3;by_cases N:q<n2
 case pos =>
  obtain⟨tb,bn,t,rfl,bg,E,p0⟩:=(HA.out.below (Zz b.out a.out)).O.get N;obtain⟨ub,bp,u,rfl,bi,F,r0⟩:=(HB.out.below (Zz b.out a.out)).O.get N;have bc:=Yt wr;by_cases v:t=u
  case neg =>
   have ae:(t==u)=false:=by
    cases h:t==u
    ·rfl
    exact absurd (Zx5.1 h) v
   have b6:(t.toList==u.toList)=false:=by rw[<-beq_toListBytes];exact ae
   have d:=m.out (λe=>by
    have h1:=E.out;rw[e,F.out] at h1;exact v (by simpa using h1.symm))
   clear v;go_wp2_with fail;refine Zs AB AB ?_;repeat (go_big_quiet_step (fail))
   refine BJ ?_;rintro _⟨x,rfl⟩;go_wp2_with fail;go_ret;exact⟨by rw[d.out];rfl,Zz b.out (a.out.trans ((Zr wr x).mono a.out.size))⟩
  subst v;have ae:(t==t)=true:=Zx5.2 rfl;have b6:(t.toList==t.toList)=true:=by rw[<-beq_toListBytes];exact ae
  go_wp2_with fail;refine Zs AB AB ?_;repeat (go_big_quiet_step (fail))
  refine BJ ?_;rintro _⟨x,rfl⟩;go_wp2_with fail;go_roundw
  case rel=>exact⟨q+1,AA,AF,LH (Qc n.out E.out F.out),LH (a.out.trans ((Zr wr x).mono a.out.size))⟩
  simp[intOf];omega
 obtain rfl:q=n2:=AA
 have HN:Hid (A.O=B.O):=LH (by have:=n.out;rwa [AQ (by rw[E2.out];exact AJ _),AQ (by rw[G2.out];exact AJ _)] at this);have ai:=LH (Zz b.out a.out);have aj:=LH (C.out.below a.out);have ak:=LH (D.out.below a.out);go_wp2_with fail;clear y0 y1 y2 y3 z0 z1 z2 z3 y5' z5' n a C D b;have C:=aj;have D:=ak;have b:=ai;clear aj ak ai;generalize wr=W at *;go_loopw [7] (λi wr=>∃q:Nat,q<=n3/\i = aI aJ (q:Int)/\Hid (A.U.take q=B.U.take q)/\Hid (Below W W wr)) (λi _=>n3-(intOf i).toNat)
 case atStart=>exact⟨0,AV _,rfl,LH rfl,LH (AP _ _)⟩
 obtain⟨q,hq,rfl,n,a⟩:=hrel;have⟨y5',y0,y1,y2,y3⟩:=C.out.below a.out;simp only[] at y0 y1 y2 y3;have⟨z5',z0,z1,z2,z3⟩:=D.out.below a.out;simp only[] at z0 z1 z2 z3;by_cases N:q<n3
 case neg =>
  obtain rfl:q=n3:=AA
  have HR:Hid (A.U=B.U):=LH (by have:=n.out;rwa [AQ (by rw[E3.out];exact AJ _),AQ (by rw[G3.out];exact AJ _)] at this);have b4:=LH (eqG_yes HT.out HN.out HR.out b0.out);go_wp2_with fail;go_ret;exact⟨by rw[b4.out];rfl,Zz b.out a.out⟩
 obtain⟨tb,bn,t,At,I,rfl,bg,E,p0,p1,p2,bh⟩:=(HA.out.below (Zz b.out a.out)).U.get N;obtain⟨ub,bp,u,H,J,rfl,bi,F,r0,r1,r2,bj⟩:=(HB.out.below (Zz b.out a.out)).U.get N;have a9:=LH bh;have ba:=LH bj;clear bh bj;go_upto_region 16 with fail;have V:Hid (t≠u->Hid (eqG A B=false)):=LH λb7=>m.out (λe=>by
  have h1:=E.out;rw[e,F.out] at h1;exact b7 (by simpa using h1.symm))
 go_region
 ·as_aux_lemma =>
   obtain⟨G,p,r⟩:=Zs0 wr 60 #[aI aJ t.L,K At (Q t.rt) I,aI aJ t.P] #[aI aJ u.L,K H (Q u.rt) J,aI aJ u.P];generalize ((wr.alloc (aC #[aI aJ t.L,K At (Q t.rt) I,aI aJ t.P] 60)).alloc (aC #[aI aJ u.L,K H (Q u.rt) J,aI aJ u.P] 60)).drew=f at *;have z:=LH (a.out.trans (G.mono a.out.size));have ce:=p.cell 0;have cf:=p.cell 1;have cg:=p.cell 2;have ci:=r.cell 0;have cj:=r.cell 1;have ck:=r.cell 2;have ch:=p.lt;have cl:=r.lt;have j:=LH (Mr At (Q t.rt) I t.rt H (Q u.rt) J u.rt f (a9.out.below G) (ba.out.below G));clear G p r y0 y1 y2 y3 z0 z1 z2 z3 p0 p1 p2 r0 r1 r2;by_cases c:t.L=u.L
   case neg =>
    have i1:(t.L != u.L)=true:=by rw[BK];exact c
    have d:=V.out λe=>c (by rw[e]);clear c;go_wp2_with (go_at_call 11;(with_reducible refine j.out.mono ?_);rintro e U⟨rfl,o⟩);go_ret;exact⟨by rw[d.out];rfl,Zz b.out z.out⟩
   have i1:(t.L != u.L)=false:=by rw[BR];exact c
   by_cases g:t.P=u.P
   case neg =>
    have i2:(t.P != u.P)=true:=by rw[BK];exact g
    have d:=V.out λe=>g (by rw[e]);clear c g;go_wp2_with (go_at_call 11;(with_reducible refine j.out.mono ?_);rintro e U⟨rfl,o⟩);go_ret;exact⟨by rw[d.out];rfl,Zz b.out z.out⟩
   have i2:(t.P != u.P)=false:=by rw[BR];exact g
   by_cases l:t.rt=u.rt
   case neg =>
    have y:(t.rt==u.rt)=false:=by rw[AR];exact l
    have d:=V.out λe=>l (by rw[e]);rw[y] at j;clear c g l;go_wp2_with (go_at_call 11;(with_reducible refine j.out.mono ?_);rintro e U⟨rfl,o⟩);have S:=LH (z.out.trans (o.below _));go_ret;exact⟨by rw[d.out];rfl,Zz b.out S.out⟩
   have y:(t.rt==u.rt)=true:=by rw[BS];exact l
   have T:=LH (And.intro c (And.intro g l));rw[y] at j;clear c g l;go_wp2_with (go_at_call 11;(with_reducible refine j.out.mono ?_);rintro e U⟨rfl,o⟩);have S:=LH (z.out.trans (o.below _));go_roundw
   case rel=>exact⟨q+1,AA,AF,LH (Qc n.out E.out (by rw[F.out,Zwu.1 (by unfold rulB;rw[T.out.1,T.out.2.1,T.out.2.2];simp:rulB t u=true)])),S⟩
   simp[intOf];omega
 as_aux_lemma =>
  obtain⟨G,r,p⟩:=Zs0 wr 60 #[aI aJ u.L,K H (Q u.rt) J,aI aJ u.P] #[aI aJ t.L,K At (Q t.rt) I,aI aJ t.P];generalize ((wr.alloc (aC #[aI aJ u.L,K H (Q u.rt) J,aI aJ u.P] 60)).alloc (aC #[aI aJ t.L,K At (Q t.rt) I,aI aJ t.P] 60)).drew=f at *;have z:=LH (a.out.trans (G.mono a.out.size));have ce:=p.cell 0;have cf:=p.cell 1;have cg:=p.cell 2;have ci:=r.cell 0;have cj:=r.cell 1;have ck:=r.cell 2;have ch:=p.lt;have cl:=r.lt;have j:=LH (Mr At (Q t.rt) I t.rt H (Q u.rt) J u.rt f (a9.out.below G) (ba.out.below G));clear G p r y0 y1 y2 y3 z0 z1 z2 z3 p0 p1 p2 r0 r1 r2;by_cases c:t.L=u.L
  case neg =>
   have i1:(t.L != u.L)=true:=by rw[BK];exact c
   have d:=V.out λe=>c (by rw[e]);clear c;go_wp2_with (go_at_call 11;(with_reducible refine j.out.mono ?_);rintro e U⟨rfl,o⟩);go_ret;exact⟨by rw[d.out];rfl,Zz b.out z.out⟩
  have i1:(t.L != u.L)=false:=by rw[BR];exact c
  by_cases g:t.P=u.P
  case neg =>
   have i2:(t.P != u.P)=true:=by rw[BK];exact g
   have d:=V.out λe=>g (by rw[e]);clear c g;go_wp2_with (go_at_call 11;(with_reducible refine j.out.mono ?_);rintro e U⟨rfl,o⟩);go_ret;exact⟨by rw[d.out];rfl,Zz b.out z.out⟩
  have i2:(t.P != u.P)=false:=by rw[BR];exact g
  by_cases l:t.rt=u.rt
  case neg =>
   have y:(t.rt==u.rt)=false:=by rw[AR];exact l
   have d:=V.out λe=>l (by rw[e]);rw[y] at j;clear c g l;go_wp2_with (go_at_call 11;(with_reducible refine j.out.mono ?_);rintro e U⟨rfl,o⟩);have S:=LH (z.out.trans (o.below _));go_ret;exact⟨by rw[d.out];rfl,Zz b.out S.out⟩
  have y:(t.rt==u.rt)=true:=by rw[BS];exact l
  have T:=LH (And.intro c (And.intro g l));rw[y] at j;clear c g l;go_wp2_with (go_at_call 11;(with_reducible refine j.out.mono ?_);rintro e U⟨rfl,o⟩);have S:=LH (z.out.trans (o.below _));go_roundw
  case rel=>exact⟨q+1,AA,AF,LH (Qc n.out E.out (by rw[F.out,Zwu.1 (by unfold rulB;rw[T.out.1,T.out.2.1,T.out.2.2];simp:rulB t u=true)])),S⟩
  simp[intOf];omega
def rf_Is(h:GH)(G:Gr)(w:World)(D:Yf w h G)(h1:h.n1<=100)(y:h.n2<=100)(z:h.n3<=100):
 Calls prog 59 #[GV h G.zt] w λe w'=>e = aR (aB (Q9 G))/\Below w w w':=by
 obtain⟨a1,n1,c1,a2,n2,c2,a3,n3,c3⟩:=h;simp only[] at h1 y z;have v:=LH D;have t:=Zy w (aC #[K a1 n1 c1,K a2 n2 c2,K a3 n3 c3,aI aJ G.zt] 26);have o:=Y1.new w 26 ⟨a1,n1,c1,a2,n2,c2,a3,n3,c3⟩ G.zt;clear D;go_enter func59,ntmps59;have⟨z5,z0,z1,z2,z3⟩:=o;simp only[] at z0 z1 z2 z3;go_wp2_with fail;generalize w.alloc (aC #[K a1 n1 c1,K a2 n2 c2,K a3 n3 c3,aI aJ G.zt] 26)=O at *;have g:=Zuv ⟨a1,n1,c1,a2,n2,c2,a3,n3,c3⟩ G O (v.out.below t) h1 y z;unfold Dh at g;(with_reducible refine g.mono ?_);rintro e a⟨n,⟨I,R,U,rfl⟩ | ⟨J,S,Y,nk,Z,rfl,E,V,W,X⟩⟩
 ·have b:=Zz t n;have p:Q9 G=false:=by unfold Q9;rw[I];rfl
  have ab:(R==0)=false:=by rw[AR];exact U
  clear g I z0 z1 z2 z3 z5 o;go_wp2_with fail;go_ret;exact⟨by rw[p];rfl,b.trans ((Zy a _).mono b.size)⟩
 have b:=Zz t n;have A:=o.below n;obtain⟨c,q,j,d,r,k,f,s,l⟩:=S;have p:Q9 G=eqG G (Zi G):=by unfold Q9;rw[J];rfl
 generalize Zi G=H at *;clear g z0 z1 z2 z3 z5 o J;have m:=Zy a (aC #[K c q j,K d r k,K f s l,aI aJ H.zt] 26);have C:=Y1.new a 26 ⟨c,q,j,d,r,k,f,s,l⟩ H.zt;have B:=A.below m;have u:=Zz b m;have F:=E.below m;go_upto_region 2 with fail;generalize a.alloc (aC #[K c q j,K d r k,K f s l,aI aJ H.zt] 26)=P at *;generalize a.heap.size=gH at *;have x:=rf_Same9 ⟨a1,n1,c1,a2,n2,c2,a3,n3,c3⟩ ⟨c,q,j,d,r,k,f,s,l⟩ G H P (v.out.below u) F;have L:=LH x;have N:=LH p;have M:=LH u;have⟨y5,y0,y1,y2,y3⟩:=B;simp only[] at y0 y1 y2 y3;have⟨x5,x0,x1,x2,x3⟩:=C;simp only[] at x0 x1 x2 x3;clear x p u B C F m n b A E V W X;go_wp2_with (go_at_call 118;(with_reducible refine L.out.mono ?_);rintro e w6⟨rfl,T⟩);go_ret;exact⟨by rw[N.out];rfl,Zz M.out T⟩
def X7.below{w w':World}{B:Nat}{c:Option Addr}{f:Nat}{a:Option Addr}{d:Nat}(h:X7 w B c f wd a d ps)(g:Below w w w'):X7 w' B c f wd a d ps:=h.keep λb _ j=>g.block b j
def G4(h:GH)(G:Gr)(At:Option Addr)(n c:Nat)(t:List Int)(a8:n<=400)(q at_:Nat)(non:Int)(w:World)(l:Yf w h G)(o:Za .i64 w At n c t)(ax:at_<=n)(V:h.n3<=100)(z:at_=n\/∃i,t[at_]? = some i/\∀r,Ur G i=some r->r.L≠non):
 Calls prog 68 #[GV h G.zt,K At n c,aI aJ (at_:Int),aI aJ non] w (La G q at_ non t w):=by
 obtain rfl:=o.len;have az:=o.cap;obtain⟨a1,n1,c1,a2,n2,c2,a3,n3,c3⟩:=h;simp only[] at V;have e3:(Q G.U)=n3:=l.U.len;have k3:=l.U.cap;simp only[] at k3;have B:=Zy w (aC #[K a1 n1 c1,K a2 n2 c2,K a3 n3 c3,aI aJ G.zt] 26);have C:=Y1.new w 26 ⟨a1,n1,c1,a2,n2,c2,a3,n3,c3⟩ G.zt;have y:=Zy (w.alloc (aC #[K a1 n1 c1,K a2 n2 c2,K a3 n3 c3,aI aJ G.zt] 26)) (aC #[aI aJ 0,K aN 0 0,aI aJ 0,K aN 0 0] 74);have g:=Blk.new (w.alloc (aC #[K a1 n1 c1,K a2 n2 c2,K a3 n3 c3,aI aJ G.zt] 26)) 74 #[aI aJ 0,K aN 0 0,aI aJ 0,K aN 0 0];have u:=Zz B y;have D:=C.below y;have H:=Zl w (aC #[K a1 n1 c1,K a2 n2 c2,K a3 n3 c3,aI aJ G.zt] 26);rw[H] at g;have E:Y0 G q ⟨t.drop at_,[],[]⟩ non=aN:=by
  rcases z with rfl | ⟨i,hi,j⟩
  ·exact B3 (by show t.drop (Q t)=[];exact List.drop_eq_nil_of_le (AJ _))
  cases q with
  | zero=>rfl
  | succ q=>exact Fd (rest:=t.drop (at_+1)) (Q8 hi) j
 have S:=LH E;have P:=LH l;have U:=LH o;clear y C H E B l o;have fin:∀(W:World) (w0:World),Below w w W->La G q at_ non t w (aR (aG #[aI aJ 0,K aN 0 0,aI aJ 0,K aN 0 0])) W:=λW _ j=>⟨j,.inl ⟨S.out,rfl⟩⟩;have O:=LH fin
 clear fin
 go_enter func68,ntmps68;have⟨z5,z0,z1,z2,z3⟩:=D;simp only[] at z0 z1 z2 z3;go_wp2_with fail;generalize (w.alloc (aC #[K a1 n1 c1,K a2 n2 c2,K a3 n3 c3,aI aJ G.zt] 26)).alloc (aC #[aI aJ 0,K aN 0 0,aI aJ 0,K aN 0 0] 74)=a at *;have k:=g.frozen;have f0:=k 0;have f1:=k 1;have f2:=k 2;have f3:=k 3;clear k;have bc:=Yt a;have bf:=Kh a;have bb:w.heap.size<=a.heap.size:=u.size;have a7:w.heap.size+1<a.heap.size:=g.lt;have L:=LH g;have s:=LH u;have A:=LH z;clear g u D z;by_cases v:at_=(Q t)
 case' pos =>
  subst v;clear A;refine Zs AB AB ?_;repeat (go_big_quiet_step (fail))
  refine BJ ?_;rintro _⟨x,rfl⟩
 case' neg =>
  have Y:at_<(Q t):=AA
  obtain⟨b,ad,i,rfl,j,R,q0⟩:=U.out.get Y;rw[<-s.out.cell (p:=⟨b,ad+at_,aN⟩) j] at q0;have ay:b<a.heap.size:=AA
  have a0:decide ((Q t)<=at_)=false:=by rw[AZ];omega
  have N:Hid (∀r,Ur G i=some r->r.L≠non):=by
   rcases A.out with h0 | ⟨i',m,h0⟩
   ·exact absurd h0 v
   rw[R.out] at m;injection m with m;subst m;exact LH h0
  clear A v;by_cases a5:i<0
  case' pos =>
   refine Zs AB AB ?_;repeat (go_big_quiet_step (fail))
   refine BJ ?_;rintro _⟨x,rfl⟩
  case' neg =>
   by_cases a6:(n3:Int)<=i
   case' pos =>
    refine Zs AB AB ?_;repeat (go_big_quiet_step (fail))
    refine BJ ?_;rintro _⟨x,rfl⟩
   case' neg =>
    obtain⟨f,rfl⟩:∃f:Nat,i=(f:Int):=⟨i.toNat,AA⟩;have X:f<n3:=AA
    obtain⟨I,af,r,Arr,am,rfl,Z,T,ag,ah,ai,aa⟩:=P.out.U.get X;rw[<-s.out.cell (p:=⟨I,af+f*3,aN⟩) Z] at ag;have F:Ur G (f:Int)=some r:=by
     unfold Ur;rw[if_pos AA,DH];exact T.out
    have a9:(r.L != non)=true:=by rw[BK];exact N.out r F
    have ba:I<a.heap.size:=AA
    have a4:decide (n3<=f)=false:=by rw[AZ];omega
    clear F ah ai aa;generalize r.L=rl at *;refine Zs AB AB ?_;repeat (go_big_quiet_step (fail))
    refine BJ ?_;rintro _⟨x,rfl⟩
 all_goals
  have d:=L.out.ext (Zr a x);have g0:=d.frozen 0;have g1:=d.frozen 1;have g2:=d.frozen 2;have g3:=d.frozen 3;have k0:=d.cell 0;have k1:=d.cell 1;have k2:=d.cell 2;have bi:=d.cell 3;have J:=LH (Zz s.out (Zr a x));have M:=LH d;clear d;generalize bl a x=W2 at *;go_wp2_with fail;refine AW (AX (p:=8) AB _ _ (w.heap.size+1) 74 #[aI aJ 0,K aN 0 0,aI aJ 0,K aN 0 0] (0,0) _ rfl ((((M.out.set 0 (aI aJ 0)).set 1 (K aN 0 0)).set 2 (aI aJ 0)).set 3 (K aN 0 0)) underlying74 rfl AB) rfl ?_;exact O.out _ w (Zg (Zg (Zg (Zg J.out _ _ _ AA) _ _ _ AA) _ _ _ AA) _ _ _ AA)
section
open Go.ChangeShapes Go.WideShapes Go.ChangeAt Go.RowKit
open Go.ChangeShapes Go.WideShapes Go.ChangeAt Go.RowKit
open Go.ChangeShapes Go.WideShapes Go.ChangeAt Go.RowKit Go.Lib Go.Deep
open Go.ChangeShapes Go.WideShapes Go.ChangeAt Go.RowKit Go.Lib Go.Deep
variable {W X:World} {g j is ic:Nat} {b:Nat->Bool} {u:Nat->Value}
def SMs.idle(M:SMs W g j is ic b u X)(c:b is=false)(d:Below X X a)(i:Nat)(hi:(i != is)=true)(v:Value):SMs W g j is ic (Mz b i) (upd u i v) a:=by
 have hi:is≠i:=λe=>by rw[e] at hi;simp at hi
 refine⟨λ_=>Zz (M.below c) d,λh=>?_⟩;rw[Ys hi,c] at h;cases h
def SMs.still{W:World}{g j is a i:Nat}(f:ancF l (Q l) is i=true)(hi:(i != is)=true):∀(_:Unit) (b:Nat->Bool) (u:Nat->Value) (X:World) (w:Value),G9 l b->b i=false->SMs W g j is a b u X->SMs W g j is a (Mz b i) (upd u i w) X:=λ_ _ _ _ w d c h=>h.idle (d.no c f) (AP _ _) i hi w
def SMs.put(M:SMs W g j is ic b u X)(a:b is=false)(hi:(ic != is)=true)(v:Value):SMs W g j is ic (Mz b is) (upd u is v) (X.setCell ⟨g,j,aN⟩ (u ic)):=by
 have hi:ic≠is:=λe=>by rw[e] at hi;simp at hi
 refine⟨λh=>?_,λ_=>⟨X,M.below a,by rw[Yj hi]⟩⟩;rw[Ztw] at h;cases h
end
section
variable {P:Program} {w:World}
def Kl{a:Act}{K:Act->World->Prop}{Q:Exit->Act->World->Prop}(y:o.guard=aN)(s x:Operand)(t:TypeId)(B:o.op = .call { callee := .builtin .append,args:=#[s,x],argTypes:=#[t,t] })(base:Nat)(e:TypeId)(z:Value)(bytes:Nat)(H:P.underlying t=some (.slice e))(hi:(P.info? e).map (λi=>(i.zero,i.size,i.bytes))=some (some z,1,bytes))(L:z.cells.size=1)(A:Option Addr)(n c:Nat)(xs:List Value)(G:a.eval s = aK A n c)(C:w.ownsRow base e 1 (aK A n c) n xs)(j:Option Addr)(m c2:Nat)(g:List Value)(J:a.eval x = aK j m c2)(D:Sl w j m c2 g)(h1:∀u∈g,u.oneCell'=true)(q:n+m<=9223372036854775807)(v:(n+m)*bytes<=140737488355328)(r:base<=w.heap.size)(h:∀d f w',w'.ownsRow base e 1 (aK d (n+m) f) (n+m) (xs++g)->w.grownBy w' (aK A n c).ownBlock->(∀b,(aK d (n+m) f).ownBlock=some b->b<w.heap.size->(aK A n c).ownBlock=some b)->
   K (a.put o.dst (aK d (n+m) f)) w'):if Region.wanted o (yielded ops a.tmps)=true then Oper.wp P o a w K Q else E:=by
 have I:Region.wanted o (yielded ops a.tmps)=true:=by simp[Region.wanted,y]
 rw[if_pos I];obtain⟨d,f,w',F,k,l,p⟩:=Zqw (P:=P) base t o.type e z bytes H hi L A n c xs C j m c2 g D h1 q v r;unfold Oper.wp execOp;simp only[B,resolve,invoke,builtin,Sem.run_bind,Sem.run_pure,Result.andThen_ok,List.map_toArray,CU,List.map_nil,G,J,F];exact h d f w' k l p
end
def Bw{P:Program}{w W:World}{a:Act}{K:Act->World->Prop}{Q:Exit->Act->World->Prop}(F:o.guard=aN)(s x:Operand)(t:TypeId)(H:o.op = .call { callee := .builtin .append,args:=#[s,x],argTypes:=#[t,t] })(base:Nat)(e:TypeId)(z:Value)(size bytes:Nat)(N:P.underlying t=some (.slice e))(hi:(P.info? e).map (λi=>(i.zero,i.size,i.bytes))=some (some z,size,bytes))(R:z.cells.size=size)(M:0<size)(A:Option Addr)(n c:Nat)(xs:List Value)(L:a.eval s = aK A n c)(I:w.ownsRow base e size (aK A n c) n xs)(g:List Value)(G:(aQ g)=size)(O:a.eval x = aK (some ⟨w,0,aN⟩) 1 1)(h1:∀u∈g,u.oneCell'=true)(k:Below w w W)(C:∀j u,g[j]? = some u->W.cell? ((⟨w,0,aN⟩:Addr).add j)=some u)(r:n+1<=9223372036854775807)(B:(n+1)*bytes<=140737488355328)(y:base<=w.heap.size)(h:∀d f w',w'.ownsRow base e size (aK d (n+1) f) (n+1) (xs++g)->w.grownBy w' (aK A n c).ownBlock->(∀b,(aK d (n+1) f).ownBlock=some b->b<w.heap.size->(aK A n c).ownBlock=some b)->
   K (a.put o.dst (aK d (n+1) f)) w'):if Region.wanted o (yielded ops a.tmps)=true then Oper.wp P o a W K Q else E:=by
 have J:W.ownsRow base e size (aK A n c) n xs:=Yq I λb _ _ l=>k.block b l;refine V5 F s x t H base e z size bytes N hi R M A n c xs L J _ 1 1 g (by rw[G,Nat.one_mul]) O C h1 r B (BC y k.size) λd f w' m p q=>?_;have D:w.grownBy W (aK A n c).ownBlock:=Xz _ k;exact h d f w' m (Zc D p) λb v l=>q b v (AK l k.size)
end
end Go.Proofs.YtaagompdgiobeaaGreatDoor
