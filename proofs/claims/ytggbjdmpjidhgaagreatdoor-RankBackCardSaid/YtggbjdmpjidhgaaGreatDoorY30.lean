/- ranks: what is read as a tree is a tree of the reduced grammar, and back, plainly. -/
import Derived.Test.YtggbjdmpjidhgaaGreatDoorY25
import Derived.Test.YtggbjdmpjidhgaaGreatDoorY26
import Derived.Test.YtggbjdmpjidhgaaGreatDoorY27
import Derived.Test.YtggbjdmpjidhgaaGreatDoorY28
set_option linter.all false
set_option maxHeartbeats 1500000
set_option maxRecDepth 100000
namespace Go.Proofs.YtggbjdmpjidhgaaGreatDoor
open Go.RowKit Go.Proofs.Tryz
variable{n k r:Nat}{ps wd:List Int}{u:List Nat}
theorem cnt_errs(G:Gr)(n:Int):(Z2 G n).2≠11:=by
 have a:∀x,(Xm x).2≠11:=λx=>by
  rcases F8 x with ⟨_,e⟩ | ⟨_,e⟩ <;> rw[e]
  ·show (0:Nat)≠11;decide
  show (2:Nat)≠11;decide
 unfold Z2 Wi;split
 ·decide
 split
 ·decide
 split
 ·decide
 split
 ·decide
 exact a _
theorem V9.err{G:Gr}{n:Int}{f g:List Nat}{d:Nat}(h:V9 G n f g d)(j:d≠0):g=[]/\(d=11->¬badU G n f/\(Z2 G n).2=0/\val (Z2 G n).1<=val f)/\((Z2 G n).2=0\/d=(Z2 G n).2\/d=1):=by
 rcases h with ⟨_,h,e⟩ | ⟨_,_,h,e⟩ | ⟨a,b,c,h,e⟩ | ⟨_,b,_,_,_,⟨_,h,e⟩ | ⟨_,_,e⟩⟩
 ·exact⟨h,λh=>AA,.inr (.inr e)⟩
 ·exact⟨h,λh=>absurd (e.symm.trans h) (cnt_errs G n),.inr (.inl e)⟩
 ·exact⟨h,λ_=>⟨a,b,c⟩,.inl b⟩
 ·exact⟨h,λh=>AA,.inl b⟩
 exact absurd e j
theorem u8_natC{a:Int}(h:(Lit.int .u8 a).wf=true):∃n:Nat,a=(n:Int)/\n<256:=by
 have h0:0<=a/\a<=255:=by
  simpa [Lit.wf,IntKind.min,IntKind.max,IntKind.bits,IntKind.signed] using h
 exact⟨a.toNat,AA,AA⟩
section
open Ieee
theorem symsP_full{G:Gr}{ss b:List Int}{m:Nat}(h:Fs G ss ps b wd m):
 ∀(q:Nat) (rest w p:List Int) (top:Nat),ps.length<=q->Wt (Y0 G q) ss ⟨ps++rest,w,p⟩ top=some (⟨rest,w++wd,p++b⟩,max top m):=by
 induction h with
 | nil=>intro q rest w p top _;simp[Wt]
 | @term s ss ps b wd m h0 _ j =>
   intro q rest w p top c;have:=j q rest (w++[s]) p top c;unfold Wt;rw[if_pos h0];simp only[];rw[this];simp
 | @non s i r ss d o w1 ps b wd n m h0 g f _ _ k l =>
   intro q rest w p top c;simp only[AZ,AU] at c;obtain⟨a,rfl⟩:∃a,q=a+1:=⟨q-1,AA⟩;have e:Y0 G (a+1) ⟨i::(d++ps)++rest,w,p⟩ (-1-s)=some (⟨ps++rest,w++w1,p++(o++[i])⟩,n+1):=by
    unfold Y0;simp only[DT,g,if_pos f];have:=k a (ps++rest) w p 0 AA;rw[show d++ps++rest=d++(ps++rest) from DO _ _ _,this];simp
   unfold Wt;rw[if_neg AA,e];simp only[];rw[l (a+1) rest _ _ _ AA];simp only[DO,DT,DD,BR,DM,true_and];omega
theorem readT_full{G:Gr}{t:List Int}(a:G.right=true)(c:t.length<=300)(h:Fs G [-1-G.start] t ps wd k):Xl G t=some (wd,ps,k):=by
 have f:=(Gr.fits a).st;have:=symsP_full h t.length [] [] [] 0 (AJ _);unfold Xl;rw[a,show decide (t.length<=300)=true by rw[BB];exact c];simp only[Bool.and_self,if_true];unfold Wt at this;rw[if_neg AA,show -1-(-1-G.start)=G.start by omega,DH] at this;cases b:Y0 G t.length ⟨t,[],[]⟩ G.start with
 | none=>rw[b] at this;cases this
 | some x =>
   obtain⟨g,j⟩:=x;rw[b] at this;simp only[Wt,BR,DM,DD] at this;obtain⟨rfl,d⟩:=this;simp only[if_true,BR,DM,true_and];omega
end
section
open Go.Maps (Keyed IsMap Tidy)
variable {G:Gr}
theorem sig_inj{i j:Nat}(hi:i∈Ze G)(b:j∈Ze G)(h:sig G i=sig G j):i=j:=by
 have h1:=(C8 hi).2.2;have a:=(C8 b).2.2;rw[h,a] at h1;exact (BI h1).symm
end
section
variable {G:Gr}
theorem kept_back{x:Rul}(a:(Zi G).rules[k]? = some x):∃r,G.rules[Yr G k]? = some r/\r∈Yh G/\x=Wb (Ze G) r:=by
 have a:((Yh G).map (Wb (Ze G)))[k]? = some x:=a;rw[By] at a;cases b:(Yh G)[k]? with
 | none=>rw[b] at a;cases a
 | some r =>
   rw[b] at a;obtain⟨h1,c⟩:=Mh G G.rules.length (AJ _);rw[Jp] at h1 c;have f:k<(ksN G G.rules.length).length:=by rw[h1];exact (AO.1 b).1
   obtain⟨h,g,d⟩:=c k _ (AN f);rw[b] at d;obtain rfl:=BI d;refine⟨r,?_,AM b,(BI a).symm⟩;unfold Yr;rw[AP,AN f];exact g
theorem red_fs(g:G.Fits){l:List Int}(h:UnL (Zi G) l n r u):∀ss,l=ss.map (Xd (Ze G))->(∀s∈ss,s<0->Zp s∈Ze G)->
 ∃f wd m,Fs G ss ((u.map (Yr G)).map λi:Nat=>(i:Int)) f wd m/\wd.length=n:=by
 induction h with
 | nil =>
   intro ss e a;cases ss with
   | nil=>exact⟨[],[],0,.nil,rfl⟩
   | cons=>cases e
 | @term s l n r t h0 _ I =>
   intro ss e a;cases ss with
   | nil=>cases e
   | cons q ss =>
     rw[CJ] at e;injection e with e1 e2;obtain⟨f,wd,m,h1,z⟩:=I ss e2 λs h=>a s (.tail _ h);have W:=Mk q λh=>a q (AX ..) h;exact⟨f,q::wd,m,.term AA h1,by rw[AZ,z]⟩
 | @non s l n k i q r x X Y h0 F H _ _ J L =>
   intro ss e a;cases ss with
   | nil=>cases e
   | cons p ss =>
     rw[CJ] at e;injection e with e1 e2;have V:=Mk p λh=>a p (AX ..) h;have c:p<0:=AA
     have d:=a p (AX ..) c;obtain⟨b,o,j,rfl⟩:=kept_back F;have D:=AM o;have U:=g.left b D;obtain⟨O,w1,M,a1,a2⟩:=J b.right rfl λs h=>Qz g j h;obtain⟨P,R,N,v,y⟩:=L ss e2 λs h=>a s (.tail _ h);have S:=G8 c d;have A:sig G b.left.toNat=sig G (Zp p):=by
      have T:=(C8 d).1;have B:sig G b.left.toNat=Zp s:=H;rw[B,e1];omega
     have C:=sig_inj (Zug j) d A;refine⟨O++(Yr G i:Int)::P,w1++R,max (M+1) N,?_,by rw[AU,a2,y]⟩;have E:Ur G (Yr G i:Int)=some b:=by
      unfold Ur;rw[if_pos AA,DC];exact o
     rw[CJ,CJ,DF,DF];exact .non c E (by unfold Zp at C;omega) a1 v
theorem single_un{H:Gr}{s:Int}(h0:s<0)(h:UnT H (Zp s) n r u):∃q,UnL H [s] n q u:=by
 have:=UnL.non' h0 h (UnL.nil (G:=H));rw[DH] at this;exact⟨_,this⟩
theorem red_read(b:G.right=true)(j:(Zt G).getD G.start.toNat false=true)(c:UnT (Zi G) (Zi G).start.toNat n r u)(h:u.length<=300):∃wd ps k,Xl G ((u.map (Yr G)).map λi:Nat=>(i:Int))=some (wd,ps,k)/\wd.length=n:=by
 have a:=Gr.fits b;obtain⟨h1,d,f⟩:=Zvp a j;rw[<-f] at c;obtain⟨q,l⟩:=single_un d c;obtain⟨o,wd,m,g,e⟩:=red_fs a l [-1-G.start] rfl h1;exact⟨wd,o,m,readT_full b (by simpa using h) g,e⟩
end
theorem V9.back{G:Gr}{d l:List Nat}(h:V9 G (n:Int) d l 0)(A:Lim d):(Z2 G (n:Int)).2=0/\Zm d=true/\val d<val (Z2 G (n:Int)).1/\G.right=true/\l.length<=300 /\
 ∃wd ps k,Xl G (l.map λi:Nat=>(i:Int))=some (wd,ps,k)/\wd.length=n/\∀rs' m,Vj G (l.map λi:Nat=>(i:Int)) rs' m->m=0/\rs'=d:=by
 rcases h with ⟨_,_,e⟩ | ⟨_,b,_,e⟩ | ⟨_,_,_,_,e⟩ | ⟨a,b,c,u,j,⟨_,_,e⟩ | ⟨x,rfl,_⟩⟩
 ·cases e
 ·exact absurd e.symm b
 ·cases e
 ·cases e
 have f:G.right=true:=by
  cases f:G.right
  ·exact absurd (.inl f) a
  rfl
 have B:0<=(n:Int)/\(n:Int)<=10:=by
  constructor
  ·exact Int.not_lt.1 λh=>a (.inr (.inl h))
  exact Int.not_lt.1 λh=>a (.inr (.inr (.inl h)))
 have g:Zm d=true:=by
  cases g:Zm d
  ·exact absurd (.inr (.inr (.inr g))) a
  rfl
 have o:=(Bb f B b AA).1;have C:(Zt G).getD G.start.toNat false=true:=by
  unfold Xp at o;rw[AS] at o;exact o.2
 rw[DC] at j;obtain⟨wd,ps,k,p,s⟩:=red_read f C j x;refine⟨b,g,c,f,by simpa using x,wd,ps,k,p,s,λrs' m t=>?_⟩;rcases t with ⟨y,_⟩ | ⟨F,E,D,y,h⟩
 ·rw[p] at y;cases y
 rw[p] at y;obtain⟨rfl,rfl,rfl⟩:wd=F/\ps=E/\k=D:=by simpa using y
 rw[s] at h;rcases h with ⟨y,_⟩ | ⟨_,y,_⟩ | ⟨_,_,rfl,v,r,q,e,rfl⟩
 ·omega
 ·exact absurd b y
 obtain rfl:=j.kept q (Ba e);have:=(j.parse (z:=[]) (z':=[]) q rfl).2.1;rw[<-this];exact⟨rfl,(Ul d A g).1.symm⟩
theorem rankBack_walk(h:GH)(G:Gr)(x:Int)(Ar:Option Addr)(nr cr:Nat)(zs:List Int)(w:World)(cg:GrIn w h G)(hx:(Lit.int .u8 x).wf=true)(bl:Nj .u32 w Ar nr cr zs)(a9:Q2 w):
 Calls prog 12 #[GV h G.start,.int .u8 x,.slice Ar nr cr] w λe w'=>e = .returned (.bool true)/\Below w w w':=by
 obtain⟨x0,rfl,c9⟩:=u8_natC hx;obtain⟨xs,E,bf⟩:=bl.limbs;obtain rfl:=E.len;have c0:=E.cap;obtain⟨t,hs,ci⟩:=cg;obtain⟨a1,n1,c1,a2,n2,c2,a3,n3,c3⟩:=h;have e1:G.terms.length=n1:=t.terms.len;have e2:G.nons.length=n2:=t.nons.len;have e3:G.rules.length=n3:=t.rules.len;have L:=Zy w (.cells #[.slice a1 n1 c1,.slice a2 n2 c2,.slice a3 n3 c3,.int .i64 G.start] 26);have bb:=Y1.new w 26 ⟨a1,n1,c1,a2,n2,c2,a3,n3,c3⟩ G.start;have CA:=LH Zyk;have r:=LH t;have Hs:=LH hs;have A:=LH E;have F:=LH a9;have z:=LH bf;clear ci t hs bl E a9 hx bf;go_enter func12,ntmps12;go_wp2_with fail;generalize w.alloc (.cells #[.slice a1 n1 c1,.slice a2 n2 c2,.slice a3 n3 c3,.int .i64 G.start] 26)=W0 at *;refine (CA.out W0 (F.out.below L)).mono ?_;rintro e W1⟨rfl,O⟩;have M:=Zz L O;have T:=bb.below O;have⟨y5,y0,y1,y2,y3⟩:=T;simp only[] at y0 y1 y2 y3;go_wp2_with fail;refine (Cu ⟨a1,n1,c1,a2,n2,c2,a3,n3,c3⟩ G W1 (r.out.below M)).mono ?_;rintro e W2⟨rfl,P⟩;have a5:=Zz M P;have bc:=T.below P;have v:=LH a5;have ak:=LH bc;clear y0 y1 y2 y3 y5 bb T O P L M a5 bc;have⟨y5,y0,y1,y2,y3⟩:=ak.out;simp only[] at y0 y1 y2 y3;rcases W:G.great with _ | _
 case true =>
  clear W;go_wp2_with fail;go_ret;exact⟨rfl,v⟩
 obtain⟨l1,l2,l3,_⟩:=Kv W;rw[e1] at l1;rw[e2] at l2;rw[e3] at l3;clear W e1 e2 e3;obtain⟨k,hk,c6⟩:∃k:Nat,(x0:Int) % 8=(k:Int)/\k<=7:=⟨x0 % 8,AA,AA⟩;by_cases cz:(40:Int)<(xs.length:Int)
 case pos =>
  go_wp2_with fail;go_ret;exact⟨rfl,v⟩
 go_wp2_with fail;have H:=Lj ⟨a1,n1,c1,a2,n2,c2,a3,n3,c3⟩ G (k:Int) W2 (r.below v) (by simp only[];omega) (by simp only[];omega) (by simp only[];omega);obtain⟨J,V⟩:∃J,Z2 G (k:Int)=J:=⟨_,rfl⟩;obtain⟨g,f⟩:=J;have D:=Kg G (k:Int);rw[V] at H D;have ao:=LH V;have an:=LH D.1;have ap:Hid (f=0->Zm g=true):=D.2;have CC:=LH H;clear V D H;refine CC.out.mono ?_;rintro e W3⟨A3,k3,rfl,bg,R⟩;have y:=LH (Zz v R);have al:=LH (ak.below R);have bx:=LH bg;clear y0 y1 y2 y3 y5 CC R bg;have⟨y5,y0,y1,y2,y3⟩:=al.out;simp only[] at y0 y1 y2 y3;go_wp2_with fail;have cU:=Ki ⟨a1,n1,c1,a2,n2,c2,a3,n3,c3⟩ G (k:Int) Ar cr xs W3 (r.below y) Hs (F.below y) (by simp only[];omega) (by simp only[];omega) (by simp only[];omega) (A.below y) z;refine cU.mono ?_;rintro e W4⟨C,aa,c,A4,k4,rfl,hI,hU⟩;have j:=LH (Zz y C);have am:=LH (al.below C);have ah:=LH (bx.below C);have HI:=LH hI;have HU:=LH hU;clear y0 y1 y2 y3 y5 cU C hI hU;by_cases o:c=0
 case neg =>
  obtain⟨rfl,B,m⟩:=HU.err o;have c8:((c:Int) != 0)=true:=by rw[BM];omega
  rw[ao] at B m;have m:f=0\/c=f\/c=1:=m;by_cases bd:c=11
  case pos =>
   subst bd;obtain⟨bi,d,X⟩:=B rfl;have d:f=0:=d;have n:Zm xs=true:=by
    cases n:Zm xs
    ·exact absurd (.inr (.inr (.inr n))) bi
    rfl
   have U:0<=Vq xs g:=by
    unfold Vq;rw[n,ap d];have X:val g<=val xs:=X;have:=mt (Q5 (a:=val xs) (b:=val g)).1 AA;show 0<=Vm _ _;omega
   subst d;have l:=Le Ar _ cr xs A3 _ k3 g W4 (A.below j) ah z an;unfold Quiet at l;have CM:=LH l;have i1:(((11:Nat):Int) != 11)=false:=rfl;have i2:(((0:Nat):Int)==0)=true:=rfl;clear B m bi X n l o;generalize Vq xs g=cv at *;go_wp2_with (first
    | (go_at_call 36
       refine CM.out.mono ?_;rintro e W5⟨rfl,a8⟩;have p:=LH (Zz j (a8.below _));clear a8))
   go_ret;exact⟨AE,p⟩
  have i1:((c:Int) != 11)=true:=by rw[BM];omega
  clear B bd;by_cases d:f=0
  case pos =>
   subst d;have i2:(((0:Nat):Int)==0)=true:=rfl;clear o m;go_wp2_with fail;go_ret;exact⟨AE,j⟩
  have i2:((f:Int)==0)=false:=by rw[AQ];omega
  by_cases be:c=f
  case pos =>
   have i3:((c:Int)==(f:Int))=true:=by rw[BO];omega
   clear o m be d;go_wp2_with fail;go_ret;exact⟨AE,j⟩
  have h1:c=1:=AA
  subst h1;have i3:(((1:Nat):Int)==(f:Int))=false:=by rw[AQ];omega
  have i4:(((1:Nat):Int)==1)=true:=rfl;clear o m be d;go_wp2_with fail;all_goals
   go_ret;exact⟨AE,j⟩
 subst o;have hz:(((0:Nat):Int) != 0)=false:=rfl;obtain⟨d,n,Y,ch,c7,wd,ps,q,bk,bo,bn⟩:=HU.back z;rw[ao] at d Y;obtain rfl:f=0:=d;have U:Vq xs g<0:=by
  unfold Vq;rw[n,ap rfl];exact Q5.2 Y
 have b5:=LH U;have aq:=LH bk;have b6:=LH bn;have b7:=LH bo;clear n Y ch bk bn bo U;have⟨y5,y0,y1,y2,y3⟩:=am.out;simp only[] at y0 y1 y2 y3;go_wp2_with fail;have cW:=B4 ⟨a1,n1,c1,a2,n2,c2,a3,n3,c3⟩ G A4 aa.length k4 (aa.map λi:Nat=>(i:Int)) W4 (r.below j) HI AA (by simp only[];omega) (by simp only[];omega) (by simp only[];omega);refine cW.mono ?_;rintro e W5⟨s,⟨bj,_⟩ | ⟨cu,ct,k',A5,k5,Z,rfl,cj⟩⟩
 ·rw[aq] at bj;cases bj
 obtain⟨rfl,rfl,rfl⟩:wd=cu/\ps=ct/\q=k':=by rw[aq] at Z;simpa using Z
 have p:=LH (Zz j s);have b4:=LH (am.below s);have bz:=LH (ah.below s);have b1:=LH (HI.below s);have dc:((wd.length:Int)==(k:Int))=true:=by rw[BO,b7]
 clear y0 y1 y2 y3 y5 cW s Z cj;generalize wd.length=wl at *;have⟨y5,y0,y1,y2,y3⟩:=b4.out;simp only[] at y0 y1 y2 y3;go_wp2_with fail;have I:=Cs ⟨a1,n1,c1,a2,n2,c2,a3,n3,c3⟩ G A4 k4 (aa.map λi:Nat=>(i:Int)) W5 (r.below p) Hs (F.below p) (by simp only[];omega) (by simp only[];omega) (by simp only[];omega) (by rw[BF];exact b1) (by rw[BF];omega);rw[BF] at I;refine I.mono ?_;rintro e W6⟨S,u,c,A6,k6,rfl,bh,hR⟩;obtain⟨rfl,rfl⟩:=b6 u c hR;have af:=LH (Zz p S);have b0:=LH (bz.below S);have b2:=LH bh;clear y0 y1 y2 y3 y5 I S bh hR;go_wp2_with fail;have l:=Le Ar _ cr u A3 _ k3 g W6 (A.below af) b0 z an;unfold Quiet at l;refine l.mono ?_;rintro e W7⟨rfl,N⟩;have c4:=b5.out;have ag:=LH (Zz af (N.below _));have b3:=LH (b2.below (N.below _));clear l N;generalize Vq u g=cv at *;go_wp2_with fail;have cS:=Zya A6 _ k6 u Ar _ cr u W7 b3 (A.below ag);rw[beq_self_eq_true] at cS;refine cS.mono ?_;rintro e W8⟨rfl,cf⟩;go_wp2_with fail;go_ret;exact⟨AE,Zz ag (cf.below _)⟩
