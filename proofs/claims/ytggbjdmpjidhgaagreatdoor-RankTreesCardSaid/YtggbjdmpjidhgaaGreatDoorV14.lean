/- grammars: the reference's Right, walked. -/
import Derived.Test.YtggbjdmpjidhgaaGreatDoorV09
import Derived.Test.YtggbjdmpjidhgaaGreatDoorV10
import Derived.Test.YtggbjdmpjidhgaaGreatDoorV11
import Derived.Test.YtggbjdmpjidhgaaGreatDoorV12
set_option linter.all false
set_option maxHeartbeats 1500000
set_option maxRecDepth 100000
namespace Go.Proofs.YtggbjdmpjidhgaaGreatDoor
open Go.RowKit Go.Proofs.Tryz
variable{G:Gr}{s:Int}{r:List (Value × Nat)}{a:Act}{n g b i:Nat}{w:World}{cs:Array Value}{ops:Array Oper}{rest l:List Oper}{o:Oper}{Q:Exit->Act->World->Prop}{F:(Nat->Value)->Act}{D:Nat->Value->World->Prop}{fin:(Nat->Value)->World->Prop}{f:WSt->Int->Option (WSt × Nat)}
theorem cf_rule(h:GH)(G:Gr)(r:Rul)(Ar:Option Addr)(cr:Nat)(w:World)(n:Yf w h G)(o:Za .i64 w Ar r.right.length cr r.right)(z:∀s∈r.right,U3 s)(x:h.n1<=1000)(y:h.n2<=1000):
 Calls prog 104 #[GV h G.start,.agg #[.int .i64 r.left,.slice Ar r.right.length cr,.int .i64 r.prec]] w λe w'=>e = .returned (.bool (G.ruleOK r))/\Below w w w':=by
 have c1:=λF R (s:Int) w' (L:Yf w' h G) p O P=>cf_rule1 h G F R s r.left Ar r.right.length cr r.prec w' L p x y O P;obtain⟨a1,n1,u,a2,n2,c2,a3,n3,c3⟩:=h;have v:G.terms.length=n1:=n.terms.len;have T:=o.cap;simp only[] at x y;have d:Hid (G.ruleOK r=(decide (r.right.length<=6)&&decide (-1<=r.prec/\r.prec<(n1:Int))&&r.right.all (G.symOK r.prec))):=LH (by unfold Gr.ruleOK;rw[v]);clear v;have j:=λw=>Jx r.prec (-1) ((n1:Int)-1) w;have A:Yb r.prec (-1) ((n1:Int)-1)=decide (-1<=r.prec/\r.prec<(n1:Int)):=by
  unfold Yb;rw[BZ,BB,BB];omega
 rw[A] at j;clear A;generalize decide (-1<=r.prec/\r.prec<(n1:Int))=f at *;have q:=LH j;have B:=LH c1;have C:=LH n;have D:=LH o;have E:=LH z;clear j c1 n o z;obtain⟨a,l,m⟩:=Zzq w 26 52 ⟨a1,n1,u,a2,n2,c2,a3,n3,c3⟩ G.start r.left Ar r.right.length cr r.prec;have U:IntKind.i64.wrap ((n1:Int)-1)=(n1:Int)-1:=BT _ AA;have N:(6<(r.right.length:Int))\/((r.right.length:Int)<=6/\f=false)\/((r.right.length:Int)<=6/\f=true):=by
  cases f <;> simp <;> omega
 rcases N with g | ⟨g,rfl⟩ | ⟨g,rfl⟩
 ·have b:Hid (G.ruleOK r=false):=LH (by
   rw[d.out];have:decide (r.right.length<=6)=false:=AG
   rw[this];rfl)
  clear l m;have c:=LH a;clear a;go_enter func104,ntmps104;go_wp2_with fail;go_ret;exact⟨by rw[b.out];rfl,c.out⟩
 ·have b:Hid (G.ruleOK r=false):=LH (by rw[d.out];simp);clear l m;have c:=LH a;clear a;go_enter func104,ntmps104;go_wp2_with fail;(with_reducible refine (q.out _).mono ?_);rintro e S⟨rfl,rfl⟩;go_wp2_with fail;go_ret;exact⟨by rw[b.out];rfl,c.out⟩
 have b:Hid (G.ruleOK r=r.right.all (G.symOK r.prec)):=LH (by
  rw[d.out];have:decide (r.right.length<=6)=true:=AG
  rw[this];rfl)
 go_enter func104,ntmps104;go_wp2_with fail;(with_reducible refine (q.out _).mono ?_);rintro e S⟨rfl,rfl⟩;go_wp2_with fail;generalize (w.alloc (.cells #[.slice a1 n1 u,.slice a2 n2 c2,.slice a3 n3 c3,.int .i64 G.start] 26)).alloc (.cells #[.int .i64 r.left,.slice Ar r.right.length cr,.int .i64 r.prec] 52)=t at *;have H:Zyw 167 #[.pointer (some ⟨w,0,none⟩),.pointer (some ⟨w+1,0,none⟩)] (Value.int .i64) t r.right (λs=>!G.symOK r.prec s):=λs p w' k =>
  B.out w (w.heap.size+1) s w' ((C.out.below a).below k) (E.out s p) (l.below k) (m.below k)
 have J:=U1 Ar r.right.length cr r.right _ _ _ t enters_rule1 (D.out.below a) H;(with_reducible refine J.mono ?_);rintro e V⟨rfl,I⟩;go_wp2_with fail;go_ret;have M:(!r.right.any λs=>!G.symOK r.prec s)=r.right.all (G.symOK r.prec):=by
  rw[List.all_eq_not_any_not]
 exact⟨by rw[b.out,<-M];rfl,Zz a I⟩
theorem Zte(h:GH)(G:Gr)(gf:FuncId)(ag:Array Value)(eg:∀args w,(callFunc gf args).run prog w = .ok (.enter gf args) w)(ids:Rul->List Bool->List Int)(g n:Nat)(d:List Bool)(z w:World)(J:Yf z h G)(al:Below z z w)(b3:z.heap.size<=g)(hn:n<=1000)(O:Z8 w g d)(V:d.length=n)(h3:h.n3<=1000)(ax:∀r∈G.rules,∀N,N.length=n->∀s∈ids r N,0<=s/\s<(n:Int))(a4:∀r∈G.rules,∀Ar cr N w',w.grownBy w' (some g)->Za .i64 w' Ar r.right.length cr r.right->Z8 w' g N->N.length=n->
   Calls prog gf (#[.agg #[.int .i64 r.left,.slice Ar r.right.length cr,.int .i64 r.prec],.slice (some ⟨g,0,none⟩) n n]++ag) w' λe bf=>Below w' w' bf/\∃A m c,e = .returned (.slice A m c)/\Za .i64 bf A m c (ids r N)/\Apart A g):
 Calls prog 150 #[GV h G.start,.slice (some ⟨g,0,none⟩) n n,.func (.func gf) #[] ag] w λe w' =>
  e = .returned (.slice (some ⟨g,0,none⟩) n n)/\w.grownBy w' (some g)/\Z8 w' g (Z3 (Yy ids G.rules) n d):=by
 obtain⟨a1,n1,c1,a2,n2,c2,a3,n3,c3⟩:=h;have e3:G.rules.length=n3:=J.rules.len;have k3:=J.rules.cap;simp only[] at h3 k3;have Hg:=LH J;have bs:=LH ax;have bv:=LH a4;have Z:=LH al;clear ax a4 J al;have av:=Xz (some g) (Zy w (.cells #[.slice a1 n1 c1,.slice a2 n2 c2,.slice a3 n3 c3,.int .i64 G.start] 26));have ar:=Y1.new w 26 ⟨a1,n1,c1,a2,n2,c2,a3,n3,c3⟩ G.start;have am:=Blk.new w 26 #[.slice a1 n1 c1,.slice a2 n2 c2,.slice a3 n3 c3,.int .i64 G.start];have ak:Z8 (w.alloc (.cells #[.slice a1 n1 c1,.slice a2 n2 c2,.slice a3 n3 c3,.int .i64 G.start] 26)) g d:=Blk.ext O (Zy _ _);have cm:g<w.heap.size:=O.lt;clear O;go_enter func150,ntmps150;have⟨z5,z0,z1,z2,z3⟩:=ar;simp only[] at z0 z1 z2 z3;go_wp2_with fail;generalize w.alloc (.cells #[.slice a1 n1 c1,.slice a2 n2 c2,.slice a3 n3 c3,.int .i64 G.start] 26)=W0 at *;clear z0 z1 z2 z3 ar;go_loopg [7] (n+2) (λq v wr=>∃(m:Nat) (b:Bool),v = .bool b/\q+m=n+2/\Hid (b=true->m<=n)/\w.grownBy wr (some g)/\Blk wr w 26 #[.slice a1 n1 c1,.slice a2 n2 c2,.slice a3 n3 c3,.int .i64 G.start]/\Z8 wr g (Z3 (Yy ids G.rules) m d) /\
  Hid (b=false->Yy ids G.rules (Z3 (Yy ids G.rules) m d)=Z3 (Yy ids G.rules) m d))
 case atStart=>exact⟨0,true,rfl,AA,LH λ_=>AA,av,am,ak,LH λh=>by cases h⟩
 clear av am ak;obtain⟨m,b,rfl,hq,Hm,k,l,a,aa⟩:=hrel;have x2:=Blk.cell l 2;simp only[DT,List.getElem?_cons_zero,List.getElem?_cons_succ] at x2;rcases (by cases b <;> simp:b=false\/b=true) with rfl | rfl
 ·have au:=aa.out rfl;have B:=(Wn ids G.rules).fix d;rw[V] at B;rw[iter_done B au] at a;have HT:=LH a;clear a Hm aa au B;go_wp2_with fail;go_ret;exact⟨rfl,k,HT.out⟩
 have cp:=Hm.out rfl;go_wp2_with fail;have b0:(Z3 (Yy ids G.rules) m d).length=n:=by rw[Dw];exact V
 have ab:Hid (Yy ids G.rules (Z3 (Yy ids G.rules) m d)=Z3 (Yy ids G.rules) (m+1) d):=rfl;have bu:Hid (Yy ids G.rules (Z3 (Yy ids G.rules) m d)≠Z3 (Yy ids G.rules) m d->m<n):=LH λW=>by
  have B:=(Wn ids G.rules).fix d;rw[V] at B;exact iter_more B W
 generalize Z3 (Yy ids G.rules) m d=N at *;go_loopw [7,9,16] (λv _ i u=>∃(j:Nat),j<=n3/\i = .int .i64 (j:Int)/\v = .bool (L6 N (Yy ids (G.rules.take j) N))/\w.grownBy u (some g)/\Blk u w 26 #[.slice a1 n1 c1,.slice a2 n2 c2,.slice a3 n3 c3,.int .i64 G.start]/\Z8 u g (Yy ids (G.rules.take j) N)) (λ_ _ i _=>n3-(intOf i).toNat)
 case atStart=>exact⟨0,AU _,rfl,by rw[show Yy ids (G.rules.take 0) N=N from rfl,Zwk],k,l,a⟩
 clear k l a x2;obtain⟨j,hj,rfl,rfl,k,l,a⟩:=hrel;by_cases b6:j<n3
 ·obtain⟨bb,ca,r,Ar,cr,rfl,hb,Hr,q0,q1,q2,a6⟩:=Hg.out.rules.get b6;have ah:Below z z wr:=Z.out.trans (Zn k Z.out.size b3);rw[<-ah.cell (by exact hb)] at q0 q1 q2;have a0:=AL Hr.out;have T:(Yy ids (G.rules.take j) N).length=n:=by rw[Zzs];exact b0
  have C:Yy ids (G.rules.take (j+1)) N=Jz (Yy ids (G.rules.take j) N) (ids r (Yy ids (G.rules.take j) N)):=by rw[Ya Hr.out,Zwt];rfl
  have ay:LeB N (Yy ids (G.rules.take j) N):=passI_le ids _ N;have E:=LH C;have bt:=LH ay;clear C ay;generalize Yy ids (G.rules.take j) N=f at *;have F:=Zy wr (.cells #[.int .i64 r.left,.slice Ar r.right.length cr,.int .i64 r.prec] 52);have U:=Zc k (Xz (some g) F);have an:=Blk.ext l F;have P:Z8 (wr.alloc (.cells #[.int .i64 r.left,.slice Ar r.right.length cr,.int .i64 r.prec] 52)) g f:=Blk.ext a F;have a7:=(a6.below ah).below F;have a8:=Fl.new wr 52 r.left Ar r.right.length cr r.prec;clear k l a;have⟨u5,u0,u1,u2⟩:=a8;have hC:=bv.out r a0 Ar cr f _ U a7 P T;have hL:=bs.out r a0 f T;generalize ids r f=L at *;have Y:=LH hC;have HL:=LH hL;clear hC hL a7 a8;go_wp2_with (go_at_fn gf;refine Y.out.mono ?_;rintro e X⟨S,Ai,D,ci,rfl,H,aq⟩);generalize wr.alloc (.cells #[.int .i64 r.left,.slice Ar r.right.length cr,.int .i64 r.prec] 52)=W1 at *;have b4:=Zc U (Xz (some g) S);have ao:=Blk.ext an S;have R:Z8 X g f:=Blk.ext P S;have cj:L.length=D:=H.len;have ch:=H.cap;have HI:=LH H;have bl:=LH aq;have bq:=LH b4;have cn:g<X.heap.size:=R.lt;clear q0 q1 q2 a6 Y U an P H aq;go_loopw [7,11,25] (λv _ i u=>∃(p:Nat),p<=D/\i = .int .i64 (p:Int)/\v = .bool (L6 N (Jz f (L.take p)))/\X.grownBy u (some g)/\Blk u w 26 #[.slice a1 n1 c1,.slice a2 n2 c2,.slice (some ⟨bb,ca,none⟩) n3 c3,.int .i64 G.start]/\Z8 u g (Jz f (L.take p))) (λ_ _ i _=>D-(intOf i).toNat)
  case atStart=>exact⟨0,AU _,rfl,rfl,Jl _ _,ao,R⟩
  clear ao R;obtain⟨p,hp,rfl,rfl,k,l,a⟩:=hrel;by_cases b7:p<D
  ·obtain⟨ib,io,s,rfl,b5,Hs,b8⟩:=HI.out.get b7;have W:=bl.out ib io rfl;have q3:=(Kx k (b:=ib) (o:=io+p) b5 W).trans b8;obtain⟨s1,s2⟩:=HL.out s (AL Hs.out);obtain⟨t,rfl⟩:∃t:Nat,s=(t:Int):=⟨s.toNat,AA⟩;have C:Jz f (L.take (p+1))=(Jz f (L.take p)).set t true:=by rw[Ya Hs.out,Zw9];simp
   have b2:(Jz f (L.take p)).length=n:=by rw[Zwc];exact T
   have az:LeB N (Jz f (L.take p)):=bt.out.trans (F5 f _);have aw:=grew_set az (i:=t) AA;have ck:=a.at (i:=t) AA;have a5:=a.put t true;have cl:=Blk.frozen a t;have ap:=l.other g t (.bool true) AA;have E:=LH C;have br:=LH aw;have bw:=LH a5;have bk:=LH ap;have bp:=LH k;have cu:t<n:=AA
   clear C az aw a5 ap k l a b2;generalize (Jz f (L.take p)).getD t false=x at *;generalize L6 N (Jz f (L.take p))=y at *;rcases (by cases y <;> simp:y=false\/y=true) with rfl | rfl;all_goals
    go_wp2_with fail;go_roundw
    case rel=>exact⟨p+1,AA,AF,by rw[E.out,br.out];simp,Zc bp.out (Zd _ _ _ _),bk.out,by rw[E.out];exact bw.out⟩
    simp[intOf];omega
  obtain rfl:p=D:=AA
  rw[AQ AA] at a ⊢;rw[<-E.out] at a ⊢;go_wp2_with fail;go_roundw
  case rel=>exact⟨j+1,AA,AF,rfl,Zc bq.out k,l,a⟩
  simp[intOf];omega
 obtain rfl:j=n3:=AA
 rw[AQ AA] at a ⊢;have bn:Hid (L6 N (Yy ids G.rules N)=true->m+1<=n):=LH λM=>by
  have:m<n:=bu.out (by intro I;rw[I,Zwk] at M;cases M);omega
 have bo:Hid (L6 N (Yy ids G.rules N)=false->Yy ids G.rules (Z3 (Yy ids G.rules) (m+1) d)=Z3 (Yy ids G.rules) (m+1) d):=LH λM=>by
  have I:Yy ids G.rules N=N:=by simpa [L6] using M
  rw[<-ab.out,I,I]
 generalize L6 N (Yy ids G.rules N)=y at *;rw[ab.out] at a;go_wp2_with fail;go_roundg (n+1-m)
 case rel=>exact⟨m+1,y,rfl,AA,bn,k,l,a,bo⟩
 omega
theorem Jw(a:Xq G)(h:Zv G s 0≠0):Xg (Zj G) s=true:=Ms a.fits _ h
theorem rule_next(c:Xq G){r:Rul}{a:Nat}{q:Int}(f:r.right[a]? = some q){m k:Nat}(o:m<=n)(l:k<=m)(d:m=n->∀(p:Nat) s,p<a->r.right[p]? = some s->Xg (Zj G) s=true)(g:Zv G q k≠0):m-k=n->∀(p:Nat) s,p<a+1->r.right[p]? = some s->Xg (Zj G) s=true:=by
 intro j p s t b;rcases (AA:p<a\/p=a) with h | rfl
 ·exact d AA p s h b
 rw[f] at b;obtain rfl:=BI b;obtain rfl:k=0:=AA
 exact Jw c g
theorem Ztk(A:Option Addr)(n c:Nat)(b:Bool)(x:Nat)(w:World)(h:Z1 w A n c b x):
 Calls prog 156 #[.agg #[.slice A n c,.bool b]] w λe w'=>e = .returned (.bool (decide (x=0)))/\Below w w w':=by
 have f:=Zy w (.cells #[.slice A n c,.bool b] 77);have d:=h.none_iff;have j:=h.2.cap;go_enter func156,ntmps156;clear h;cases b
 case true =>
  have a:decide (x=0)=false:=by rw[AY];intro e;have:=d.2 e;cases this.1
  have Hx:=LH a;clear d a;go_wp2_with fail;go_ret;exact⟨by rw[Hx.out];rfl,f⟩
 by_cases g:n=0
 ·subst g;have a:decide (x=0)=true:=by rw[BB];exact d.1 ⟨rfl,rfl⟩
  have Hx:=LH a;clear d a;go_wp2_with fail;go_ret;exact⟨by rw[Hx.out];rfl,f⟩
 have a:decide (x=0)=false:=by rw[AY];intro e;exact g (d.2 e).2
 have k:((n:Int)==0)=false:=by rw[AP];omega
 have Hx:=LH a;clear d a g;go_wp2_with fail;go_ret;exact⟨by rw[Hx.out];rfl,f⟩
section
open Go.RowKit Go.Shelf Go.Sort
theorem cf_alone(A:Option Addr)(n c:Nat)(a:List ByteArray)(w:World)(h:Js w A n c a)(J:n<=1000):
 Calls prog 100 #[.slice A n c] w λe w'=>e = .returned (.bool (decide a.Nodup))/\Below w w w':=by
 obtain rfl:=h.len;have O:=h.cap;have p:=values_in A a.length c w;have r:=Zy w (.cells #[.slice A a.length c] 23);have l:=Wg w 23 #[.slice A a.length c] 0;simp only[DT,List.getElem?_cons_zero] at l;have o:=sorted_s w a.length c A a J (w.alloc (.cells #[.slice A a.length c] 23)) AE l (h.below r);have S:=Zl w (.cells #[.slice A a.length c] 23);have B:=LH p;have z:=LH o;clear p o l;go_enter func100,ntmps100;go_wp2_with fail;(with_reducible refine B.out.mono ?_);rintro e w1⟨rfl,rfl⟩;go_wp2_with fail;(with_reducible refine z.out.mono ?_);rintro e b⟨H,L⟩;have k:=Zz r H;rcases L with ⟨rfl,rfl⟩ | ⟨g,cap,rfl,N,R,P,s⟩
 ·have D:=LH (Tryz.slices_Compact_string_empty none 0 b);go_wp2_with fail;(with_reducible refine D.out.mono ?_);rintro e M⟨rfl,rfl⟩;go_wp2_with fail;go_ret;exact⟨AE,k⟩
 have u:((byL a).mergeSort λx y=>decide (x<=y)).length=a.length:=by simp[byL]
 have f:=Tryz.slices_Compact_string g 0 cap ((byL a).mergeSort λx y=>decide (x<=y)) b s AA AA;rw[u] at f;have t:decide a.Nodup=decide ((Lib.compact ((byL a).mergeSort λx y=>decide (x<=y))).length=a.length):=by
  have:=sorted_len (byL a);rw[byL_nodup,show (byL a).length=a.length by simp[byL]] at this;rw[BZ,BB,BB];exact this.symm
 have E:=LH t;have C:Hid (∀q d,Below w w (putRow encStr (Sort.ahead b q) g 0 d)):=LH λq d=>by
  have:=k.grown (grownBy_sorted (n:=q) (os:=#[]) (g:=g) d) k.size (λj I=>by cases I;omega);rwa [grow_none] at this
 generalize (Lib.compact ((byL a).mergeSort λx y=>decide (x<=y))).length=m at *;have v:=LH f;clear f s t u;go_wp2_with fail;(with_reducible refine v.out.mono ?_);rintro e M⟨rfl,q,rfl⟩;have G:=LH (C.out q (Lib.compact ((byL a).mergeSort λx y=>decide (x<=y))++List.replicate (a.length-m) []).toArray);generalize putRow encStr (Sort.ahead b q) g 0 (Lib.compact ((byL a).mergeSort λx y=>decide (x<=y))++List.replicate (a.length-m) []).toArray=T at *;have F:Hid (((m:Int)==(a.length:Int))=decide (m=a.length)):=LH (by rw[BZ];simp;omega);go_wp2_with fail;go_ret;exact⟨by rw[E.out,<-F.out];rfl,G.out⟩
end
section
open Go.RowKit Go.Maps
theorem J4(h:GH)(G:Gr)(w:World)(u:Yf w h G)(hs:∀t∈G.terms,t.name.size<=maxLen)(h1:h.n1<=100)(h2:h.n2<=100):
 Calls prog 56 #[GV h G.start] w λe w'=>e = .returned (.bool G.right)/\Below w w w':=by
 rw[<-right_same];obtain⟨a1,n1,c1,a2,n2,c2,a3,n3,c3⟩:=h;have e1:G.terms.length=n1:=u.terms.len;have e2:G.nons.length=n2:=u.nons.len;have e3:G.rules.length=n3:=u.rules.len;have k1:=u.terms.cap;have g:=u.rules.cap;simp only[] at h1 h2 k1 g;have L:=LH u;have Hs:=LH hs;have a4:Hid (G.rightP=(G.aheadP&&!(G.nons.any λs=>!Xi (Zh s))&&decide (G.leftsGo G.rules (-1)=some ((n2:Int)-1)))):=LH (by unfold Gr.rightP;rw[e2]);have aw:Hid (G.aheadP=(H0 G.terms&&Yb n2 1 16&&Yb n3 1 40&&decide G.names.Nodup&&Yb G.start 0 ((n2:Int)-1))):=LH (by unfold Gr.aheadP;rw[e2,e3]);clear hs;have ai:=Zy w (.cells #[.slice a1 n1 c1,.slice a2 n2 c2,.slice a3 n3 c3,.int .i64 G.start] 26);have ak:=Y1.new w 26 ⟨a1,n1,c1,a2,n2,c2,a3,n3,c3⟩ G.start;go_enter func56,ntmps56;have⟨z5,z0,z1,z2,z3⟩:=ak;simp only[] at z0 z1 z2 z3;go_wp2_with fail;generalize w.alloc (.cells #[.slice a1 n1 c1,.slice a2 n2 c2,.slice a3 n3 c3,.int .i64 G.start] 26)=o at *;have P:=L.out.below ai;(with_reducible refine (clone_strs a2 n2 c2 G.nons o P.nons AA).mono ?_);rintro e w2⟨A2,C2,rfl,x,m⟩;have bf:=ak.below m;have⟨y5,y0,y1,y2,y3⟩:=bf;simp only[] at y0 y1 y2 y3;clear z0 z1 z2 z3;go_wp2_with fail;go_loopw [3,5,15] (λv _ i wr=>∃(k:Nat) (A:Option Addr) (c:Nat),k<=n1/\i = .int .i64 (k:Int)/\v = .slice A (n2+k) c/\wr.ownsRow o 9 1 (.slice A (n2+k) c) (n2+k) ((G.nons++(G.terms.take k).map Trm.name).map Value.string)/\Below o o wr) (λ_ _ i _=>n1-(intOf i).toNat)
 case atStart=>exact⟨0,A2,C2,AU _,rfl,rfl,by simpa using x,m⟩
 clear x m bf y0 y1 y2 y3 y5;obtain⟨k,A,c,hk,rfl,rfl,x,m⟩:=hrel;by_cases R:k<n1
 ·obtain⟨b,bu,t,rfl,l,Ht,S,U,V⟩:=P.terms.get R;rw[<-m.cell (by exact l)] at S U V;have cu:o.heap.size<=wr.heap.size:=m.size;have z:=m.alloc cu (.cells #[.string t.name,.int .i64 t.level,.int .i64 t.assoc] 91);have bm:=x.alloc (.cells #[.string t.name,.int .i64 t.level,.int .i64 t.assoc] 91);have p0:=Wg wr 91 #[.string t.name,.int .i64 t.level,.int .i64 t.assoc] 0;have p5:=Zl wr (.cells #[.string t.name,.int .i64 t.level,.int .i64 t.assoc] 91);simp only[DT,List.getElem?_cons_zero,List.getElem?_cons_succ] at p0;have cv:o.heap.size<=(wr.alloc (.cells #[.string t.name,.int .i64 t.level,.int .i64 t.assoc] 91)).heap.size:=AA
  go_wp2_with (at_builtin;refine Vc (w:=wr.alloc (.cells #[.string t.name,.int .i64 t.level,.int .i64 t.assoc] 91)) rfl _ _ 23 rfl o 9 (.string ByteArray.empty) 16 underlying23 Tryz.infoStr rfl _ (n2+k) _ _ rfl bm (.string t.name) (by rw[p5];rfl) rfl AA AA AA ?_;intro A4 c4 w4 ho cw);go_roundw
  case rel=>exact⟨k+1,A4,c4,AA,AF,by rw[Ed],by rw[names_take G Ht.out];exact ho,X6 z cw bm cv⟩
  simp[intOf];omega
 obtain rfl:k=n1:=AA
 rw[AQ AA] at x;have bl:Js wr A (n2+k) c G.names:=Yl x;have bd:=ai.trans (m.mono ai.size);have q:=ak.below m;have⟨x5,x0,x1,x2,x3⟩:=q;simp only[] at x0 x1 x2 x3;have bg:∀j,Below wr wr j->Y1 j w ⟨a1,k,c1,a2,n2,c2,a3,n3,c3⟩ G.start:=λj l=>q.below l;have CT:=LH ((cf_terms a1 k c1 G.terms wr (P.terms.below m) AA Hs.out).mono λe w' a=>And.intro a.1 (And.intro (Jd a.2).1 (LH a.2)));have cA:=λj (l:Below wr wr j)=>(cf_alone A (n2+k) c G.names j (bl.below l) AA).mono λe w' a=>And.intro a.1 (And.intro (Jd a.2).1 (LH (Zz l a.2)));have a8:=λw=>Jx (n2:Int) 1 16 w;have a9:=λw=>Jx (n3:Int) 1 40 w;have ba:=λw=>Jx G.start 0 ((n2:Int)-1) w;have br:Yb (n2:Int) 1 16=true->1<=(n2:Int)/\(n2:Int)<=16:=Ud;have bs:Yb (n3:Int) 1 40=true->1<=(n3:Int)/\(n3:Int)<=40:=Ud;have dh:IntKind.i64.wrap ((n2:Int)-1)=(n2:Int)-1:=BT _ AA;have ci:=LH P;generalize H0 G.terms=p at *;generalize Yb (n2:Int) 1 16=y at *;generalize Yb (n3:Int) 1 40=F at *;generalize decide G.names.Nodup=M at *;generalize Yb G.start 0 ((n2:Int)-1)=b5 at *;have CA:=LH cA;have X:=LH a8;have Y:=LH a9;have Z:=LH ba;have cm:=LH br;have cn:=LH bs;have ay:=LH bg;have I:=LH bd;clear cA a8 a9 ba br bs bg bd x u bl q R hk;have cz:((p=false)\/(p=true/\y=false)\/(p=true/\y=true/\F=false)\/(p=true/\y=true/\F=true/\M=false)\/(p=true/\y=true/\F=true/\M=true/\b5=false))\/(p=true/\y=true/\F=true/\M=true/\b5=true):=by cases p <;> cases y <;> cases F <;> cases M <;> cases b5 <;> simp
 rcases cz with H | ⟨rfl,rfl,rfl,rfl,rfl⟩
 ·have az:Hid (G.rightP=false):=LH (by
   rw[a4.out,aw.out];rcases H with rfl | ⟨rfl,rfl⟩ | ⟨rfl,rfl,rfl⟩ | ⟨rfl,rfl,rfl,rfl⟩ | ⟨rfl,rfl,rfl,rfl,rfl⟩ <;> simp)
  rcases H with rfl | ⟨rfl,rfl⟩ | ⟨rfl,rfl,rfl⟩ | ⟨rfl,rfl,rfl,rfl⟩ | ⟨rfl,rfl,rfl,rfl,rfl⟩;all_goals
   go_wp2_with (first
    | (go_at_call 98;(with_reducible refine CT.out.mono ?_);rintro e j⟨rfl,f,d⟩;have B:=(f _ 1 x5).trans x1;have p2:=(f _ 2 x5).trans x2;have C:=(f _ 3 x5).trans x3)
    | (go_at_call 99;(with_reducible refine (X.out _).mono ?_);rintro e w4⟨rfl,rfl⟩)
    | (go_at_call 99;(with_reducible refine (Y.out _).mono ?_);rintro e w5⟨rfl,rfl⟩)
    | (go_at_call 99;(with_reducible refine (Z.out _).mono ?_);rintro e w6⟨rfl,rfl⟩)
    | (go_at_call 100;(with_reducible refine (CA.out _ d.out).mono ?_);rintro e w7⟨rfl,n,D⟩;have r1:=(n _ 1 (AJ x5 d.out.size)).trans B;have r3:=(n _ 3 (AJ x5 d.out.size)).trans C))
   go_ret
   first
    | exact⟨by rw[az.out];rfl,Zz I.out D.out⟩
    | exact⟨by rw[az.out];rfl,Zz I.out d.out⟩
 have a0:Hid (G.rightP=(!(G.nons.any λs=>!Xi (Zh s))&&decide (G.leftsGo G.rules (-1)=some ((n2:Int)-1)))):=LH (by rw[a4.out,aw.out];simp);have df:=cm.out rfl;have dg:=cn.out rfl;have hC:=λj (l:Below wr wr j)=>(sl_contains_strs a2 n2 c2 G.nons 102 #[] (λs=>!Xi (Zh s)) j enters_right1 ((ci.out.nons.below m).below l) (λs _ w' _=>(cf_right1 s w').mono λe w' a=>⟨a.1,by rw[<-a.2];exact AK _ _⟩)).mono λe w' a=>And.intro a.1 (And.intro (Jd a.2).1 (LH (Zz l a.2)));generalize (G.nons.any λs=>!Xi (Zh s))=b6 at *;have HC:=LH hC;clear hC;rcases (by cases b6 <;> simp:b6=true\/b6=false) with rfl | rfl
 ·go_wp2_with (first
   | (go_at_call 98;(with_reducible refine CT.out.mono ?_);rintro e j⟨rfl,f,d⟩;have B:=(f _ 1 x5).trans x1;have p2:=(f _ 2 x5).trans x2;have C:=(f _ 3 x5).trans x3)
   | (go_at_call 99;(with_reducible refine (X.out _).mono ?_);rintro e w4⟨rfl,rfl⟩)
   | (go_at_call 99;(with_reducible refine (Y.out _).mono ?_);rintro e w5⟨rfl,rfl⟩)
   | (go_at_call 99;(with_reducible refine (Z.out _).mono ?_);rintro e w6⟨rfl,rfl⟩)
   | (go_at_call 100;(with_reducible refine (CA.out _ d.out).mono ?_);rintro e w7⟨rfl,n,D⟩;have r1:=(n _ 1 (AJ x5 d.out.size)).trans B;have r3:=(n _ 3 (AJ x5 d.out.size)).trans C)
   | (go_at_call 101;(with_reducible refine (HC.out _ D.out).mono ?_);rintro e w8⟨rfl,bj,E⟩))
  go_ret;exact⟨by rw[a0.out];rfl,Zz I.out E.out⟩
 have ce:Hid (G.rightP=decide (G.leftsGo G.rules (-1)=some ((n2:Int)-1))):=LH (by rw[a0.out];simp);go_wp2_with (first
  | (go_at_call 98;(with_reducible refine CT.out.mono ?_);rintro e j⟨rfl,f,d⟩;have B:=(f _ 1 x5).trans x1;have p2:=(f _ 2 x5).trans x2;have C:=(f _ 3 x5).trans x3)
  | (go_at_call 99;(with_reducible refine (X.out _).mono ?_);rintro e w4⟨rfl,rfl⟩)
  | (go_at_call 99;(with_reducible refine (Y.out _).mono ?_);rintro e w5⟨rfl,rfl⟩)
  | (go_at_call 99;(with_reducible refine (Z.out _).mono ?_);rintro e w6⟨rfl,rfl⟩)
  | (go_at_call 100;(with_reducible refine (CA.out _ d.out).mono ?_);rintro e w7⟨rfl,n,D⟩;have r1:=(n _ 1 (AJ x5 d.out.size)).trans B;have r3:=(n _ 3 (AJ x5 d.out.size)).trans C)
  | (go_at_call 101;(with_reducible refine (HC.out _ D.out).mono ?_);rintro e w8⟨rfl,bj,E⟩;have⟨v5,v0,v1,v2,v3⟩:=ay.out w8 E.out;simp only[] at v0 v1 v2 v3))
 have bh:=ay.out w8 E.out;have bc:=Zz I.out E.out;clear v5 v0 v1 v2 v3 B p2 C r1 r3 f n bj x5 x0 x1 x2 x3;go_loopw [6,8,64] (λnx _ i wz=>∃(g:Nat) (T:Int),g<=n3/\i = .int .i64 (g:Int)/\nx = .int .i64 (T+1)/\-1<=T/\T<=1000/\Hid (G.leftsGo (G.rules.take g) (-1)=some T)/\Below w w wz/\Y1 wz w ⟨a1,k,c1,a2,n2,c2,a3,n3,c3⟩ G.start) (λ_ _ i _=>n3-(intOf i).toNat)
 case atStart=>exact⟨0,-1,AU _,rfl,rfl,AA,AA,LH rfl,bc,bh⟩
 clear bh bc;obtain⟨g,T,dc,rfl,rfl,c9,da,HT,O,q⟩:=hrel;have⟨z5',z0,z1,z2,z3⟩:=q;simp only[] at z0 z1 z2 z3;by_cases R:g<n3
 ·obtain⟨b,bu,r,Ar,cr,rfl,l,Hr,S,U,V,bn⟩:=L.out.rules.get R;rw[<-O.cell (by exact l)] at S U V;have bo:=L.out.wf r (AL Hr.out);have z:=O.alloc O.size (.cells #[.int .i64 r.left,.slice Ar r.right.length cr,.int .i64 r.prec] 52);have al:=q.below (Zy wr (.cells #[.int .i64 r.left,.slice Ar r.right.length cr,.int .i64 r.prec] 52));have bt:=Fl.new wr 52 r.left Ar r.right.length cr r.prec;have p5:=Zl wr (.cells #[.int .i64 r.left,.slice Ar r.right.length cr,.int .i64 r.prec] 52);go_wp2_with fail;generalize wr.alloc (.cells #[.int .i64 r.left,.slice Ar r.right.length cr,.int .i64 r.prec] 52)=W1 at *;have⟨s5,s0,s1,s2,s3⟩:=al;have⟨u5,u0,u1,u2⟩:=bt;simp only[] at s0 s1 s2 s3 u0 u1 u2;clear S U V z0 z1 z2 z3 q;generalize wr.heap.size=gr at *;have cR:=cf_rule ⟨a1,k,c1,a2,n2,c2,some ⟨b,bu,none⟩,n3,c3⟩ G r Ar cr W1 (L.out.below z) (bn.below z) bo (by simp only[];omega) (by simp only[];omega);have cW:=λw=>Jx r.left 0 (T+1) w;have H:=@leftsP_bad G g r T Hr.out HT.out;have bk:=@leftsP_good G g r T Hr.out HT.out;have bq:Yb r.left 0 (T+1)=true->0<=r.left/\r.left<=T+1:=Ud;generalize Yb r.left 0 (T+1)=N at *;generalize G.ruleOK r=b8 at *;have CR:=LH (cR.mono λe w' a=>And.intro a.1 (And.intro (Jd a.2).1 (LH a.2)));have W:=LH cW;have ax:=LH H;have cg:=LH bk;have ck:=LH bq;have aa:=LH z;have cl:=LH al;clear cR cW H bk bq bo bn z al bt;rcases (by cases N <;> cases b8 <;> simp:(N=false)\/(N=true/\b8=false)\/(N=true/\b8=true)) with rfl | ⟨rfl,rfl⟩ | ⟨rfl,rfl⟩
  ·go_wp2_with (go_at_call 99;(with_reducible refine (W.out _).mono ?_);rintro e w9⟨rfl,rfl⟩);go_ret;exact⟨by rw[ax.out rfl];rfl,aa.out⟩
  ·go_wp2_with (first
    | (go_at_call 99;(with_reducible refine (W.out _).mono ?_);rintro e w9⟨rfl,rfl⟩)
    | (go_at_call 104;(with_reducible refine CR.out.mono ?_);rintro e c6⟨rfl,bi,J⟩))
   go_ret;exact⟨by rw[ax.out rfl];rfl,Zz aa.out J.out⟩
  have di:=ck.out rfl;have aj:=cg.out rfl rfl;have db:=G.leftsGo_bd _ _ _ AA aj;have dd:(G.rules.take (g+1)).length<=40:=by rw[BY];omega
  have cd:=LH aj;clear aj;have de:max (T+1) (r.left+1)=max T r.left+1:=AA
  go_wp2_with (first
   | (go_at_call 99;(with_reducible refine (W.out _).mono ?_);rintro e w9⟨rfl,rfl⟩)
   | (go_at_call 104;(with_reducible refine CR.out.mono ?_);rintro e c6⟨rfl,bi,J⟩;have v0:=(bi _ 0 u5).trans u0))
  go_roundw
  case rel=>exact⟨g+1,max T r.left,AA,AF,rfl,AA,AA,cd,Zz aa.out J.out,cl.out.below J.out⟩
  simp[intOf];omega
 obtain rfl:g=n3:=AA
 have ad:=HT.out;rw[AQ AA] at ad;have cf:Hid (G.rightP=(T+1==(n2:Int))):=LH (by
  rw[ce.out,ad,BZ,BB,BP];constructor
  ·intro h;injection h with h;omega
  intro h;congr 1;omega)
 clear ad;go_wp2_with fail;go_ret;exact⟨by rw[cf.out];rfl,O⟩
end
section
open Go.Maps (Keyed IsMap Tidy)
variable {P:Program} {k:TypeId}
theorem Vv.ne_blk{t:TypeId}(h:Vv P k w g r)(a:Blk w b t cs):b≠g:=by
 rintro rfl;obtain⟨d,clock,c,_⟩:=h.own;unfold Blk at a;rw[c] at a;cases a
theorem Vv.put{t e:Nat}(h:Vv P k w g r)(K:Keyed P k)(n:P.underlying t=some (.map k e))(j:Maps.size (Np P k r)<maxLen){v:Value}(c:U4 P k v):
 ∃w',(Instr.mapUpdate t (.map (some g)) v (.pointer (some ⟨b,0,none⟩))).run P w = .ok () w'/\Vv P k w' g ((v,b)::r)/\w.grownBy w' (some g):=by
 obtain⟨w',m,l,f⟩:=h.own.update K n j c.lit (val := .pointer (some ⟨b,0,none⟩)) (d := .lit (.int .i64 (b:Int))) (ps:=[]) rfl;refine⟨w',m,⟨own_tight l,λp a=>?_⟩,f⟩;rcases BW.1 a with e | a
 ·rw[e];exact c
 exact h.good p a
theorem D7(w:World)(l:o.guard=none)(m x y:Operand)(t:TypeId)(p:o.op=Op.mapUpdate t m x y)(e g b:Nat)(K:Keyed P k)(s:P.underlying t=some (.map k e))(h:Vv P k w g r)(n:Maps.size (Np P k r)<maxLen)(v:Value)(u:U4 P k v)(h1:a.eval m = .map (some g))(c:a.eval x=v)(d:a.eval y = .pointer (some ⟨b,0,none⟩))(f:∀w',Vv P k w' g ((v,b)::r)->w.grownBy w' (some g)->wpList P ops Q rest (a.put o.dst undef) w'):wpList P ops Q (o::rest) a w:=by
 refine wpList_plain l λB j=>?_;obtain⟨w',q,z,A⟩:=h.put (b:=b) K s n u;unfold Oper.wp;simp[execOp,p,h1,c,d,q,Result.andThen];exact j _ _ (f w' z A)
end
section
open Go.Maps (Keyed IsMap Tidy)
open Go.Maps (Keyed IsMap Tidy)
theorem Za.tail1{d c:Nat}{a:List Int}(h:Za .i64 w (some ⟨b,d,none⟩) n c (s::a)):
 Za .i64 w (if c=1 then some ⟨b,d,none⟩ else some ⟨b,d+1,none⟩) (n-1) (c-1) a:=by
 have g:=h.len;have l:=h.cap;rw[AW] at g;by_cases f:c=1
 ·rw[if_pos f];have j:a=[]:=BL AA;subst j;rw[show n-1=0 by omega];exact Za.nil _ _ _ _ AA
 rw[if_neg f];have:=h.part 1 (n-1) (c-1) AA AA AA;have e:((s::a).drop 1).take (n-1)=a:=by
  show a.take (n-1)=a;exact AQ AA
 rw[e] at this;exact this
end
section
variable {P:Program} {M:World->Prop} {R:World->World->Prop}
def Zk(P:Program)(M:World->Prop)(R:World->World->Prop)(F:(Nat->Value)->Act)(D:Nat->Value->World->Prop):Nat->List Oper->Prop
 | _,[]=>True
 | i,o::rest=>(o.guard=none/\(∀u v,(F u).put o.dst v=F (upd u i v))/\∀(Q:Exit->Act->World->Prop) (u:Nat->Value) (X:World),M X->(∀p,onB o p=true->D p (u p) X)->
    ∀K:Act->World->Prop,(∀v a,M a->R X a->D i v a->K ((F u).put o.dst v) a)->o.wp P (F u) X K Q)/\Zk P M R F D (i+1) rest
theorem Zk.nil:Zk P M R F D i []:=trivial
theorem Zk.cons(b:o.guard=none)(c:∀u v,(F u).put o.dst v=F (upd u i v))(h:∀(Q:Exit->Act->World->Prop) (u:Nat->Value) (X:World),M X->(∀p,onB o p=true->D p (u p) X)->∀K:Act->World->Prop,(∀v a,M a->R X a->D i v a->K ((F u).put o.dst v) a)->o.wp P (F u) X K Q)(t:Zk P M R F D (i+1) rest):Zk P M R F D i (o::rest):=⟨⟨b,c,h⟩,t⟩
theorem Zk.steps(y:∀i v X g,D i v X->R X g->D i v g)(k:Zti l n=true)(N:n<=l.length):
 ∀(m:List Oper) (i:Nat),(∀j,j<m.length->m[j]? = l[i+j]?)->i+m.length=n->Zk P M R F D i m->∀rest,Xc P (JF l n M F D fin) n rest->Xc P (JF l n M F D fin) i (m++rest)
 | [],i,_,hl,_,rest,hr=>by
   have:i=n:=by simpa using hl
   subst this;exact hr
 | o::m,i,hm,hl,hs,rest,hr=>by
   have I:i<n:=by simp only[AW] at hl;omega
   have O:l[i]? = some o:=by simpa using (hm 0 AE).symm
   refine Xc.cons hs.1.1 (λQ listed a X C T S K E=>?_) (Zk.steps y k N m (i+1) (λj b=>by have:=hm (j+1) AG;simpa [Ed,Eo 1 j] using this) (by simp only[AW] at hl;omega) hs.2 rest hr);obtain⟨u,rfl,B,z,hd,V,Y⟩:=C;obtain⟨r,H⟩:=Zu4 T;have f:listed.getD n false=false:=by
    cases x:listed.getD n false with
    | false=>rfl
    | true =>
      unfold Zti at k;rw[CJ,BB] at k;rcases k with h | h
      ·subst h;rw[<-B] at x;simp[Array.getD] at x
      have:=D9 z _ _ _ (BG.1 h i (BQ.2 I)) x;rw[H] at this;cases this
   have t:∀p,onB o p=true->listed.getD p false=true:=λp c=>by
    obtain⟨e,G,q,rfl⟩:=Zyf.1 c;exact S e G q
   refine hs.1.2.2 Q u X (V f) (λp c=>hd p (λh=>by subst h;have:=t p c;rw[f] at this;cases this) (t p c) f) K λv g L q U=>?_;refine E _ _ ⟨upd u i v,hs.1.2.1 u v,by simpa using B,λj W s b p c=>?_,λj J b _=>?_,λ_=>L,λh=>?_⟩
   ·rw[Uj r] at b ⊢;by_cases A:p=i
    ·rw[if_pos A]
    rw[if_neg A];by_cases d:j=i
    ·subst d;rw[O] at s;obtain rfl:=BI s;exact t p c
    rw[if_neg d] at b;exact z j W s b p c
   ·rw[Uj r] at b;unfold upd;by_cases d:j=i
    ·subst d;rw[if_pos rfl];exact U
    rw[if_neg d] at b ⊢;exact y j _ X g (hd j J b f) q
   rw[Uj r,if_neg AA,f] at h;cases h
theorem Xh{id:Nat}{t:Oper}(M:World->Prop)(R:World->World->Prop)(F:(Nat->Value)->Act)(u0:List Value)(D:List (Value->World->Prop))(fin:(Nat->Value)->World->Prop)(N:P.follows .mixedOrders=true)(r:Zvw (l++[t]).toArray=true)(f:Zti (l++[t]) l.length=true)(V:t.guard=none)(I:a=F λi=>u0.getD i undef)(H:M w.drew)(E:Zwm R D)(T:Zk P M R F (atL D) 0 l)(U:∀(Q:Exit->Act->World->Prop) u X,M X->(∀i,i<l.length->atL D i (u i) X)->∀K:Act->World->Prop,(∀g k,fin g k->K (F g) k)->t.wp P (F u) X K Q)(s:∀u X,fin u X->Q .normal (F u) X):(Code.region id (l++[t]).toArray true).wp P Q a w:=by
 have ab:(l++[t]).length=l.length+1:=AE
 refine H6 (JF (l++[t]) l.length M F (atL D) fin) N r ⟨_,I,AE,λi o _ h=>?_,λi _ h _=>?_,λ_=>H,λh=>?_⟩ ?_ λlisted a X m q=>?_
 ·simp[Array.getD] at h
 ·simp[Array.getD] at h
 ·simp[Array.getD] at h
 ·refine Zk.steps (l:=l++[t]) (n:=l.length) (fin:=fin) E.at f AA l 0 (λj c=>by rw[BH,DL c]) (BH _) T [t] ?_;refine Xc.cons V (λQ listed a X m Y S K G=>?_) Xc.nil;obtain⟨u,rfl,C,J,hd,Z,y⟩:=m;obtain⟨b,z⟩:=Zu4 Y;have O:∀p,onB t p=true->listed.getD p false=true:=λp d=>by
   obtain⟨e,s,r,rfl⟩:=Zyf.1 d;exact S e s r
  have W:(l++[t])[l.length]? = some t:=by rw[BX (AI _),Nat.sub_self];rfl
  have x:∀i o,(l++[t])[i]? = some o->(listed.setIfInBounds l.length true).getD i false=true->∀p,onB o p=true->(listed.setIfInBounds l.length true).getD p false=true:=λj oj v c p d=>by
   rw[Uj b] at c ⊢;by_cases B:p=l.length
   ·rw[if_pos B]
   rw[if_neg B];by_cases A:j=l.length
   ·subst A;rw[W] at v;obtain rfl:=BI v;exact O p d
   rw[if_neg A] at c;exact J j oj v c p d
  have q:∀i,i<l.length->listed.getD i false=true:=λi hi=>by
   unfold Zti at f;rw[CJ,BB] at f;rcases f with h | h
   ·omega
   have:=D9 x _ _ _ (BG.1 h i (BQ.2 hi)) (by rw[Uj b,if_pos rfl]);rwa [Uj b,if_neg AA] at this
  refine U Q u X (Z z) (λi hi=>hd i AA (q i hi) z) K λg k L=>?_;refine G _ _ ⟨g,rfl,by simpa using C,x,λj _ _ h=>?_,λh=>?_,λ_=>L⟩
  ·rw[Uj b,if_pos rfl] at h;cases h
  rw[Uj b,if_pos rfl] at h;cases h
 obtain⟨u,rfl,C,_,_,_,y⟩:=m;refine s u X (y ?_);have h1:=q l.length AA;have b:l.length<listed.size:=AA
 simp only[Array.getD,dif_pos b] at h1 ⊢;exact h1
end
theorem NatsR.nil(w:World):NatsR w none 0 0 []:=⟨rfl,AI _,AA,λh=>AA⟩
theorem Gv(xs b:List Nat)(i:Nat):Lim (Xn xs b i).1:=by
 induction i with
 | zero=>exact Lim.nil
 | succ i a=>exact a.append (Lim.mk (Nat.mod_lt _ AC) Lim.nil)
theorem Zup(xs l:List Nat)(g:Lim xs)(b:Lim l)(i:Nat)(h1:xs.length<=i)(a:l.length<=i):
 (Xn xs l i).2=if val xs<val l then 1 else 0:=by
 have h:=Zt3 xs l g b i h1 a;have j:=Qi xs l i;have f:=Ui _ (Gv xs l i);rw[Mj] at f;have k:val l<4294967296 ^ i:=AJ (Ui l b) (DD AC a);generalize (Xn xs l i).2=c at *;generalize (4294967296:Nat) ^ i=B at *;have d:c=0\/c=1:=AA
 rcases d with rfl | rfl
 ·rw[if_neg AA]
 rw[if_pos AA]
theorem Zyj(xs f:List Nat)(b:Lim xs)(c:Lim f)(i:Nat)(h1:xs.length<=i)(a:f.length<=i)(h:val f<=val xs):
 val (Xn xs f i).1=val xs-val f:=by
 have d:=Zt3 xs f b c i h1 a;rw[Zup xs f b c i h1 a,if_neg AA] at d;omega
theorem twP_lim(xs:List Nat)(b k:Nat):Lim (twP xs b k).1:=by
 induction k with
 | zero=>exact Lim.nil
 | succ k a=>exact a.append (Lim.mk (Nat.mod_lt _ AC) Lim.nil)
section
open Ieee
theorem Za.tail{a c:Nat}{f:List Int}(h:Za .i64 w (some ⟨b,a,none⟩) n c f)(i:Nat)(hi:i<=n):
 Za .i64 w (if c=i then some ⟨b,a,none⟩ else some ⟨b,a+i,none⟩) (n-i) (c-i) (f.drop i):=by
 have g:=h.len;have j:=h.cap;by_cases d:c=i
 ·rw[if_pos d];obtain rfl:i=n:=AA
  rw[Nat.sub_self,<-g,List.drop_length];exact Za.nil _ _ _ _ AA
 rw[if_neg d];have:=h.part i (n-i) (c-i) AA AA AA;rwa [AQ (by rw[DC];omega)] at this
theorem symsP_sound(u:∀a non b n,f a non=some (b,n)->Stp G a non b n):
 ∀(ss:List Int) (a:WSt) (top:Nat) (b:WSt) (n:Nat),Wt f ss a top=some (b,n)->
  ∃ps c wd m,Fs G ss ps c wd m/\n=max top m/\a.rest=ps++b.rest/\b.word=a.word++wd/\b.posts=a.posts++c:=by
 intro ss
 induction ss with
 | nil =>
   intro a top b n h;simp only[Wt,BM,CZ] at h;obtain⟨rfl,rfl⟩:=h;exact⟨[],[],[],0,.nil,AA,AE,AE,AE⟩
 | cons s ss l =>
   intro a top b n h;unfold Wt at h;split at h
   ·rename_i h0;obtain⟨ps,c,wd,m,h1,k,d,g,j⟩:=l _ _ _ _ h;exact⟨ps,c,s::wd,m,.term h0 h1,k,d,by rw[g];simp,j⟩
   rename_i h0;split at h
   ·cases h
   rename_i A n1 t;obtain⟨i,r,y,z,w1,x,a1,a2,a3,v,o,p,q⟩:=u _ _ _ _ t;obtain⟨ps,c,wd,m,h1,k,d,g,j⟩:=l _ _ _ _ h;exact⟨_,_,_,_,.non AA a1 a2 a3 h1,AA,by rw[o,d];simp,by rw[g,p];simp,by rw[j,q];simp⟩
theorem Zz3:∀(q:Nat) (a:WSt) (non:Int) (b:WSt) (n:Nat),Y0 G q a non=some (b,n)->Stp G a non b n:=by
 intro q
 induction q with
 | zero=>intro a non b n h;cases h
 | succ q l =>
   intro a non b n h;unfold Y0 at h;split at h
   ·cases h
   rename_i i rest k;split at h
   ·cases h
   rename_i r hi;split at h
   ·rename_i j;cases c:Wt (Y0 G q) r.right { a with rest:=rest } 0 with
    | none=>rw[c] at h;cases h
    | some x =>
      obtain⟨s,t⟩:=x;rw[c] at h;simp only[Ek,BM,CZ] at h;obtain⟨rfl,rfl⟩:=h;obtain⟨ps,o,wd,m,h1,p,d,f,g⟩:=symsP_sound (λa non b n=>l a non b n) _ _ _ _ _ c;exact⟨i,r,ps,o,wd,m,hi,j,h1,AA,by rw[k];simp only[] at d;rw[d],f,by simp only[g,DQ]⟩
   cases h
end
section
open Go.Maps (Keyed IsMap Tidy)
theorem kB_inj{l b:List Int}(d:Zwx l)(f:Zwx b)(h:kB l n=kB b g):l=b/\n=g:=by
 unfold kB at h;simp only[Value.agg.injEq,Array.mk.injEq,List.cons.injEq,Value.string.injEq,Value.int.injEq,true_and,and_true] at h;have h1:=congrArg Zh h.1;rw[Vd _ λc a=>by have:=Dy d c a;omega,Vd _ λc a=>by have:=Dy f c a;omega] at h1;exact⟨Zwi d f h1,AA⟩
end
theorem InG.tail{l:List Int}(h:InG G (s::l)):InG G l:=λq a=>h q (BO _ a)
theorem Zv9:∀{t u:List Nat},(∀i∈t,i<(ksN G G.rules.length).length)->(∀i∈u,i<(ksN G G.rules.length).length)->t.map (Yr G)=u.map (Yr G)->t=u
 | [],[],_,_,_=>rfl
 | [],_::_,_,_,h=>by cases h
 | _::_,[],_,_,h=>by cases h
 | i::t,j::u,ht,hu,h=>by
   rw[CU,CU] at h;injection h with h1 h2;rw[Zzr (ht i (AX ..)) (hu j (AX ..)) h1,Zv9 (λi hi=>ht i (.tail _ hi)) (λi hi=>hu i (.tail _ hi)) h2]
end Go.Proofs.YtggbjdmpjidhgaaGreatDoor
