/- nullable: the reference's, walked. -/
import Derived.Test.YtaagompdgiobeaaGreatDoorV08
import Derived.Test.YtaagompdgiobeaaGreatDoorV09
import Derived.Test.YtaagompdgiobeaaGreatDoorV10
set_option linter.all false
set_option maxHeartbeats 1500000
set_option maxRecDepth 100000
namespace Go.Proofs.YtaagompdgiobeaaGreatDoor
open Go.RowKit Go.Proofs.Tryz
variable{G:Gr}{r:List (Value × Nat)}{s:Int}{v:Value}{b g n i:Nat}{ps:List MemPlace}{w:World}{cs:Array Value}{ops:Array Oper}{rest l:List Oper}{o:Oper}{a:Act}{Q:Exit->Act->World->Prop}{F:(Nat->Value)->Act}{D:Nat->Value->World->Prop}{fin:(Nat->Value)->World->Prop}{A:Option Addr}
theorem F7(left:Int)(Ar:Option Addr)(cr g n:Nat)(ss:List Int)(a:Int)(N:List Bool)(w:World)(v:Za .i64 w Ar ss.length cr ss)(l:Z8 w g N)(t:N.length=n)(u:n<=1000)(x:∀s∈ss,-(n:Int)<=s/\s<=1000):
 Calls prog 91 #[.agg #[.int .i64 left,.slice Ar ss.length cr,.int .i64 a],.slice (some ⟨g,0,none⟩) n n] w λe w'=>e = .returned (.bool (!ss.any (Cf N)))/\Below w w w':=by
 have d:=Zy w (.cells #[.int .i64 left,.slice Ar ss.length cr,.int .i64 a] 60);have p:=Fl.new w 60 left Ar ss.length cr a;go_enter func91,ntmps91;have b:=d.alloc d.size (.cells #[.slice (some ⟨g,0,none⟩) n n] 103);have q:=p.below (Zy _ (.cells #[.slice (some ⟨g,0,none⟩) n n] 103));have j:=Blk.new (w.alloc (.cells #[.int .i64 left,.slice Ar ss.length cr,.int .i64 a] 60)) 103 #[.slice (some ⟨g,0,none⟩) n n];have k:=Zl w (.cells #[.int .i64 left,.slice Ar ss.length cr,.int .i64 a] 60);rw[k] at j;have⟨z5,z0,z1,z2⟩:=q;clear k;go_wp2_with fail;generalize (w.alloc (.cells #[.int .i64 left,.slice Ar ss.length cr,.int .i64 a] 60)).alloc (.cells #[.slice (some ⟨g,0,none⟩) n n] 103)=c at *;have m:Zyw 151 #[.pointer (some ⟨w+1,0,none⟩)] (Value.int .i64) c ss (Cf N):=λs y w' f=>by
  have r:w'.cell? ⟨w+1,0,none⟩=some (.slice (some ⟨g,0,none⟩) n n):=by
   have:=Blk.cell (Blk.ext j f) 0;simpa using this
  exact (tr_within1 s (w.heap.size+1) g n N w' r (Blk.ext (Blk.ext l b) f) t u (x s y)).mono λe A h=>⟨h.1,by rw[<-h.2];exact AL _ _⟩
 refine (U1 Ar ss.length cr ss 151 _ (Cf N) c enters_within1 (v.below b) m).mono ?_;rintro e z⟨rfl,o⟩;go_wp2_with fail;go_ret;exact⟨rfl,Zz b o⟩
theorem Zte(h:GH)(G:Gr)(gf:FuncId)(ag:Array Value)(eg:∀args w,(callFunc gf args).run prog w = .ok (.enter gf args) w)(ids:Rul->List Bool->List Int)(g n:Nat)(d:List Bool)(z w:World)(J:Yf z h G)(al:Below z z w)(b3:z.heap.size<=g)(hn:n<=1000)(O:Z8 w g d)(V:d.length=n)(h3:h.n3<=1000)(ax:∀r∈G.rules,∀N,N.length=n->∀s∈ids r N,0<=s/\s<(n:Int))(a4:∀r∈G.rules,∀Ar cr N w',w.grownBy w' (some g)->Za .i64 w' Ar r.right.length cr r.right->Z8 w' g N->N.length=n->
   Calls prog gf (#[.agg #[.int .i64 r.left,.slice Ar r.right.length cr,.int .i64 r.prec],.slice (some ⟨g,0,none⟩) n n]++ag) w' λe bf=>Below w' w' bf/\∃A m c,e = .returned (.slice A m c)/\Za .i64 bf A m c (ids r N)/\Apart A g):
 Calls prog 148 #[GV h G.start,.slice (some ⟨g,0,none⟩) n n,.func (.func gf) #[] ag] w λe w' =>
  e = .returned (.slice (some ⟨g,0,none⟩) n n)/\w.grownBy w' (some g)/\Z8 w' g (Z3 (Yy ids G.rules) n d):=by
 obtain⟨a1,n1,c1,a2,n2,c2,a3,n3,c3⟩:=h;have e3:G.rules.length=n3:=J.rules.len;have k3:=J.rules.cap;simp only[] at h3 k3;have Hg:=LH J;have bs:=LH ax;have bv:=LH a4;have Z:=LH al;have av:=Xz (some g) (Zy w (.cells #[.slice a1 n1 c1,.slice a2 n2 c2,.slice a3 n3 c3,.int .i64 G.start] 26));have ar:=Y1.new w 26 ⟨a1,n1,c1,a2,n2,c2,a3,n3,c3⟩ G.start;have am:=Blk.new w 26 #[.slice a1 n1 c1,.slice a2 n2 c2,.slice a3 n3 c3,.int .i64 G.start];have ak:Z8 (w.alloc (.cells #[.slice a1 n1 c1,.slice a2 n2 c2,.slice a3 n3 c3,.int .i64 G.start] 26)) g d:=Blk.ext O (Zy _ _);have cm:g<w.heap.size:=O.lt;go_enter func148,ntmps148;have⟨z5,z0,z1,z2,z3⟩:=ar;simp only[] at z0 z1 z2 z3;go_wp2_with fail;generalize w.alloc (.cells #[.slice a1 n1 c1,.slice a2 n2 c2,.slice a3 n3 c3,.int .i64 G.start] 26)=W0 at *;go_loopg [7] (n+2) (λq v wr=>∃(m:Nat) (b:Bool),v = .bool b/\q+m=n+2/\Hid (b=true->m<=n)/\w.grownBy wr (some g)/\Blk wr w 26 #[.slice a1 n1 c1,.slice a2 n2 c2,.slice a3 n3 c3,.int .i64 G.start]/\Z8 wr g (Z3 (Yy ids G.rules) m d) /\
  Hid (b=false->Yy ids G.rules (Z3 (Yy ids G.rules) m d)=Z3 (Yy ids G.rules) m d))
 case atStart=>exact⟨0,true,rfl,AA,LH λ_=>AA,av,am,ak,LH λh=>by cases h⟩
 obtain⟨m,b,rfl,hq,Hm,k,l,a,aa⟩:=hrel;have x2:=Blk.cell l 2;simp only[DR,List.getElem?_cons_zero,List.getElem?_cons_succ] at x2;rcases (by cases b <;> simp:b=false\/b=true) with rfl | rfl
 ·have au:=aa rfl;have B:=(Wn ids G.rules).fix d;rw[V] at B;rw[iter_done B au] at a;have HT:=LH a;go_wp2_with fail;go_ret;exact⟨rfl,k,HT⟩
 have cp:=Hm rfl;go_wp2_with fail;have b0:(Z3 (Yy ids G.rules) m d).length=n:=by rw[Dw];exact V
 have ab:Hid (Yy ids G.rules (Z3 (Yy ids G.rules) m d)=Z3 (Yy ids G.rules) (m+1) d):=rfl;have bu:Hid (Yy ids G.rules (Z3 (Yy ids G.rules) m d)≠Z3 (Yy ids G.rules) m d->m<n):=LH λW=>by
  have B:=(Wn ids G.rules).fix d;rw[V] at B;exact iter_more B W
 generalize Z3 (Yy ids G.rules) m d=N at *;go_loopw [7,9,16] (λv _ i u=>∃(j:Nat),j<=n3/\i = .int .i64 (j:Int)/\v = .bool (L6 N (Yy ids (G.rules.take j) N))/\w.grownBy u (some g)/\Blk u w 26 #[.slice a1 n1 c1,.slice a2 n2 c2,.slice a3 n3 c3,.int .i64 G.start]/\Z8 u g (Yy ids (G.rules.take j) N)) (λ_ _ i _=>n3-(intOf i).toNat)
 case atStart=>exact⟨0,AS _,rfl,by rw[show Yy ids (G.rules.take 0) N=N from rfl,Zwk],k,l,a⟩
 obtain⟨j,hj,rfl,rfl,k,l,a⟩:=hrel;by_cases b6:j<n3
 ·obtain⟨bb,ca,r,Ar,cr,rfl,hb,Hr,q0,q1,q2,a6⟩:=Hg.rules.get b6;have ah:Below z z wr:=Z.trans (Zn k Z.size b3);rw[<-ah.cell (by exact hb)] at q0 q1 q2;have a0:=AN Hr;have T:(Yy ids (G.rules.take j) N).length=n:=by rw[Zzs];exact b0
  have C:Yy ids (G.rules.take (j+1)) N=Jz (Yy ids (G.rules.take j) N) (ids r (Yy ids (G.rules.take j) N)):=by rw[Ya Hr,Zwt];rfl
  have ay:LeB N (Yy ids (G.rules.take j) N):=passI_le ids _ N;have E:=LH C;have bt:=LH ay;generalize Yy ids (G.rules.take j) N=f at *;have F:=Zy wr (.cells #[.int .i64 r.left,.slice Ar r.right.length cr,.int .i64 r.prec] 60);have U:=Zc k (Xz (some g) F);have an:=Blk.ext l F;have P:Z8 (wr.alloc (.cells #[.int .i64 r.left,.slice Ar r.right.length cr,.int .i64 r.prec] 60)) g f:=Blk.ext a F;have a7:=(a6.below ah).below F;have a8:=Fl.new wr 60 r.left Ar r.right.length cr r.prec;have⟨u5,u0,u1,u2⟩:=a8;have hC:=bv r a0 Ar cr f _ U a7 P T;have hL:=bs r a0 f T;generalize ids r f=L at *;have Y:=LH hC;have HL:=LH hL;go_wp2_with (go_at_fn gf;refine Y.mono ?_;rintro e X⟨S,Ai,D,ci,rfl,H,aq⟩);generalize wr.alloc (.cells #[.int .i64 r.left,.slice Ar r.right.length cr,.int .i64 r.prec] 60)=W1 at *;have b4:=Zc U (Xz (some g) S);have ao:=Blk.ext an S;have R:Z8 X g f:=Blk.ext P S;have cj:L.length=D:=H.len;have ch:=H.cap;have HI:=LH H;have bl:=LH aq;have bq:=LH b4;have cn:g<X.heap.size:=R.lt;go_loopw [7,11,25] (λv _ i u=>∃(p:Nat),p<=D/\i = .int .i64 (p:Int)/\v = .bool (L6 N (Jz f (L.take p)))/\X.grownBy u (some g)/\Blk u w 26 #[.slice a1 n1 c1,.slice a2 n2 c2,.slice (some ⟨bb,ca,none⟩) n3 c3,.int .i64 G.start]/\Z8 u g (Jz f (L.take p))) (λ_ _ i _=>D-(intOf i).toNat)
  case atStart=>exact⟨0,AS _,rfl,rfl,Jl _ _,ao,R⟩
  obtain⟨p,hp,rfl,rfl,k,l,a⟩:=hrel;by_cases b7:p<D
  ·obtain⟨ib,io,s,rfl,b5,Hs,b8⟩:=HI.get b7;have W:=bl ib io rfl;have q3:=(Zrj k (b:=ib) (o:=io+p) b5 W).trans b8;obtain⟨s1,s2⟩:=HL s (AN Hs);obtain⟨t,rfl⟩:∃t:Nat,s=(t:Int):=⟨s.toNat,AA⟩;have C:Jz f (L.take (p+1))=(Jz f (L.take p)).set t true:=by rw[Ya Hs,Zw9];simp
   have b2:(Jz f (L.take p)).length=n:=by rw[Zwc];exact T
   have az:LeB N (Jz f (L.take p)):=bt.trans (F5 f _);have aw:=grew_set az (i:=t) AA;have ck:=a.at (i:=t) AA;have a5:=a.put t true;have cl:=Blk.frozen a t;have ap:=l.other g t (.bool true) AA;have E:=LH C;have br:=LH aw;have bw:=LH a5;have bk:=LH ap;have bp:=LH k;have cu:t<n:=AA
   generalize (Jz f (L.take p)).getD t false=x at *;generalize L6 N (Jz f (L.take p))=y at *;rcases (by cases y <;> simp:y=false\/y=true) with rfl | rfl;all_goals
    go_wp2_with fail;go_roundw
    case rel=>exact⟨p+1,AA,AF,by rw[E,br];simp,Zc bp (Zd _ _ _ _),bk,by rw[E];exact bw⟩
    simp[intOf];omega
  obtain rfl:p=D:=AA
  rw[AR AA] at a ⊢;rw[<-E] at a ⊢;go_wp2_with fail;go_roundw
  case rel=>exact⟨j+1,AA,AF,rfl,Zc bq k,l,a⟩
  simp[intOf];omega
 obtain rfl:j=n3:=AA
 rw[AR AA] at a ⊢;have bn:Hid (L6 N (Yy ids G.rules N)=true->m+1<=n):=LH λM=>by
  have:m<n:=bu (by intro I;rw[I,Zwk] at M;cases M);omega
 have bo:Hid (L6 N (Yy ids G.rules N)=false->Yy ids G.rules (Z3 (Yy ids G.rules) (m+1) d)=Z3 (Yy ids G.rules) (m+1) d):=LH λM=>by
  have I:Yy ids G.rules N=N:=by simpa [L6] using M
  rw[<-ab,I,I]
 generalize L6 N (Yy ids G.rules N)=y at *;rw[ab] at a;go_wp2_with fail;go_roundg (n+1-m)
 case rel=>exact⟨m+1,y,rfl,AA,bn,k,l,a,bo⟩
 omega
theorem tr_prod1(r:Rul)(Ar:Option Addr)(cr g n:Nat)(N:List Bool)(w:World)(D:Za .i64 w Ar r.right.length cr r.right)(p:Z8 w g N)(B:N.length=n)(C:n<=1000)(E:∀s∈r.right,-(n:Int)<=s/\s<=1000):
 Calls prog 149 #[.agg #[.int .i64 r.left,.slice Ar r.right.length cr,.int .i64 r.prec],.slice (some ⟨g,0,none⟩) n n] w λe w'=>Below w w w'/\∃A m c,e = .returned (.slice A m c)/\Za .i64 w' A m c (Bn r N)/\Apart A g:=by
 have F:g<w.heap.size:=p.lt;have l:=Zy w (.cells #[.int .i64 r.left,.slice Ar r.right.length cr,.int .i64 r.prec] 60);have y:=Fl.new w 60 r.left Ar r.right.length cr r.prec;have t:=Zty N r.right;go_enter func149,ntmps149;have⟨z5,z0,z1,z2⟩:=y;have a:=λw' (q:Below w w w')=>F7 r.left Ar cr g n r.right r.prec N w' (D.below q) (Blk.ext p q) B C E;generalize (!r.right.any (Cf N))=f at *;have k:Hid (Bn r N=if f then [r.left] else []):=LH (by unfold Bn;rw[t]);have u:=LH a;clear a t;go_wp2_with fail;generalize w.alloc (.cells #[.int .i64 r.left,.slice Ar r.right.length cr,.int .i64 r.prec] 60)=x at *;have a:=(u x l).mono λe w' j=>And.intro j.1 (And.intro (Jd j.2).1 (LH (Zz l j.2)));have v:=LH a;clear a;refine v.out.mono ?_;rintro e G⟨rfl,z,d⟩;have H:=(z _ 0 z5).trans z0;rcases (by cases f <;> simp:f=false\/f=true) with rfl | rfl
 ·go_wp2_with fail;go_ret;exact⟨d,none,0,0,rfl,by rw[k];exact Za.nil _ _ _ _ AA,λb o h=>by cases h⟩
 go_wp2_with fail;go_ret;refine⟨d.alloc d.size _,_,1,1,rfl,by rw[k];exact Ztd _ _ _,λb o h=>?_⟩;injection h with h;injection h with h _;have:=d.size;omega
theorem tr_reach1(r:Rul)(Ar:Option Addr)(cr g x d n:Nat)(N P:List Bool)(w:World)(I:Za .i64 w Ar r.right.length cr r.right)(D:Z8 w g N)(V:Z8 w x P)(H:w.cell? ⟨d,0,none⟩=some (.slice (some ⟨x,0,none⟩) n n))(hn:N.length=n)(ax:P.length=n)(aw:n<=1000)(hl:0<=r.left/\r.left<(n:Int))(J:∀s∈r.right,-(n:Int)<=s/\s<=1000)(a3:r.right.length<=1000):
 Calls prog 150 #[.agg #[.int .i64 r.left,.slice Ar r.right.length cr,.int .i64 r.prec],.slice (some ⟨g,0,none⟩) n n,.pointer (some ⟨d,0,none⟩)] w λe w'=>Below w w w'/\∃A m c,e = .returned (.slice A m c)/\Za .i64 w' A m c (Yp P r N)/\Apart A g:=by
 have a1:g<w.heap.size:=D.lt;have ap:d<w.heap.size:=World.block_lt_of_cell? w ⟨d,0,none⟩ H;have j:=Zy w (.cells #[.int .i64 r.left,.slice Ar r.right.length cr,.int .i64 r.prec] 60);have E:=Fl.new w 60 r.left Ar r.right.length cr r.prec;have ae:=Zty P r.right;obtain⟨a,Z⟩:∃a:Nat,r.left=(a:Int):=⟨r.left.toNat,AA⟩;have aq:a<n:=AA
 have W:(w.alloc (.cells #[.int .i64 r.left,.slice Ar r.right.length cr,.int .i64 r.prec] 60)).cell? ⟨g,a,none⟩=some (.bool (N.getD a false)):=Z8.at (Blk.ext D j) (by rw[hn];exact aq);have ab:(w.alloc (.cells #[.int .i64 r.left,.slice Ar r.right.length cr,.int .i64 r.prec] 60)).cell? ⟨d,0,none⟩=some (.slice (some ⟨x,0,none⟩) n n):=(j.cell (p:=⟨d,0,none⟩) ap).trans H;have f:=λw' (X:Below w w w')=>F7 r.left Ar cr x n r.right r.prec P w' (I.below X) (Blk.ext V X) ax aw J;have ad:Yp P r N=if N.getD a false&&Xj true P r.right then Uq r.right else []:=by unfold Yp Dr;rw[show r.left.toNat=a by omega]
 rw[ae] at f;have C:=LH ad;have S:=LH I;have z:=LH f;have Hs:=LH J;rw[Z] at W ab j E z;clear ad f ae I J D V H hl;rw[Z];go_enter func150,ntmps150;have⟨z5,z0,z1,z2⟩:=E;go_upto_region 1 with fail;generalize w.alloc (.cells #[.int .i64 (a:Int),.slice Ar r.right.length cr,.int .i64 r.prec] 60)=W0 at *;have O:=LH j;have f:=(z W0 j).mono λe w' G=>And.intro G.1 (And.intro (Jd G.2).1 (LH (Zz O G.2)));have M:=LH f;have a0:=S.cap;clear f z j E;generalize N.getD a false=y at *;generalize Xj true P r.right=L at *;rcases (by cases y <;> cases L <;> simp:y=false\/(y=true/\L=false)\/(y=true/\L=true)) with rfl | ⟨rfl,rfl⟩ | ⟨rfl,rfl⟩
 ·go_wp2_with fail;go_ret;exact⟨O,none,0,0,rfl,by rw[C];exact Za.nil _ _ _ _ AA,λb o h=>by cases h⟩
 ·go_wp2_with (go_at_call 91;refine M.out.mono ?_;rintro e w2⟨rfl,F,B⟩);go_ret;exact⟨B,none,0,0,rfl,by rw[C];exact Za.nil _ _ _ _ AA,λb o h=>by cases h⟩
 go_wp2_with (go_at_call 91;refine M.out.mono ?_;rintro e w2⟨rfl,F,B⟩;have x1:=(F _ 1 z5).trans z1);have ai:=LH Tryz.infoI64C;clear F x1 z0 z1 z2 z5 W ab;go_loopw [5,23] (λv i wr=>∃(k m c:Nat) (A:Option Addr),v = .slice A m c/\i = .int .i64 (k:Int)/\k<=r.right.length/\m<=k/\Hid (m=(Uq (r.right.take k)).length)/\Hid (wr.ownsRow w 3 1 (.slice A m c) m (ints .i64 (Uq (r.right.take k))))/\Hid (Below w w wr)) (λ_ i _=>r.right.length-(intOf i).toNat)
 case atStart=>exact⟨0,0,0,none,rfl,rfl,AS _,AJ _,LH rfl,LH (BN _ _ _ _),B⟩
 obtain⟨k,m,c,A,rfl,rfl,hk,hm,R,u,q⟩:=hrel;have ao:w.heap.size<=wr.heap.size:=q.size;by_cases ar:k<r.right.length
 ·obtain⟨sb,so,s,rfl,a6,T,qs⟩:=(S.below q).get ar;have a5:=Hs s (AN T);have l:=Zxl T;by_cases U:s<0
  ·have a7:IntKind.i64.wrap (-1-s)=-1-s:=Cc _ AA;rw[if_pos U] at l;have t:=LH l;clear l;go_wp2_with (first
    | (at_builtin;refine Ye rfl _ _ 30 rfl w 3 _ 1 8 underlying30 ai AC AC A m c (ints .i64 (Uq (r.right.take k))) rfl u [.int .i64 (-1-s)] rfl rfl (by simp[Value.oneCell']) AA AA AA ?_;intro A4 c4 w4 ho Y ha
       have aj:=LH ho;have ag:=LH (X6 q Y u ao);clear ho Y ha))
   go_roundw
   case rel=>exact⟨k+1,m+1,c4,A4,rfl,AF,AA,AA,LH (by rw[t,R];simp),LH (by rw[t,Gj];exact aj),ag⟩
   simp[intOf];omega
  rw[if_neg U] at l;have t:=LH l;clear l;go_wp2_with fail;go_roundw
  case rel=>exact⟨k+1,m,c,A,rfl,AF,AA,AA,LH (by rw[t];exact R),LH (by rw[t];exact u),q⟩
  simp[intOf];omega
 have Hf:Hid (Za .i64 wr A m c (Yp P r N)):=LH (by
  have:=Yl u;rw[AR AA] at this;rw[C];exact this)
 go_wp2_with fail;go_ret;refine⟨q,A,m,c,rfl,Hf,λb o h=>?_⟩;have:=u.lt b (by rw[h];rfl);omega
theorem K9(G:Gr):(Z5 G).length=G.nons.length:=by
 unfold Z5;have:∀k,(Z3 (Yy (Yp (Zt G)) G.rules) k (Xv G)).length=(Xv G).length:=λk=>Dw _ _ _ k;rw[this];unfold Xv;simp
theorem use_closed(G:Gr)(f:G.Fits):∀i t,(Qm G).testBit i=true->((Yz G).getD i 0).testBit t=true->(Qm G).testBit t=true:=by
 intro i t hi u;rw[Gl G f] at hi ⊢;have m:Yy (Yp (Zt G)) G.rules (Z5 G)=Z5 G:=by
  have:=(Wn (Yp (Zt G)) G.rules).fix (Xv G);have a:(Xv G).length=G.nons.length:=by unfold Xv;simp
  rw[a] at this;exact this
 refine Zva (λi t=>((Zt G).getD i false=true/\(Z5 G).getD i false=true)->(Zt G).getD t false=true/\(Z5 G).getD t false=true) (Zj G) (Zt G) G.rules (λr l k s q d hi=>?_) _ (λi t h=>?_) i t u hi
 ·unfold Xk at d;simp only[AU,decide_eq_true_eq] at d;obtain⟨⟨h0,_⟩,j⟩:=d;have c:=AN q;have v:=f.sym r l s c;refine⟨?_,?_⟩
  ·have b:=j;unfold Xj at b;rw[BG] at b;have:=b s c;rwa [if_neg AA] at this
  have g:=Ge (Yp (Zt G)) G.rules m r l;have n:Dr (Zt G) r (Z5 G)=true:=by unfold Dr;rw[hi.2,j];rfl
  have o:Yp (Zt G) r (Z5 G)=Uq r.right:=by unfold Yp;rw[if_pos n]
  rw[o] at g;have p:-1-s∈Uq r.right:=by
   unfold Uq;rw[CW];exact⟨s,List.mem_filter.2 ⟨c,by rw[BA];exact h0⟩,rfl⟩
  have:=Zxo (Uq r.right) (N:=Z5 G) p (by rw[K9];omega);rw[g] at this;exact this
 rw[AP] at h;rcases BD i G.nons.length with a | a
 ·simp[a] at h
 simp[BE,a] at h
theorem reach_fix(G:Gr):Yy (Yp (Zt G)) G.rules (Z5 G)=Z5 G:=by
 have:=(Wn (Yp (Zt G)) G.rules).fix (Xv G);have a:(Xv G).length=G.nons.length:=by unfold Xv;simp
 rw[a] at this;exact this
theorem C9(d:G.Fits){r:Rul}(b:r∈G.rules)(j:(Z5 G).getD r.left.toNat false=true)(h:Xj true (Zt G) r.right=true)(c:s∈r.right)(h0:s<0):(Z5 G).getD (Zp s) false=true:=by
 have a:=Ge (Yp (Zt G)) G.rules (reach_fix G) r b;have f:Dr (Zt G) r (Z5 G)=true:=by unfold Dr;rw[j,h];rfl
 have g:Yp (Zt G) r (Z5 G)=Uq r.right:=by unfold Yp;rw[if_pos f]
 rw[g] at a;have k:=d.sym r b s c;have:=Zxo (Uq r.right) (N:=Z5 G) (Zur.2 ⟨s,c,h0,rfl⟩) (by rw[K9];omega);rw[a] at this;exact this
theorem Qz(b:G.Fits){r:Rul}(f:r∈Yh G)(c:s∈r.right)(h0:s<0):Zp s∈Ze G:=by
 obtain⟨h1,d,a⟩:=Fq.1 f;rw[N0 b];exact⟨(U8.1 a s c).2 h0,C9 b h1 d a c h0⟩
theorem red_ruleOK(g:G.Fits){r:Rul}(k:r∈Yh G)(h:G.ruleOK r=true):(Zi G).ruleOK (Wb (Ze G) r)=true:=by
 unfold Gr.ruleOK at h ⊢;simp only[AU,decide_eq_true_eq,BG] at h ⊢;obtain⟨⟨h1,d⟩,f⟩:=h;refine⟨⟨by simp[Wb,h1],d⟩,λp l=>?_⟩;obtain⟨s,c,rfl⟩:=CW.1 l;have a:=f s c;have b:=Qz g k c;unfold Gr.symOK at a ⊢;rw[AU] at a ⊢;by_cases h0:s<0
 ·have n:=(Mk s b).2 h0;have o:=G8 h0 (b h0);have m:=Df (Ze G) (Zp s);refine⟨?_,?_⟩
  ·unfold Gr.has;rw[if_neg AA,BA];show -1-Xd (Ze G) s<(((Ze G).map (Ws G)).length:Int);rw[BI];have:(Zp (Xd (Ze G) s):Int)=-1-Xd (Ze G) s:=by unfold Zp;omega
   omega
  have:decide (0<=Xd (Ze G) s)=false:=by rw[AZ];omega
  rw[this];rfl
 have j:Xd (Ze G) s=s:=by unfold Xd;rw[if_neg h0]
 rw[j];refine⟨?_,a.2⟩;have:=a.1;unfold Gr.has at this ⊢;rw[if_pos AA] at this ⊢;exact this
theorem Zxn(xs ys:List Nat)(i:Nat):Lim (V4 xs ys i).1:=by
 induction i with
 | zero=>exact Lim.nil
 | succ i a=>exact a.append (Lim.mk (Nat.mod_lt _ AC) Lim.nil)
theorem Z1.over(w:World){z:Nat}(h:¬z<big):Z1 w none 0 0 true z:=by
 unfold Z1;rw[Wl h];exact⟨rfl,Zq.nil _ _ _ _ AA⟩
section
open Go.RowKit Go.Maps
theorem cf_terms(A:Option Addr)(n c:Nat)(l:List Trm)(w:World)(h:N8 w A n c l)(hn:n<=1000)(V:∀t∈l,t.name.size<=maxLen):
 Calls prog 81 #[.slice A n c] w λe w'=>e = .returned (.bool (H0 l))/\Below w w w':=by
 obtain rfl:=h.len;have a3:=h.cap;have Hs:=LH V;have Hh:=LH h;clear V;go_enter func81,ntmps81;go_wp2_with fail;go_loopw [4,7] (λ_ i wr=>∃(k:Nat),k<=l.length/\i = .int .i64 (k:Int)/\Below w w wr/\Hid (∀j,j<k->∀y,l[j]? = some y->(!Up y)=false)) (λ_ i _=>l.length-(intOf i).toNat)
 case atStart=>exact⟨0,AS _,rfl,AL _ _,LH λj hj=>AA⟩
 obtain⟨k,hk,rfl,f,N⟩:=hrel;by_cases ar:k<l.length
 ·obtain⟨b,a6,t,rfl,hb,C,q0,q1,q2⟩:=h.get ar;rw[<-f.cell (by exact hb)] at q0 q1 q2;have W:=Hs.out t (AN C.out);have G:=f.alloc f.size (.cells #[.string t.name,.int .i64 t.level,.int .i64 t.assoc] 140);have p0:=Wg wr 140 #[.string t.name,.int .i64 t.level,.int .i64 t.assoc] 0;have v:=Wg wr 140 #[.string t.name,.int .i64 t.level,.int .i64 t.assoc] 1;have J:=Wg wr 140 #[.string t.name,.int .i64 t.level,.int .i64 t.assoc] 2;have p5:=Zl wr (.cells #[.string t.name,.int .i64 t.level,.int .i64 t.assoc] 140);simp only[DR,List.getElem?_cons_zero,List.getElem?_cons_succ] at p0 v J;go_wp2_with fail;generalize wr.alloc (.cells #[.string t.name,.int .i64 t.level,.int .i64 t.assoc] 140)=O at *;have m:wr.heap.size<O.heap.size:=AA
  clear p5 q0 q1 q2;generalize wr.heap.size=gt at *;have q:=LH ((cf_named t.name O W).mono λe w' I=>And.intro I.1 (And.intro (Jd I.2).1 (LH (G.trans (I.2.mono G.size)))));have P:=λw=>Jx t.level 0 24 w;have R:=λw=>Jx t.assoc 0 3 w;have U:Up t=(Q7 t.name&&Yb t.level 0 24&&Yb t.assoc 0 3&&(decide (t.level=0)==decide (t.assoc=0))):=rfl;have X:Yb t.level 0 24=true->0<=t.level/\t.level<=24:=Ud;have Y:Yb t.assoc 0 3=true->0<=t.assoc/\t.assoc<=3:=Ud;have s:=LH U;clear U;generalize Q7 t.name=g at *;generalize Yb t.level 0 24=u at *;generalize Yb t.assoc 0 3=D at *;have z:=LH P;have L:=LH R;have ak:=LH X;have a0:=LH Y;clear P R W G X Y;have aw:g=false\/(g=true/\u=false)\/(g=true/\u=true/\D=false)\/(g=true/\u=true/\D=true):=by cases g <;> cases u <;> cases D <;> simp
  have T:Up t=false->H0 l=false:=λhf=>by
   have:=Jy (p:=Up) C.out hf;unfold H0;rw[this];rfl
  have r:=LH T;clear T;rcases aw with rfl | ⟨rfl,rfl⟩ | ⟨rfl,rfl,rfl⟩ | ⟨rfl,rfl,rfl⟩
  ·go_wp2_with (go_at_call 139;(with_reducible refine q.out.mono ?_);rintro e x⟨rfl,d,a⟩);go_ret;exact⟨by rw[r.out (by rw[s.out];rfl)];rfl,a.out⟩
  ·go_wp2_with (first
    | (go_at_call 139;(with_reducible refine q.out.mono ?_);rintro e x⟨rfl,d,a⟩;have aa:=(d _ 1 m).trans v)
    | (go_at_call 82;(with_reducible refine (z.out _).mono ?_);rintro e w4⟨rfl,rfl⟩))
   go_ret;exact⟨by rw[r.out (by rw[s.out];rfl)];rfl,a.out⟩
  ·have Hy:=ak.out rfl;go_wp2_with (first
    | (go_at_call 139;(with_reducible refine q.out.mono ?_);rintro e x⟨rfl,d,a⟩;have aa:=(d _ 1 m).trans v;have ax:=(d _ 2 m).trans J)
    | (go_at_call 82;(with_reducible refine (z.out _).mono ?_);rintro e w4⟨rfl,rfl⟩)
    | (go_at_call 82;(with_reducible refine (L.out _).mono ?_);rintro e w5⟨rfl,rfl⟩))
   go_ret;exact⟨by rw[r.out (by rw[s.out];rfl)];rfl,a.out⟩
  have ap:((t.level==0)=true/\(t.assoc==0)=true/\Up t=true)\/((t.level==0)=false/\(t.assoc==0)=false/\Up t=true)\/((t.level==0)=true/\(t.assoc==0)=false/\Up t=false)\/((t.level==0)=false/\(t.assoc==0)=true/\Up t=false):=by
   rw[BW,BW,AQ,AQ,s.out];by_cases g1:t.level=0 <;> by_cases g2:t.assoc=0 <;> simp[g1,g2]
  rcases ap with ⟨E,F,o⟩ | ⟨E,F,o⟩ | ⟨E,F,o⟩ | ⟨E,F,o⟩;all_goals
   have Hx:=LH o;clear o;go_wp2_with (first
    | (go_at_call 139;(with_reducible refine q.out.mono ?_);rintro e x⟨rfl,d,a⟩;have aa:=(d _ 1 m).trans v;have ax:=(d _ 2 m).trans J)
    | (go_at_call 82;(with_reducible refine (z.out _).mono ?_);rintro e w4⟨rfl,rfl⟩)
    | (go_at_call 82;(with_reducible refine (L.out _).mono ?_);rintro e w5⟨rfl,rfl⟩))
   first
    | (go_ret;exact⟨by rw[r.out Hx.out];rfl,a.out⟩)
    | (go_roundw
       case rel=>exact⟨k+1,AA,AF,a.out,LH (Vz N.out C.out (by rw[Hx.out];rfl))⟩
       simp[intOf];omega)
 obtain rfl:k=l.length:=AA
 have H:l.all Up=true:=Cv λj y Z=>by
  have:=N.out j (AO.1 Z).1 y Z;simpa using this
 have ah:=LH H;have M:Hid (H0 l=(decide (l.length<=24)&&Jh l)):=LH (by unfold H0;rw[H];rfl);clear H;by_cases S:l.length<=24
 ·have CL:=LH (cf_levels A l.length c l wr (Hh.out.below f) hn λt ht=>by
   have:=Kp ((BG.1 ah.out) t ht);exact⟨this.2.1,this.2.2.1,this.2.2.2.1,this.2.2.2.2.1⟩)
  have B:Hid (H0 l=Jh l):=LH (by rw[M.out,DW S];rfl);go_wp2_with (go_at_call 140;(with_reducible refine CL.out.mono ?_);rintro e x⟨rfl,ao⟩);go_ret;exact⟨by rw[B.out];rfl,Zz f ao⟩
 have B:Hid (H0 l=false):=LH (by rw[M.out,BR S];rfl);go_wp2_with fail;go_ret;exact⟨by rw[B.out];rfl,f⟩
theorem J4(h:GH)(G:Gr)(w:World)(u:Yf w h G)(hs:∀t∈G.terms,t.name.size<=maxLen)(h1:h.n1<=100)(h2:h.n2<=100):
 Calls prog 38 #[GV h G.start] w λe w'=>e = .returned (.bool G.right)/\Below w.heap.size w w':=by
 rw[<-right_same];obtain⟨a1,n1,c1,a2,n2,c2,a3,n3,c3⟩:=h;have e1:G.terms.length=n1:=u.terms.len;have e2:G.nons.length=n2:=u.nons.len;have e3:G.rules.length=n3:=u.rules.len;have k1:=u.terms.cap;have g:=u.rules.cap;simp only[] at h1 h2 k1 g;have L:=LH u;have Hs:=LH hs;have a4:Hid (G.rightP=(G.aheadP&&!(G.nons.any λs=>!Xi (Zh s))&&decide (G.leftsGo G.rules (-1)=some ((n2:Int)-1)))):=LH (by unfold Gr.rightP;rw[e2]);have aw:Hid (G.aheadP=(H0 G.terms&&Yb n2 1 16&&Yb n3 1 40&&decide G.names.Nodup&&Yb G.start 0 ((n2:Int)-1))):=LH (by unfold Gr.aheadP;rw[e2,e3]);clear hs;have ai:=Zy w (.cells #[.slice a1 n1 c1,.slice a2 n2 c2,.slice a3 n3 c3,.int .i64 G.start] 26);have ak:=Y1.new w 26 ⟨a1,n1,c1,a2,n2,c2,a3,n3,c3⟩ G.start;go_enter func38,ntmps38;have⟨z5,z0,z1,z2,z3⟩:=ak;simp only[] at z0 z1 z2 z3;go_wp2_with fail;generalize w.alloc (.cells #[.slice a1 n1 c1,.slice a2 n2 c2,.slice a3 n3 c3,.int .i64 G.start] 26)=o at *;have P:=L.out.below ai;(with_reducible refine (clone_strs a2 n2 c2 G.nons o P.nons AA).mono ?_);rintro e w2⟨A2,C2,rfl,x,m⟩;have bf:=ak.below m;have⟨y5,y0,y1,y2,y3⟩:=bf;simp only[] at y0 y1 y2 y3;clear z0 z1 z2 z3;go_wp2_with fail;go_loopw [3,5,15] (λv _ i wr=>∃(k:Nat) (A:Option Addr) (c:Nat),k<=n1/\i = .int .i64 (k:Int)/\v = .slice A (n2+k) c/\wr.ownsRow o.heap.size 9 1 (.slice A (n2+k) c) (n2+k) ((G.nons++(G.terms.take k).map Trm.name).map Value.string)/\Below o.heap.size o wr) (λ_ _ i _=>n1-(intOf i).toNat)
 case atStart=>exact⟨0,A2,C2,AS _,rfl,rfl,by simpa using x,m⟩
 clear x m bf y0 y1 y2 y3 y5;obtain⟨k,A,c,hk,rfl,rfl,x,m⟩:=hrel;by_cases R:k<n1
 ·obtain⟨b,bu,t,rfl,l,Ht,S,U,V⟩:=P.terms.get R;rw[<-m.cell (by exact l)] at S U V;have cu:o.heap.size<=wr.heap.size:=m.size;have z:=m.alloc cu (.cells #[.string t.name,.int .i64 t.level,.int .i64 t.assoc] 140);have bm:=x.alloc (.cells #[.string t.name,.int .i64 t.level,.int .i64 t.assoc] 140);have p0:=Wg wr 140 #[.string t.name,.int .i64 t.level,.int .i64 t.assoc] 0;have p5:=Zl wr (.cells #[.string t.name,.int .i64 t.level,.int .i64 t.assoc] 140);simp only[DR,List.getElem?_cons_zero,List.getElem?_cons_succ] at p0;have cv:o.heap.size<=(wr.alloc (.cells #[.string t.name,.int .i64 t.level,.int .i64 t.assoc] 140)).heap.size:=AA
  go_wp2_with (at_builtin;refine Vc (w:=wr.alloc (.cells #[.string t.name,.int .i64 t.level,.int .i64 t.assoc] 140)) rfl _ _ 23 rfl o.heap.size 9 (.string ByteArray.empty) 16 underlying23 Tryz.infoStr rfl _ (n2+k) _ _ rfl bm (.string t.name) (by rw[p5];rfl) rfl AA AA AA ?_;intro A4 c4 w4 ho cw);go_roundw
  case rel=>exact⟨k+1,A4,c4,AA,AF,by rw[DZ],by rw[names_take G Ht.out];exact ho,X6 z cw bm cv⟩
  simp[intOf];omega
 obtain rfl:k=n1:=AA
 rw[AR AA] at x;have bl:Js wr A (n2+k) c G.names:=Yl x;have bd:=ai.trans (m.mono ai.size);have q:=ak.below m;have⟨x5,x0,x1,x2,x3⟩:=q;simp only[] at x0 x1 x2 x3;have bg:∀j,Below wr.heap.size wr j->Y1 j w.heap.size ⟨a1,k,c1,a2,n2,c2,a3,n3,c3⟩ G.start:=λj l=>q.below l;have CT:=LH ((cf_terms a1 k c1 G.terms wr (P.terms.below m) AA Hs.out).mono λe w' a=>And.intro a.1 (And.intro (Jd a.2).1 (LH a.2)));have cA:=λj (l:Below wr.heap.size wr j)=>(cf_alone A (n2+k) c G.names j (bl.below l) AA).mono λe w' a=>And.intro a.1 (And.intro (Jd a.2).1 (LH (Zz l a.2)));have a8:=λw=>Jx (n2:Int) 1 16 w;have a9:=λw=>Jx (n3:Int) 1 40 w;have ba:=λw=>Jx G.start 0 ((n2:Int)-1) w;have br:Yb (n2:Int) 1 16=true->1<=(n2:Int)/\(n2:Int)<=16:=Ud;have bs:Yb (n3:Int) 1 40=true->1<=(n3:Int)/\(n3:Int)<=40:=Ud;have dh:IntKind.i64.wrap ((n2:Int)-1)=(n2:Int)-1:=Cc _ AA;have ci:=LH P;generalize H0 G.terms=p at *;generalize Yb (n2:Int) 1 16=y at *;generalize Yb (n3:Int) 1 40=F at *;generalize decide G.names.Nodup=M at *;generalize Yb G.start 0 ((n2:Int)-1)=b5 at *;have CA:=LH cA;have X:=LH a8;have Y:=LH a9;have Z:=LH ba;have cm:=LH br;have cn:=LH bs;have ay:=LH bg;have I:=LH bd;clear cA a8 a9 ba br bs bg bd x u bl q R hk;have cz:((p=false)\/(p=true/\y=false)\/(p=true/\y=true/\F=false)\/(p=true/\y=true/\F=true/\M=false)\/(p=true/\y=true/\F=true/\M=true/\b5=false))\/(p=true/\y=true/\F=true/\M=true/\b5=true):=by cases p <;> cases y <;> cases F <;> cases M <;> cases b5 <;> simp
 rcases cz with H | ⟨rfl,rfl,rfl,rfl,rfl⟩
 ·have az:Hid (G.rightP=false):=LH (by
   rw[a4.out,aw.out];rcases H with rfl | ⟨rfl,rfl⟩ | ⟨rfl,rfl,rfl⟩ | ⟨rfl,rfl,rfl,rfl⟩ | ⟨rfl,rfl,rfl,rfl,rfl⟩ <;> simp)
  rcases H with rfl | ⟨rfl,rfl⟩ | ⟨rfl,rfl,rfl⟩ | ⟨rfl,rfl,rfl,rfl⟩ | ⟨rfl,rfl,rfl,rfl,rfl⟩;all_goals
   go_wp2_with (first
    | (go_at_call 81;(with_reducible refine CT.out.mono ?_);rintro e j⟨rfl,f,d⟩;have B:=(f _ 1 x5).trans x1;have p2:=(f _ 2 x5).trans x2;have C:=(f _ 3 x5).trans x3)
    | (go_at_call 82;(with_reducible refine (X.out _).mono ?_);rintro e w4⟨rfl,rfl⟩)
    | (go_at_call 82;(with_reducible refine (Y.out _).mono ?_);rintro e w5⟨rfl,rfl⟩)
    | (go_at_call 82;(with_reducible refine (Z.out _).mono ?_);rintro e w6⟨rfl,rfl⟩)
    | (go_at_call 83;(with_reducible refine (CA.out _ d.out).mono ?_);rintro e w7⟨rfl,n,D⟩;have r1:=(n _ 1 (AK x5 d.out.size)).trans B;have r3:=(n _ 3 (AK x5 d.out.size)).trans C))
   go_ret
   first
    | exact⟨by rw[az.out];rfl,Zz I.out D.out⟩
    | exact⟨by rw[az.out];rfl,Zz I.out d.out⟩
 have a0:Hid (G.rightP=(!(G.nons.any λs=>!Xi (Zh s))&&decide (G.leftsGo G.rules (-1)=some ((n2:Int)-1)))):=LH (by rw[a4.out,aw.out];simp);have df:=cm.out rfl;have dg:=cn.out rfl;have hC:=λj (l:Below wr.heap.size wr j)=>(sl_contains_strs a2 n2 c2 G.nons 85 #[] (λs=>!Xi (Zh s)) j enters_right1 ((ci.out.nons.below m).below l) (λs _ w' _=>(cf_right1 s w').mono λe w' a=>⟨a.1,by rw[<-a.2];exact AL _ _⟩)).mono λe w' a=>And.intro a.1 (And.intro (Jd a.2).1 (LH (Zz l a.2)));generalize (G.nons.any λs=>!Xi (Zh s))=b6 at *;have HC:=LH hC;clear hC;rcases (by cases b6 <;> simp:b6=true\/b6=false) with rfl | rfl
 ·go_wp2_with (first
   | (go_at_call 81;(with_reducible refine CT.out.mono ?_);rintro e j⟨rfl,f,d⟩;have B:=(f _ 1 x5).trans x1;have p2:=(f _ 2 x5).trans x2;have C:=(f _ 3 x5).trans x3)
   | (go_at_call 82;(with_reducible refine (X.out _).mono ?_);rintro e w4⟨rfl,rfl⟩)
   | (go_at_call 82;(with_reducible refine (Y.out _).mono ?_);rintro e w5⟨rfl,rfl⟩)
   | (go_at_call 82;(with_reducible refine (Z.out _).mono ?_);rintro e w6⟨rfl,rfl⟩)
   | (go_at_call 83;(with_reducible refine (CA.out _ d.out).mono ?_);rintro e w7⟨rfl,n,D⟩;have r1:=(n _ 1 (AK x5 d.out.size)).trans B;have r3:=(n _ 3 (AK x5 d.out.size)).trans C)
   | (go_at_call 84;(with_reducible refine (HC.out _ D.out).mono ?_);rintro e w8⟨rfl,bj,E⟩))
  go_ret;exact⟨by rw[a0.out];rfl,Zz I.out E.out⟩
 have ce:Hid (G.rightP=decide (G.leftsGo G.rules (-1)=some ((n2:Int)-1))):=LH (by rw[a0.out];simp);go_wp2_with (first
  | (go_at_call 81;(with_reducible refine CT.out.mono ?_);rintro e j⟨rfl,f,d⟩;have B:=(f _ 1 x5).trans x1;have p2:=(f _ 2 x5).trans x2;have C:=(f _ 3 x5).trans x3)
  | (go_at_call 82;(with_reducible refine (X.out _).mono ?_);rintro e w4⟨rfl,rfl⟩)
  | (go_at_call 82;(with_reducible refine (Y.out _).mono ?_);rintro e w5⟨rfl,rfl⟩)
  | (go_at_call 82;(with_reducible refine (Z.out _).mono ?_);rintro e w6⟨rfl,rfl⟩)
  | (go_at_call 83;(with_reducible refine (CA.out _ d.out).mono ?_);rintro e w7⟨rfl,n,D⟩;have r1:=(n _ 1 (AK x5 d.out.size)).trans B;have r3:=(n _ 3 (AK x5 d.out.size)).trans C)
  | (go_at_call 84;(with_reducible refine (HC.out _ D.out).mono ?_);rintro e w8⟨rfl,bj,E⟩;have⟨v5,v0,v1,v2,v3⟩:=ay.out w8 E.out;simp only[] at v0 v1 v2 v3))
 have bh:=ay.out w8 E.out;have bc:=Zz I.out E.out;clear v5 v0 v1 v2 v3 B p2 C r1 r3 f n bj x5 x0 x1 x2 x3;go_loopw [6,8,64] (λnx _ i wz=>∃(g:Nat) (T:Int),g<=n3/\i = .int .i64 (g:Int)/\nx = .int .i64 (T+1)/\-1<=T/\T<=1000/\Hid (G.leftsGo (G.rules.take g) (-1)=some T)/\Below w.heap.size w wz/\Y1 wz w.heap.size ⟨a1,k,c1,a2,n2,c2,a3,n3,c3⟩ G.start) (λ_ _ i _=>n3-(intOf i).toNat)
 case atStart=>exact⟨0,-1,AS _,rfl,rfl,AA,AA,LH rfl,bc,bh⟩
 clear bh bc;obtain⟨g,T,dc,rfl,rfl,c9,da,HT,O,q⟩:=hrel;have⟨z5',z0,z1,z2,z3⟩:=q;simp only[] at z0 z1 z2 z3;by_cases R:g<n3
 ·obtain⟨b,bu,r,Ar,cr,rfl,l,Hr,S,U,V,bn⟩:=L.out.rules.get R;rw[<-O.cell (by exact l)] at S U V;have bo:=L.out.wf r (AN Hr.out);have z:=O.alloc O.size (.cells #[.int .i64 r.left,.slice Ar r.right.length cr,.int .i64 r.prec] 60);have al:=q.below (Zy wr (.cells #[.int .i64 r.left,.slice Ar r.right.length cr,.int .i64 r.prec] 60));have bt:=Fl.new wr 60 r.left Ar r.right.length cr r.prec;have p5:=Zl wr (.cells #[.int .i64 r.left,.slice Ar r.right.length cr,.int .i64 r.prec] 60);go_wp2_with fail;generalize wr.alloc (.cells #[.int .i64 r.left,.slice Ar r.right.length cr,.int .i64 r.prec] 60)=W1 at *;have⟨s5,s0,s1,s2,s3⟩:=al;have⟨u5,u0,u1,u2⟩:=bt;simp only[] at s0 s1 s2 s3 u0 u1 u2;clear S U V z0 z1 z2 z3 q;generalize wr.heap.size=gr at *;have cR:=cf_rule ⟨a1,k,c1,a2,n2,c2,some ⟨b,bu,none⟩,n3,c3⟩ G r Ar cr W1 (L.out.below z) (bn.below z) bo (by simp only[];omega) (by simp only[];omega);have cW:=λw=>Jx r.left 0 (T+1) w;have H:=@leftsP_bad G g r T Hr.out HT.out;have bk:=@leftsP_good G g r T Hr.out HT.out;have bq:Yb r.left 0 (T+1)=true->0<=r.left/\r.left<=T+1:=Ud;generalize Yb r.left 0 (T+1)=N at *;generalize G.ruleOK r=b8 at *;have CR:=LH (cR.mono λe w' a=>And.intro a.1 (And.intro (Jd a.2).1 (LH a.2)));have W:=LH cW;have ax:=LH H;have cg:=LH bk;have ck:=LH bq;have aa:=LH z;have cl:=LH al;clear cR cW H bk bq bo bn z al bt;rcases (by cases N <;> cases b8 <;> simp:(N=false)\/(N=true/\b8=false)\/(N=true/\b8=true)) with rfl | ⟨rfl,rfl⟩ | ⟨rfl,rfl⟩
  ·go_wp2_with (go_at_call 82;(with_reducible refine (W.out _).mono ?_);rintro e w9⟨rfl,rfl⟩);go_ret;exact⟨by rw[ax.out rfl];rfl,aa.out⟩
  ·go_wp2_with (first
    | (go_at_call 82;(with_reducible refine (W.out _).mono ?_);rintro e w9⟨rfl,rfl⟩)
    | (go_at_call 87;(with_reducible refine CR.out.mono ?_);rintro e c6⟨rfl,bi,J⟩))
   go_ret;exact⟨by rw[ax.out rfl];rfl,Zz aa.out J.out⟩
  have di:=ck.out rfl;have aj:=cg.out rfl rfl;have db:=G.leftsGo_bd _ _ _ AA aj;have dd:(G.rules.take (g+1)).length<=40:=by rw[BS];omega
  have cd:=LH aj;clear aj;have de:max (T+1) (r.left+1)=max T r.left+1:=AA
  go_wp2_with (first
   | (go_at_call 82;(with_reducible refine (W.out _).mono ?_);rintro e w9⟨rfl,rfl⟩)
   | (go_at_call 87;(with_reducible refine CR.out.mono ?_);rintro e c6⟨rfl,bi,J⟩;have v0:=(bi _ 0 u5).trans u0))
  go_roundw
  case rel=>exact⟨g+1,max T r.left,AA,AF,rfl,AA,AA,cd,Zz aa.out J.out,cl.out.below J.out⟩
  simp[intOf];omega
 obtain rfl:g=n3:=AA
 have ad:=HT.out;rw[AR AA] at ad;have cf:Hid (G.rightP=(T+1==(n2:Int))):=LH (by
  rw[ce.out,ad,Cs,BA,BW];constructor
  ·intro h;injection h with h;omega
  intro h;congr 1;omega)
 clear ad;go_wp2_with fail;go_ret;exact⟨by rw[cf.out];rfl,O⟩
end
theorem N4(h:GH)(G:Gr)(w:World)(d:Yf w h G)(S:∀t∈G.terms,t.name.size<=maxLen)(F:h.n1<=100)(H:h.n2<=100)(I:h.n3<=100):
 Calls prog 88 #[GV h G.start] w λe w'=>Below w w w' /\
  ((G.right=false/\e = .returned (.slice none 0 0))\/(G.right=true/\∃g,w.heap.size<=g/\e = .returned (.slice (some ⟨g,0,none⟩) h.n2 h.n2)/\Z8 w' g (Zt G))):=by
 obtain⟨a1,n1,c1,a2,n2,c2,a3,n3,c3⟩:=h;have m:G.nons.length=n2:=d.nons.len;have T:=d.nons.cap;simp only[] at F H I T;have p:=Zy w (.cells #[.slice a1 n1 c1,.slice a2 n2 c2,.slice a3 n3 c3,.int .i64 G.start] 26);have x:=Y1.new w 26 ⟨a1,n1,c1,a2,n2,c2,a3,n3,c3⟩ G.start;have P:=Nt n2 AA;go_enter func88,ntmps88;have⟨z5,z0,z1,z2,z3⟩:=x;simp only[] at z0 z1 z2 z3;go_wp2_with fail;generalize w.alloc (.cells #[.slice a1 n1 c1,.slice a2 n2 c2,.slice a3 n3 c3,.int .i64 G.start] 26)=E at *;(refine (J4 ⟨a1,n1,c1,a2,n2,c2,a3,n3,c3⟩ G E (d.below p) S (by simp only[];omega) (by simp only[];omega)).mono ?_);rintro e b⟨rfl,v⟩;have j:=Zz p v;have M:=x.below v;have⟨y5,y0,y1,y2,y3⟩:=M;simp only[] at y0 y1 y2 y3;rcases l:G.right with _ | _
 ·go_wp2_with fail;go_ret;exact⟨j,.inl ⟨l,rfl⟩⟩
 have k:=Gr.fits l;have D:=LH l;have V:=LH k;have u:=Z8.new b (List.replicate n2 false);have a:=Zy b (.cells (Qk (List.replicate n2 false)).toArray 4);have z:=d.below j;have B:=λW c J=>Zte ⟨a1,n1,c1,a2,n2,c2,a3,n3,c3⟩ G 149 #[] enters_prod1 Bn b n2 (List.replicate n2 false) b W z J (AJ _) AA c AE (by simp only[];omega)
  (λr n N q s f=>by
    unfold Bn at f;split at f
    ·rw[BP] at f;subst f;have:=k.left r n;rw[m] at this;exact this
    cases f)
  (λr n Ar cr N w' _ R q O=>tr_prod1 r Ar cr b n2 N w' R q O AA (by have:=k.symB n;rwa [m] at this))
 have o:=LH B;clear l k B d z;go_wp2_with fail;go_region_with (go_at_call 148;refine (o.out _ ?_ ?_).mono ?_;exact u;exact⟨a.os,a.tape,a.output,a.size,a.block⟩;rintro e U⟨rfl,A,c⟩)
 all_goals
  have L:Below b b U:=by
   refine Below.trans ?_ (Zn A a.size (AJ _));exact⟨a.os,a.tape,a.output,a.size,a.block⟩
  have y:Zt G=Z3 (Yy Bn G.rules) n2 (List.replicate n2 false):=by rw[Zy0];unfold Zt U5;rw[m]
  rw[<-y] at c;have C:=LH c;clear c y A o u a P y0 y1 y2 y3 z0 z1 z2 z3;go_wp2_with fail;go_ret;exact⟨Zz j L,.inr ⟨D,b.heap.size,j.size,rfl,C⟩⟩
theorem tr_Reachable(h:GH)(G:Gr)(w:World)(v:Yf w h G)(hs:∀t∈G.terms,t.name.size<=maxLen)(C:h.n1<=100)(Y:h.n2<=100)(h3:h.n3<=100):
 Calls prog 89 #[GV h G.start] w λe w'=>Below w w w' /\
  ((G.right=false/\e = .returned (.slice none 0 0))\/(G.right=true/\∃g,w.heap.size<=g/\e = .returned (.slice (some ⟨g,0,none⟩) h.n2 h.n2)/\Z8 w' g (Z5 G))):=by
 obtain⟨a1,n1,c1,a2,n2,c2,a3,n3,c3⟩:=h;have j:G.nons.length=n2:=v.nons.len;have k2:=v.nons.cap;simp only[] at C Y h3 k2;have Z:=Zy w (.cells #[.slice a1 n1 c1,.slice a2 n2 c2,.slice a3 n3 c3,.int .i64 G.start] 26);have J:=Y1.new w 26 ⟨a1,n1,c1,a2,n2,c2,a3,n3,c3⟩ G.start;have bj:=Nt n2 AA;have B:=LH v;have W:=LH hs;clear v hs;go_enter func89,ntmps89;have⟨z5,z0,z1,z2,z3⟩:=J;simp only[] at z0 z1 z2 z3;go_wp2_with fail;generalize w.alloc (.cells #[.slice a1 n1 c1,.slice a2 n2 c2,.slice a3 n3 c3,.int .i64 G.start] 26)=W0 at *;(refine (J4 ⟨a1,n1,c1,a2,n2,c2,a3,n3,c3⟩ G W0 (B.out.below Z) W.out (by simp only[];omega) (by simp only[];omega)).mono ?_);rintro e W1⟨rfl,aj⟩;have D:=Zz Z aj;have L:=J.below aj;clear z0 z1 z2 z3 z5 J;have⟨y5,y0,y1,y2,y3⟩:=L;simp only[] at y0 y1 y2 y3;rcases z:G.right with _ | _
 ·go_wp2_with fail;go_ret;exact⟨D,.inl ⟨z,rfl⟩⟩
 have R:=Gr.fits z;have bs:=R.st;have V:=LH z;have p:=LH R;obtain⟨b,aq⟩:∃b:Nat,G.start=(b:Int):=⟨G.start.toNat,AA⟩;have bh:b<n2:=AA
 have U:=LH aq;clear aq;have X:=(N4 ⟨a1,n1,c1,a2,n2,c2,a3,n3,c3⟩ G W1 (B.below D) W (by simp only[];omega) (by simp only[];omega) (by simp only[];omega)).mono λe w' hh=>And.intro hh.1 (hh.2.resolve_left λhc=>by rw[V] at hc;cases hc.1).2;have CP:=LH X;clear z R X;go_wp2_with fail;refine CP.out.mono ?_;rintro e d⟨ak,c,bq,rfl,E⟩;have aa:=Zz D ak;have M:=L.below ak;have br:c<d.heap.size:=E.lt;have u:=Zy d (.cells #[.slice (some ⟨c,0,none⟩) n2 n2] 103);have ae:=Blk.new d 103 #[.slice (some ⟨c,0,none⟩) n2 n2];have ai:Z8 (d.alloc (.cells #[.slice (some ⟨c,0,none⟩) n2 n2] 103)) c (Zt G):=Blk.ext E u;have O:=M.below u;have bm:=Zl d (.cells #[.slice (some ⟨c,0,none⟩) n2 n2] 103);clear y0 y1 y2 y3 y5 L;go_upto_region 4 with fail;generalize d.alloc (.cells #[.slice (some ⟨c,0,none⟩) n2 n2] 103)=k at *;generalize y:d.heap.size=a at *;have q:=Z8.new k (List.replicate n2 false);have l:=Zy k (.cells (Qk (List.replicate n2 false)).toArray 4);have ab:=ae.ext l;have ag:Z8 (k.alloc (.cells (Qk (List.replicate n2 false)).toArray 4)) c (Zt G):=Blk.ext ai l;have al:=O.below l;have⟨y5,y0,y1,y2,y3⟩:=O;simp only[] at y0 y1 y2 y3;have H:=u.trans (l.mono AA);go_upto_region 5 with fail;generalize k.alloc (.cells (Qk (List.replicate n2 false)).toArray 4)=W3 at *;generalize bp:k.heap.size=gI at *;obtain rfl:gI=a+1:=bm;clear y0 y1 y2 y3 y5;have⟨y5,y0,y1,y2,y3⟩:=al;simp only[] at y0 y1 y2 y3;rw[U] at y3;have bd:=Blk.frozen q b;have bc:=q.at (i:=b) (by simpa using bh);have S:=q.put b true;have av:Xv G=(List.replicate n2 false).set b true:=by unfold Xv;rw[j,U];rfl
 rw[<-av] at S;have bl:(Xv G).length=n2:=by unfold Xv;simp[j]
 have ad:=ab.other (a+1) b (.bool true) AA;have ah:Z8 (W3.setCell ⟨(a+1),b,none⟩ (.bool true)) c (Zt G):=Blk.other ag (a+1) b (.bool true) AA;have I:=H.trans (Zn (Zd W3 (a+1) b (.bool true)) (by have:=H.size;omega) AA);have am:Y1 (W3.setCell ⟨(a+1),b,none⟩ (.bool true)) w ⟨a1,n1,c1,a2,n2,c2,a3,n3,c3⟩ G.start:=M.below (by rw[y];exact I);have a6:=LH S;have ay:=LH ad;have az:=LH ah;have A:=LH I;have a5:=LH am;have f:=LH aa;have be:(a+1)≠a:=AA
 have bf:(a+1)≠c:=AA
 clear S al ab ag O q l ae ai u H bj ad ah I am aa M av E;go_upto_region 6 with fail;generalize W3.setCell ⟨(a+1),b,none⟩ (.bool true)=W4 at *;clear y0 y1 y2 y3 y5 bd bc;have⟨y5,y0,y1,y2,y3⟩:=a5.out;simp only[] at y0 y1 y2 y3;have hq:=Zte ⟨a1,n1,c1,a2,n2,c2,a3,n3,c3⟩ G 150 #[.pointer (some ⟨a,0,none⟩)] enters_reach1 (Yp (Zt G)) (a+1) n2 (Xv G) d W4 (B.below f) (by rw[y];exact A) AA AA a6 bl (by simp only[];omega)
  (λr n N hN s o=>by
    unfold Yp at o;split at o
    ·unfold Uq at o;obtain⟨x,T,rfl⟩:=CW.1 o;rw[List.mem_filter] at T;have C:=p.sym r n x T.1;have Y:x<0:=by simpa using T.2
     rw[j] at C;omega
    cases o)
  (λr n Ar cr N w' m bk hN hl=>tr_reach1 r Ar cr (a+1) c a n2 N (Zt G) w' bk hN (Blk.grown az m (by intro e;injection e with e;exact bf e.symm)) ((ay.grown m (by intro e;injection e with e;exact be e.symm)).cell 0) hl (by rw[Vx];exact j) AA (by have:=p.left r n;rw[j] at this;exact this) (by have:=p.symB n;rwa [j] at this) (by have:=p.len r n;omega))
 have HQ:=LH hq;clear hq;go_wp2_with fail;refine HQ.out.mono ?_;rintro e W5⟨rfl,m,F⟩;have ao:Z5 G=Z3 (Yy (Yp (Zt G)) G.rules) n2 (Xv G):=by unfold Z5;rw[j]
 rw[<-ao] at F;have HT:=LH F;have ax:=LH ((f.trans (A.mono (by rw[<-y];exact f.size))).trans (Zn m (f.trans (A.mono (by rw[<-y];exact f.size))).size (by have:=f.size;omega)));have bg:w.heap.size<=(a+1):=by have:=f.size;omega
 clear F ao m y0 y1 y2 y3 y5;go_wp2_with fail;go_ret;exact⟨ax,.inr ⟨V,(a+1),bg,rfl,HT⟩⟩
section
open Go.Maps (Keyed IsMap Tidy)
theorem mulP_lim(x:Nat)(ys b:List Nat)(k:Nat):Lim (Vn x ys b k).1:=by
 induction k with
 | zero=>exact Lim.nil
 | succ k a=>exact a.append (Lim.mk (Nat.mod_lt _ AC) Lim.nil)
theorem Zx0(x:Nat)(ys a:List Nat)(i k:Nat)(h:Lim a):Lim (Us x ys a i k) :=
 ((h.take _).append (mulP_lim _ _ _ _)).append (h.drop _)
theorem ptrR_block(h:ptrR v=some (.lit (.int .i64 (b:Int)),ps)):v = .pointer (some ⟨b,0,none⟩):=by
 unfold ptrR at h;split at h
 ·cases h
 ·simp only[BX,DN,DataW.lit.injEq,Lit.int.injEq,true_and] at h;obtain⟨h,_⟩:=h;rw[Int.ofNat.inj h]
 cases h
theorem ptrR_nil(h:ptrR v=some (.nil,ps)):v = .pointer none:=by
 unfold ptrR at h;split at h
 ·rfl
 ·cases h
 cases h
end
section
open Go.Maps (Keyed IsMap Tidy)
variable {P:Program} {k:TypeId}
theorem Zu8(K:Keyed P k)(a:U4 P k v):∀r:List (Value × Nat),(∀p∈r,U4 P k p.1)->
 (v∈r.map (·.1)->∃b,(v,b)∈r/\(Np P k r).atKey (litK P k v) .nil = .lit (.int .i64 (b:Int)))/\(v∉r.map (·.1)->(Np P k r).atKey (litK P k v) .nil = .nil)
 | [],_=>⟨λh=>(by cases h),λ_=>by unfold Np;exact Maps.atKey_of_not_has (by simp[Maps.has_eq]) _⟩
 | p::r,hg=>by
   have c:=hg p (By ..);have d:=Zu8 K a r (λq j=>hg q (BO _ j));rw[CU];by_cases e:v=p.1
   ·refine⟨λ_=>⟨p.2,by rw[e];exact By ..,?_⟩,λh=>absurd (by rw[e];exact By ..) h⟩;subst e;unfold Np;exact Maps.atKey_put_same (D3 r) (K.key a.lit) _ _
   refine⟨λh=>?_,λh=>?_⟩
   ·obtain⟨b,g,f⟩:=d.1 ((BZ.1 h).resolve_left e);refine⟨b,BO _ g,?_⟩;unfold Np;rw[Maps.atKey_put_other (Ztc K a c e)];exact f
   rw[BZ,not_or] at h;unfold Np;rw[Maps.atKey_put_other (Ztc K a c e)];exact d.2 h.2
theorem Vv.ne_blk{t:TypeId}(h:Vv P k w g r)(a:Blk w b t cs):b≠g:=by
 rintro rfl;obtain⟨d,clock,c,_⟩:=h.own;unfold Blk at a;rw[c] at a;cases a
theorem Vv.look(h:Vv P k w g r)(K:Keyed P k)(a:v∈r.map (·.1)):
 ∃b,(v,b)∈r/\(Np P k r).atKey (litK P k v) .nil = .lit (.int .i64 (b:Int)):=by
 obtain⟨p,d,e⟩:=CW.1 a;have c:=h.good p d;rw[e] at c;exact (Zu8 K c r h.good).1 a
theorem Vv.look_at{t e:Nat}(h:Vv P k w g r)(K:Keyed P k)(j:P.underlying t=some (.map k e))(m:(zeroValue e).run P w = .ok (.pointer none) w)(d:(v,b)∈r)(c:(Np P k r).atKey (litK P k v) .nil = .lit (.int .i64 (b:Int))):
 (Instr.lookup t (.map (some g)) v false).run P w = .ok (.pointer (some ⟨b,0,none⟩)) w:=by
 have l:=h.good _ d;obtain⟨u,ps,f,a⟩:=h.own.lookup K j m (zd := .nil) (zp:=[]) rfl l.lit;rw[c] at a;rw[f,ptrR_block a]
theorem Vv.look_none{t e:Nat}(h:Vv P k w g r)(K:Keyed P k)(f:P.underlying t=some (.map k e))(j:(zeroValue e).run P w = .ok (.pointer none) w)(b:U4 P k v)(c:v∉r.map (·.1)):
 (Instr.lookup t (.map (some g)) v false).run P w = .ok (.pointer none) w:=by
 obtain⟨u,ps,d,a⟩:=h.own.lookup K f j (zd := .nil) (zp:=[]) rfl b.lit;rw[(Zu8 K b r h.good).2 c] at a;rw[d,ptrR_nil a]
theorem Vv.put{t e:Nat}(h:Vv P k w g r)(K:Keyed P k)(n:P.underlying t=some (.map k e))(j:Maps.size (Np P k r)<maxLen)(c:U4 P k v):
 ∃w',(Instr.mapUpdate t (.map (some g)) v (.pointer (some ⟨b,0,none⟩))).run P w = .ok () w'/\Vv P k w' g ((v,b)::r)/\w.grownBy w' (some g):=by
 obtain⟨w',m,l,f⟩:=h.own.update K n j c.lit (val := .pointer (some ⟨b,0,none⟩)) (d := .lit (.int .i64 (b:Int))) (ps:=[]) rfl;refine⟨w',m,⟨own_tight l,λp a=>?_⟩,f⟩;rcases BZ.1 a with e | a
 ·rw[e];exact c
 exact h.good p a
theorem D7(w:World)(l:o.guard=none)(m x y:Operand)(t:TypeId)(p:o.op=Op.mapUpdate t m x y)(e g b:Nat)(K:Keyed P k)(s:P.underlying t=some (.map k e))(h:Vv P k w g r)(n:Maps.size (Np P k r)<maxLen)(v:Value)(u:U4 P k v)(h1:a.eval m = .map (some g))(c:a.eval x=v)(d:a.eval y = .pointer (some ⟨b,0,none⟩))(f:∀w',Vv P k w' g ((v,b)::r)->w.grownBy w' (some g)->wpList P ops Q rest (a.put o.dst undef) w'):wpList P ops Q (o::rest) a w:=by
 refine wpList_plain l λB j=>?_;obtain⟨w',q,z,A⟩:=h.put (b:=b) K s n u;unfold Oper.wp;simp[execOp,p,h1,c,d,q,Result.andThen];exact j _ _ (f w' z A)
end
section
open Go.Maps (Keyed IsMap Tidy)
open Go.Maps (Keyed IsMap Tidy)
theorem Za.tail1{d c:Nat}{a:List Int}(h:Za .i64 w (some ⟨b,d,none⟩) n c (s::a)):
 Za .i64 w (if c=1 then some ⟨b,d,none⟩ else some ⟨b,d+1,none⟩) (n-1) (c-1) a:=by
 have g:=h.len;have l:=h.cap;rw[AY] at g;by_cases f:c=1
 ·rw[if_pos f];have j:a=[]:=BJ AA;subst j;rw[show n-1=0 by omega];exact Za.nil _ _ _ _ AA
 rw[if_neg f];have:=h.part 1 (n-1) (c-1) AA AA AA;have e:((s::a).drop 1).take (n-1)=a:=by
  show a.take (n-1)=a;exact AR AA
 rw[e] at this;exact this
end
section
variable {P:Program} {M:World->Prop} {R:World->World->Prop}
def Zk(P:Program)(M:World->Prop)(R:World->World->Prop)(F:(Nat->Value)->Act)(D:Nat->Value->World->Prop):Nat->List Oper->Prop
 | _,[]=>True
 | i,o::rest=>(o.guard=none/\(∀u v,(F u).put o.dst v=F (upd u i v))/\∀(Q:Exit->Act->World->Prop) (u:Nat->Value) (X:World),M X->(∀p,onB o p=true->D p (u p) X)->
    ∀K:Act->World->Prop,(∀v a,M a->R X a->D i v a->K ((F u).put o.dst v) a)->o.wp P (F u) X K Q)/\Zk P M R F D (i+1) rest
theorem Zk.nil:Zk P M R F D i []:=trivial
theorem Zk.cons(b:o.guard=none)(c:∀u v,(F u).put o.dst v=F (upd u i v))(h:∀(Q:Exit->Act->World->Prop) (u:Nat->Value) (X:World),M X->(∀p,onB o p=true->D p (u p) X)->∀K:Act->World->Prop,(∀v a,M a->R X a->D i v a->K ((F u).put o.dst v) a)->o.wp P (F u) X K Q)(t:Zk P M R F D (i+1) rest):Zk P M R F D i (o::rest):=⟨⟨b,c,h⟩,t⟩
theorem Zk.con(h:∀(Q:Exit->Act->World->Prop) (u:Nat->Value) (X:World),M X->(∀p,onB o p=true->D p (u p) X)->∀K:Act->World->Prop,(∀v a,M a->R X a->D i v a->K ((F u).put o.dst v) a)->o.wp P (F u) X K Q)(t:Zk P M R F D (i+1) rest)(b:o.guard=none:=by rfl)(c:∀u v,(F u).put o.dst v=F (upd u i v):=by exact λ_ _=>rfl):Zk P M R F D i (o::rest):=Zk.cons b c h t
theorem Zk.steps(y:∀i v X g,D i v X->R X g->D i v g)(k:Zti l n=true)(N:n<=l.length):
 ∀(m:List Oper) (i:Nat),(∀j,j<m.length->m[j]? = l[i+j]?)->i+m.length=n->Zk P M R F D i m->∀rest,Xc P (JF l n M F D fin) n rest->Xc P (JF l n M F D fin) i (m++rest)
 | [],i,_,hl,_,rest,hr=>by
   have:i=n:=by simpa using hl
   subst this;exact hr
 | o::m,i,hm,hl,hs,rest,hr=>by
   have I:i<n:=by simp only[AY] at hl;omega
   have O:l[i]? = some o:=by simpa using (hm 0 AE).symm
   refine Xc.cons hs.1.1 (λQ listed a X C T S K E=>?_) (Zk.steps y k N m (i+1) (λj b=>by have:=hm (j+1) AG;simpa [DZ,Eo 1 j] using this) (by simp only[AY] at hl;omega) hs.2 rest hr);obtain⟨u,rfl,B,z,hd,V,Y⟩:=C;obtain⟨r,H⟩:=Zu4 T;have f:listed.getD n false=false:=by
    cases x:listed.getD n false with
    | false=>rfl
    | true =>
      unfold Zti at k;rw[CJ,BA] at k;rcases k with h | h
      ·subst h;rw[<-B] at x;simp[Array.getD] at x
      have:=D9 z _ _ _ (BG.1 h i (BQ.2 I)) x;rw[H] at this;cases this
   have t:∀p,onB o p=true->listed.getD p false=true:=λp c=>by
    obtain⟨e,G,q,rfl⟩:=Zyf.1 c;exact S e G q
   refine hs.1.2.2 Q u X (V f) (λp c=>hd p (λh=>by subst h;have:=t p c;rw[f] at this;cases this) (t p c) f) K λv g L q U=>?_;refine E _ _ ⟨upd u i v,hs.1.2.1 u v,by simpa using B,λj W s b p c=>?_,λj J b _=>?_,λ_=>L,λh=>?_⟩
   ·rw[Uj r] at b ⊢;by_cases A:p=i
    ·rw[if_pos A]
    rw[if_neg A];by_cases d:j=i
    ·subst d;rw[O] at s;obtain rfl:=BH s;exact t p c
    rw[if_neg d] at b;exact z j W s b p c
   ·rw[Uj r] at b;unfold upd;by_cases d:j=i
    ·subst d;rw[if_pos rfl];exact U
    rw[if_neg d] at b ⊢;exact y j _ X g (hd j J b f) q
   rw[Uj r,if_neg AA,f] at h;cases h
theorem Xh{id:Nat}{t:Oper}(M:World->Prop)(R:World->World->Prop)(F:(Nat->Value)->Act)(u0:List Value)(D:List (Value->World->Prop))(fin:(Nat->Value)->World->Prop)(N:P.follows .mixedOrders=true)(r:Zvw (l++[t]).toArray=true)(f:Zti (l++[t]) l.length=true)(V:t.guard=none)(I:a=F λi=>u0.getD i undef)(H:M w.drew)(E:Zwm R D)(T:Zk P M R F (atL D) 0 l)(U:∀(Q:Exit->Act->World->Prop) u X,M X->(∀i,i<l.length->atL D i (u i) X)->∀K:Act->World->Prop,(∀g k,fin g k->K (F g) k)->t.wp P (F u) X K Q)(s:∀u X,fin u X->Q .normal (F u) X):(Code.region id (l++[t]).toArray true).wp P Q a w:=by
 have ab:(l++[t]).length=l.length+1:=AE
 refine H6 (JF (l++[t]) l.length M F (atL D) fin) N r ⟨_,I,AE,λi o _ h=>?_,λi _ h _=>?_,λ_=>H,λh=>?_⟩ ?_ λlisted a X m q=>?_
 ·simp[Array.getD] at h
 ·simp[Array.getD] at h
 ·simp[Array.getD] at h
 ·refine Zk.steps (l:=l++[t]) (n:=l.length) (fin:=fin) E.at f AA l 0 (λj c=>by rw[BF,DB c]) (BF _) T [t] ?_;refine Xc.cons V (λQ listed a X m Y S K G=>?_) Xc.nil;obtain⟨u,rfl,C,J,hd,Z,y⟩:=m;obtain⟨b,z⟩:=Zu4 Y;have O:∀p,onB t p=true->listed.getD p false=true:=λp d=>by
   obtain⟨e,s,r,rfl⟩:=Zyf.1 d;exact S e s r
  have W:(l++[t])[l.length]? = some t:=by rw[BV (AJ _),Nat.sub_self];rfl
  have x:∀i o,(l++[t])[i]? = some o->(listed.setIfInBounds l.length true).getD i false=true->∀p,onB o p=true->(listed.setIfInBounds l.length true).getD p false=true:=λj oj v c p d=>by
   rw[Uj b] at c ⊢;by_cases B:p=l.length
   ·rw[if_pos B]
   rw[if_neg B];by_cases A:j=l.length
   ·subst A;rw[W] at v;obtain rfl:=BH v;exact O p d
   rw[if_neg A] at c;exact J j oj v c p d
  have q:∀i,i<l.length->listed.getD i false=true:=λi hi=>by
   unfold Zti at f;rw[CJ,BA] at f;rcases f with h | h
   ·omega
   have:=D9 x _ _ _ (BG.1 h i (BQ.2 hi)) (by rw[Uj b,if_pos rfl]);rwa [Uj b,if_neg AA] at this
  refine U Q u X (Z z) (λi hi=>hd i AA (q i hi) z) K λg k L=>?_;refine G _ _ ⟨g,rfl,by simpa using C,x,λj _ _ h=>?_,λh=>?_,λ_=>L⟩
  ·rw[Uj b,if_pos rfl] at h;cases h
  rw[Uj b,if_pos rfl] at h;cases h
 obtain⟨u,rfl,C,_,_,_,y⟩:=m;refine s u X (y ?_);have h1:=q l.length AA;have b:l.length<listed.size:=AA
 simp only[Array.getD,dif_pos b] at h1 ⊢;exact h1
end
theorem D6{W:World}{c:Nat}{d:List Int}(h:Za .i64 W A n c d)(hi:i<=n):∃At:Option Addr,
 (∀w:World,(Instr.sliceAt 30 (.slice A n c) (some (.int .i64 (i:Int))) none none).run prog w = .ok (.slice At (n-i) (c-i)) w)/\Za .i64 W At (n-i) (c-i) (d.drop i):=by
 have g:=h.len;have r:=h.cap;rcases BY n with rfl | l
 ·obtain rfl:i=0:=AA
  have m:d=[]:=BJ g;subst m;refine⟨A,λw=>?_,Za.nil _ _ _ _ AA⟩;rcases A with _ | a
  ·go_simp
  by_cases p:c=0
  ·go_simp
  have q:¬((c:Int)<0):=AA
  go_simp
 obtain⟨b,k,s,rfl,o,_,_⟩:=h.get (j:=0) l;refine⟨if c=i then some ⟨b,k,none⟩ else some ⟨b,k+i,none⟩,λw=>?_,?_⟩
 ·have t:¬((n:Int)<(i:Int)):=AA
  go_simp
 by_cases f:c=i
 ·rw[if_pos f];obtain rfl:i=n:=AA
  rw[Nat.sub_self,<-g,List.drop_length];exact Za.nil _ _ _ _ AA
 rw[if_neg f];have:=h.part i (n-i) (c-i) AA AA AA;rwa [AR (by rw[BT];omega)] at this
theorem Gv(xs b:List Nat)(i:Nat):Lim (Xn xs b i).1:=by
 induction i with
 | zero=>exact Lim.nil
 | succ i a=>exact a.append (Lim.mk (Nat.mod_lt _ AC) Lim.nil)
theorem Zup(xs l:List Nat)(g:Lim xs)(b:Lim l)(i:Nat)(h1:xs.length<=i)(a:l.length<=i):
 (Xn xs l i).2=if val xs<val l then 1 else 0:=by
 have h:=Zt3 xs l g b i h1 a;have j:=Qi xs l i;have f:=Ui _ (Gv xs l i);rw[Mj] at f;have k:val l<4294967296 ^ i:=AK (Ui l b) (CV AC a);generalize (Xn xs l i).2=c at *;generalize (4294967296:Nat) ^ i=B at *;have d:c=0\/c=1:=AA
 rcases d with rfl | rfl
 ·rw[if_neg AA]
 rw[if_pos AA]
theorem Zyj(xs f:List Nat)(b:Lim xs)(c:Lim f)(i:Nat)(h1:xs.length<=i)(a:f.length<=i)(h:val f<=val xs):
 val (Xn xs f i).1=val xs-val f:=by
 have d:=Zt3 xs f b c i h1 a;rw[Zup xs f b c i h1 a,if_neg AA] at d;omega
theorem twP_lim(xs:List Nat)(b k:Nat):Lim (twP xs b k).1:=by
 induction k with
 | zero=>exact Lim.nil
 | succ k a=>exact a.append (Lim.mk (Nat.mod_lt _ AC) Lim.nil)
section
open Ieee
open Go.Maps (Keyed IsMap Tidy)
theorem kB_inj{l b:List Int}(d:Zwx l)(f:Zwx b)(h:kB l n=kB b g):l=b/\n=g:=by
 unfold kB at h;simp only[Value.agg.injEq,Array.mk.injEq,List.cons.injEq,Value.string.injEq,Value.int.injEq,true_and,and_true] at h;have h1:=congrArg Zh h.1;rw[Vd _ λc a=>by have:=Dy d c a;omega,Vd _ λc a=>by have:=Dy f c a;omega] at h1;exact⟨Zwi d f h1,AA⟩
end
