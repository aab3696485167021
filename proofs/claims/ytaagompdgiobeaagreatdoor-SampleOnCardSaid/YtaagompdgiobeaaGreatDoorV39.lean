/- sample, plainly: what words draw of a grammar's trees. -/
import Derived.Test.YtaagompdgiobeaaGreatDoorV27
import Derived.Test.YtaagompdgiobeaaGreatDoorV33
import Derived.Test.YtaagompdgiobeaaGreatDoorV34
set_option linter.all false
set_option maxHeartbeats 1500000
set_option maxRecDepth 100000
namespace Go.Proofs.YtaagompdgiobeaaGreatDoor
open Go.RowKit Go.Proofs.Tryz
variable{G:Gr}{n:Int}{b f:List Nat}{l:List (List Nat)}{a:Nat}
theorem SomGo.used{i:Nat}(h:SomGo G n b i l a):a<=b.length:=by
 induction h with
 | nil=>exact AS _
 | step h1 c d =>
   have:=c.used;rw[BT] at this;omega
theorem SomGo.get{j:Nat}(h:SomGo G n f j l a):∀{i:Nat},i<j->∀{b:Nat},SomGo G n f i (l.take i) b->
 ∃d u,l[i]? = some d/\L3 G n (f.drop b) d u 0/\SomGo G n f (i+1) (l.take (i+1)) (b+u):=by
 induction h with
 | nil=>intro i hi;omega
 | @step q l at_ d v h1 g t =>
   have k:=h1.len;intro i hi b c;by_cases s:i<q
   ·rw[Eh AA] at c;obtain⟨o,u,m,p,r⟩:=t s c;refine⟨o,u,?_,p,?_⟩
    ·rw[DB AA];exact m
    rw[Eh AA];exact r
   obtain rfl:i=q:=AA
   rw[Eh AA,AR AA] at c;obtain⟨_,rfl⟩:=h1.one c;refine⟨d,v,?_,g,?_⟩
   ·rw[BV AA,k,Nat.sub_self];rfl
   rw[AR (by rw[AV,k];exact AJ _)];exact .step h1 g
theorem Zro.fin{k:Int}(h:Zro G n k b l a 0):SomGo G n b k.toNat l a:=by
 rcases h with ⟨_,_,_,e⟩ | ⟨_,h,_⟩ | ⟨_,_,_,i,f,d,g,j,_,_,_,c⟩
 ·cases e
 ·exact h
 exact absurd rfl c
theorem Zro.err{k:Int}{c:Nat}(h:Zro G n k f l a c)(d:c≠0):l=[]/\a=0:=by
 rcases h with ⟨_,h1,b,_⟩ | ⟨_,_,e⟩ | ⟨_,h1,b,_⟩
 ·exact⟨h1,b⟩
 ·exact absurd e d
 exact⟨h1,b⟩
theorem L3.tree{g:List Nat}{k:Nat}(h:L3 G n g f k 0):f.length<=300/\∃wd ps q,Xl G (Zrc f)=some (wd,ps,q)/\(wd.length:Int)=n:=by
 rcases h with ⟨a,_,_,e⟩ | ⟨_,_,_,_,e⟩ | ⟨_,_,a,_,_,e⟩ | ⟨a,b,c,o,e,j,⟨d,_,_,l⟩ | ⟨rfl,rfl,_⟩⟩
 ·exact absurd e.symm a
 ·cases e
 ·exact absurd e.symm a
 ·exact absurd l.symm d
 have u:0<=n:=by
  rcases j with ⟨_,_,e⟩ | ⟨_,b,_,e⟩ | ⟨_,_,_,_,e⟩ | ⟨a,_⟩
  ·cases e
  ·exact absurd e.symm b
  ·cases e
  exact Int.not_lt.1 λh=>a (.inr (.inl h))
 obtain⟨m,rfl⟩:∃m:Nat,n=(m:Int):=⟨n.toNat,AA⟩;have r:Lim (X5 (Z2 G (m:Int)).1 g).1:=by
  rcases Zr0 (Z2 G (m:Int)).1 g (Kg G (m:Int)).1 with ⟨e,_,h⟩ | ⟨t,q,h,_⟩
  ·rw[h];exact Lim.nil
  rw[h];exact Z9 t
 obtain⟨_,_,_,_,p,wd,ps,q,s,v,_⟩:=V9.back j r;exact⟨p,wd,ps,q,s,AA⟩
theorem sampleOn_walk(h:GH)(G:Gr)(x y:Int)(Ar:Option Addr)(nr cr:Nat)(zs:List Int)(w:World)(cp:GrIn w h G)(hx:(Lit.int .i64 x).wf=true/\(Lit.int .i64 y).wf=true)(bv:Nj .u32 w Ar nr cr zs)(bh:Q2 w):
 Calls prog 6 #[GV h G.start,.agg #[.int .i64 x,.int .i64 y],.slice Ar nr cr] w λe w'=>e = .returned (.bool true)/\Below w w w':=by
 obtain⟨xs,R,br⟩:=bv.limbs;obtain rfl:=R.len;have dh:=R.cap;have Hr:=LH R;have au:=LH br;obtain⟨C,hs,cu⟩:=cp;obtain⟨a1,n1,c1,a2,n2,c2,a3,n3,c3⟩:=h;have e1:G.terms.length=n1:=C.terms.len;have e2:G.nons.length=n2:=C.nons.len;have e3:G.rules.length=n3:=C.rules.len;have o:=Zy w (.cells #[.slice a1 n1 c1,.slice a2 n2 c2,.slice a3 n3 c3,.int .i64 G.start] 26);have P:=Y1.new w 26 ⟨a1,n1,c1,a2,n2,c2,a3,n3,c3⟩ G.start;have CA:=LH Zqu;have J:=LH C;have Hs:=LH hs;have V:=LH bh;go_enter func6,ntmps6;have r:=Zz o (Zy (w.alloc (.cells #[.slice a1 n1 c1,.slice a2 n2 c2,.slice a3 n3 c3,.int .i64 G.start] 26)) (.cells #[.int .i64 x,.int .i64 y] 37));have P:=P.below (Zy (w.alloc (.cells #[.slice a1 n1 c1,.slice a2 n2 c2,.slice a3 n3 c3,.int .i64 G.start] 26)) (.cells #[.int .i64 x,.int .i64 y] 37));have ad:=Blk.new (w.alloc (.cells #[.slice a1 n1 c1,.slice a2 n2 c2,.slice a3 n3 c3,.int .i64 G.start] 26)) 37 #[.int .i64 x,.int .i64 y];go_wp2_with fail;rw[Zl] at ad;generalize (w.alloc (.cells #[.slice a1 n1 c1,.slice a2 n2 c2,.slice a3 n3 c3,.int .i64 G.start] 26)).alloc (.cells #[.int .i64 x,.int .i64 y] 37)=W0 at *;have o:=r;refine (CA.out W0 (V.out.below o)).mono ?_;rintro e W1⟨rfl,M⟩;have r:=Zz o M;have ae:=P.below M;have bj:=Blk.ext ad M;have⟨y5,y0,y1,y2,y3⟩:=ae;simp only[] at y0 y1 y2 y3;go_wp2_with fail;refine (Cu ⟨a1,n1,c1,a2,n2,c2,a3,n3,c3⟩ G W1 (J.out.below r)).mono ?_;rintro e Y⟨rfl,N⟩;have a8:=Zz r N;have bn:=ae.below N;have F:=LH (Blk.ext bj N);have g:=LH a8;have aq:=LH bn;have⟨y5,y0,y1,y2,y3⟩:=aq.out;simp only[] at y0 y1 y2 y3;have s:Y.cell? ⟨w+1,0,none⟩=some (.int .i64 x):=F.cell 0;have m1:Y.cell? ⟨w+1,1,none⟩=some (.int .i64 y):=F.cell 1;have t:=F.lt;rcases af:G.great with _ | _
 case true =>
  go_wp2_with fail;go_ret;exact⟨rfl,g⟩
 obtain⟨l1,l2,l3,_⟩:=Kv af;rw[e1] at l1;rw[e2] at l2;rw[e3] at l3;by_cases dc:(200:Int)<(xs.length:Int)
 case pos =>
  go_wp2_with fail;go_ret;exact⟨rfl,g⟩
 by_cases dv:y<1
 case pos =>
  go_wp2_with fail;go_ret;exact⟨rfl,g⟩
 by_cases dw:10<y
 case pos =>
  go_wp2_with fail;go_ret;exact⟨rfl,g⟩
 obtain⟨K,rfl⟩:∃K:Nat,y=(K:Int):=⟨y.toNat,AA⟩;have cU:=LH (Zqn ⟨a1,n1,c1,a2,n2,c2,a3,n3,c3⟩ G x (K:Int) Ar xs.length cr xs Y (J.below g) Hs (V.below g) (by simp only[];omega) (by simp only[];omega) (by simp only[];omega) (Hr.below g) au);go_wp2_with fail;refine cU.out.mono ?_;rintro e L⟨O,l,a,er,A3,da,rfl,hI,hU⟩;have D:=LH (Zz g O);have cc:=LH (aq.below O);have H:=LH (Blk.ext F O);have HI:=LH hI;have W:=LH hU;by_cases bp:er=0
 case neg =>
  have dn:((er:Int) != 0)=true:=by rw[BK];omega
  obtain⟨rfl,rfl⟩:=W.err bp;go_wp2_with fail;go_ret;exact⟨rfl,D⟩
 subst bp;have B:=W.fin
 rw[DC] at B;have cs:=B.len;subst cs;have df:=B.used;have HG:=LH B;have s:L.cell? ⟨w+1,0,none⟩=some (.int .i64 x):=H.cell 0;have m1:L.cell? ⟨w+1,1,none⟩=some (.int .i64 (l.length:Int)):=H.cell 1;have t:=H.lt;have dm:((l.length:Int) != (l.length:Int))=false:=by rw[BM]
 have dd:¬(a:Int)<0:=AA
 have de:¬(xs.length:Int)<(a:Int):=AA
 have dj:decide (xs.length<a)=false:=BR AA;have dk:decide ((a:Int)<0)=false:=BR AA;go_wp2_with fail;go_loopw [10,11] (λat_ i wr=>∃(j b:Nat),j<=l.length/\at_ = .int .i64 (b:Int)/\i = .int .i64 (j:Int)/\b<=xs.length/\Hid (SomGo G x xs j (l.take j) b)/\Hid (Below L L wr)) (λ_ i _=>l.length+1-(intOf i).toNat)
 case atStart=>exact⟨0,0,AS _,rfl,rfl,AS _,LH .nil,LH (AL _ _)⟩
 obtain⟨j,b,hj,rfl,rfl,ck,an,n⟩:=hrel;have E:=LH (Zz D n);by_cases bq:j<l.length
 case neg =>
  obtain rfl:j=l.length:=AA
  have aa:=an.out;rw[List.take_length] at aa;obtain⟨_,rfl⟩:=HG.one aa;go_wp2_with fail;go_ret;exact⟨AE,E⟩
 obtain⟨cz,u,bs,hS,a9⟩:=HG.get bq an;obtain⟨b2,dq,bg⟩:=Zqz (Hr.below E) ck;obtain⟨bl,ol,c0,Ao,co,rfl,bk,av,bo,bc⟩:=(HI.below n).get bq;obtain rfl:cz=c0:=by have h1:=av.out;rw[bs] at h1;exact BH h1
 have U:=LH hS;have b5:=LH a9;have cb:=LH bg;have ao:=LH bc;have ar:=LH bo;have X:=LH (cc.below n);have I:=LH (Blk.ext H n);have c:Below wr wr wr.drew:=(AL _ _).drew;have z:=LH c;have CD:=LH (Zri ⟨a1,n1,c1,a2,n2,c2,a3,n3,c3⟩ G x b2 (xs.length-b) (cr-b) (xs.drop b) wr.drew (J.below (Zz E c)) Hs (V.below (Zz E c)) (by simp only[];omega) (by simp only[];omega) (by simp only[];omega) (cb.below c) (λx hx=>au x (List.mem_of_mem_drop hx)));have⟨y5,y0,y1,y2,y3⟩:=X.out;simp only[] at y0 y1 y2 y3;have s:wr.cell? ⟨w+1,0,none⟩=some (.int .i64 x):=I.cell 0;have t:=I.lt;go_wp2_with fail;go_region_with (go_at_call 9;refine CD.out.mono ?_;rintro e m⟨d,k,u4,db,A5,c5,rfl,bb,be⟩)
 all_goals
  obtain⟨rfl,rfl,rfl⟩:=be.one U;have d:=Zz z d;have S:=LH (n.trans (d.mono n.size));have b4:=LH (Zz D S);have ca:=LH bb;have ap:=LH (ao.below d);have cn:=(d.cell (p:=⟨bl,ol+j,none⟩) bk).trans ar;have bm:bl<m.heap.size:=AK bk d.size;have ce:=LH cn;have cd:=LH (X.below d);have b7:=LH (Blk.ext I d);obtain⟨dp,wd,ps,q,ag,bx⟩:=U.tree;have cv:=U.used;rw[BT] at cv;have ct:(Zrc k).length=k.length:=BI ..;have c:Below m m m.drew:=(AL _ _).drew;have z:=LH c;have CD:=LH ((B4 ⟨a1,n1,c1,a2,n2,c2,a3,n3,c3⟩ G Ao k.length co (Zrc k) m.drew (J.below (Zz b4 c)) (ap.below c) AA (by simp only[];omega) (by simp only[];omega) (by simp only[];omega)).mono (R':=λe w'=>Below m.drew.heap.size m.drew w'/\∃A c',e = .returned (.tuple #[.slice A wd.length c',.int .i64 0])) λe w' hh=>by
   obtain⟨hb,⟨bt,_⟩ | ⟨dz,dx,q',A6,c6,bu,rfl,_⟩⟩:=hh
   ·rw[ag] at bt;cases bt
   rw[ag] at bu;injection bu with h1;injection h1 with h1 _;subst h1;exact⟨hb,A6,c6,rfl⟩)
  have cf:=LH bx;have⟨y5,y0,y1,y2,y3⟩:=cd.out;simp only[] at y0 y1 y2 y3;go_wp2_with fail;go_region_with (go_at_call 19;refine CD.out.mono ?_;rintro e w5⟨f,A6,c6,rfl⟩)
  all_goals
   have f:=Zz z f;have T:=LH (S.trans (f.mono S.size));have c9:=LH (Zz D T);have di:=(f.cell (p:=⟨bl,ol+j,none⟩) bm).trans ce;have dg:bl<w5.heap.size:=AK bm f.size;have v:=Mr A5 k.length c5 (Zrc k) Ao k.length co (Zrc k) w5 (ca.below f) (ap.below f);rw[beq_self_eq_true] at v;have v:=LH v;have b8:=LH (Blk.ext b7 f);have du:((wd.length:Int) != x)=false:=by rw[BM];exact cf
   have dr:¬(u4:Int)<0:=AA
   have ds:¬((xs.length:Int)-(b:Int))<(u4:Int):=AA
   have dt:IntKind.i64.wrap ((xs.length:Int)-(b:Int))=(xs.length:Int)-(b:Int):=by rw[IntKind.wrap_i64];omega
   have cl:b+u4<=xs.length:=AA
   go_wp2_with fail;refine v.out.mono ?_;rintro e w6⟨rfl,bf⟩;have ab:=bf.below w5;have b3:=LH (T.trans (ab.mono T.size));have Z:=Blk.ext b8 ab;have s:w6.cell? ⟨w+1,0,none⟩=some (.int .i64 x):=Z.cell 0;have t:=Z.lt;go_wp2_with fail;go_roundw
   case rel=>exact⟨j+1,b+u4,AA,AF,AF,cl,b5,b3⟩
   simp[intOf] <;> omega
