/- words that the packed base lacks. -/
import Derived.Test.YtaagompdgiobeaaGreatDoorV27
import Derived.Test.YtaagompdgiobeaaGreatDoorV29
import Derived.Test.YtaagompdgiobeaaGreatDoorV30
import Derived.Test.YtaagompdgiobeaaGreatDoorV34
set_option linter.all false
set_option maxHeartbeats 1500000
set_option maxRecDepth 100000
namespace Go.Proofs.YtaagompdgiobeaaGreatDoor
open Go.RowKit Go.Proofs.Tryz
variable{ops:Array Oper}{rest:List Oper}{Q:Exit->Act->World->Prop}{l:List (List Nat)}
section
open Ieee
variable {P:Program} {w:World}
theorem wpl_appendI{o:Oper}{a:Act}(B:o.guard=none)(s x:Operand)(t:TypeId)(C:o.op = .call { callee := .builtin .append,args:=#[s,x],argTypes:=#[t,t] })(base:Nat)(e:TypeId)(z:Value)(bytes:Nat)(H:P.underlying t=some (.slice e))(hi:(P.info? e).map (λi=>(i.zero,i.size,i.bytes))=some (some z,1,bytes))(J:z.cells.size=1)(A:Option Addr)(n c:Nat)(xs:List Value)(G:a.eval s = .slice A n c)(D:w.ownsRow base e 1 (.slice A n c) n xs)(j:Option Addr)(m c2:Nat)(g:List Value)(I:a.eval x = .slice j m c2)(E:Sl w j m c2 g)(h1:∀u∈g,u.oneCell'=true)(q:n+m<=9223372036854775807)(y:(n+m)*bytes<=140737488355328)(v:base<=w.heap.size)(h:∀d f w',w'.ownsRow base e 1 (.slice d (n+m) f) (n+m) (xs++g)->w.grownBy w' (Value.slice A n c).ownBlock->(∀b,(Value.slice d (n+m) f).ownBlock=some b->b<w.heap.size->(Value.slice A n c).ownBlock=some b)->
   wpList P ops Q rest (a.put o.dst (.slice d (n+m) f)) w'):wpList P ops Q (o::rest) a w:=by
 obtain⟨d,f,w',F,k,l,p⟩:=Zqw (P:=P) base t o.type e z bytes H hi J A n c xs D j m c2 g E h1 q y v;refine wpList_plain B λK r=>?_;unfold Oper.wp execOp;simp only[C,resolve,invoke,builtin,Sem.run_bind,Sem.run_pure,Result.andThen_ok,List.map_toArray,CU,List.map_nil,G,I,F];exact r _ _ (h d f w' k l p)
end
section
open Ieee
theorem SomGo.stop{G:Gr}{n:Int}{b:List Nat}{i:Nat}{a:Nat}(h:SomGo G n b i l a){t:List Nat}{u d:Nat}(s:L3 G n (b.drop a) t u d)(p:d≠0):
 ∀{j:Nat} {g:List (List Nat)} {c:Nat},SomGo G n b j g c->j<=i:=by
 intro j g c o
 induction o with
 | nil=>exact AS _
 | @step f z v A u0 k m y =>
   rcases BD f i with r | x
   ·exact r
   have q:f=i:=AA
   subst q;obtain⟨rfl,rfl⟩:=h.one k;obtain⟨_,_,e⟩:=s.one m;exact absurd e p
theorem Zro.one{G:Gr}{n k:Int}{s:List Nat}{r:List (List Nat)}{a j m o:Nat}(h:Zro G n k s l a m)(t:Zro G n k s r j o):l=r/\a=j/\m=o:=by
 rcases h with ⟨x,rfl,rfl,rfl⟩ | ⟨x,b,rfl⟩ | ⟨x,rfl,rfl,i,C,y,E,H,hi,b,f,p⟩ <;>
  rcases t with ⟨d,rfl,rfl,rfl⟩ | ⟨d,c,rfl⟩ | ⟨d,rfl,rfl,v,D,z,F,I,B,c,g,q⟩
 ·exact⟨rfl,rfl,rfl⟩
 ·exact absurd x d
 ·exact absurd x d
 ·exact absurd d x
 ·obtain⟨rfl,rfl⟩:=b.one c;exact⟨rfl,rfl,rfl⟩
 ·have:=c.stop g q b;omega
 ·exact absurd d x
 ·have:=b.stop f p c;omega
 have h1:=b.stop f p c;have A:=c.stop g q b;have u:i=v:=AA
 subst u;obtain⟨rfl,rfl⟩:=b.one c;obtain⟨_,_,rfl⟩:=f.one g;exact⟨rfl,rfl,rfl⟩
theorem rf_Lists3(b:Option Addr)(n c1:Nat)(xs:List (List Nat))(c:Option Addr)(c2:Nat)(w:World)(h1:Zrn w b n c1 xs)(f:Zrn w c n c2 xs):
 Calls prog 14 #[.slice b n c1,.slice c n c2] w λe w'=>e = .returned (.bool true)/\Below w w w':=by
 have g:=h1.2;have F:n<=9223372036854775807:=AA
 have H:((n:Int) != (n:Int))=false:=by rw[BM]
 have q:=LH h1;have r:=LH f;go_enter func14,ntmps14;go_wp2;go_loopw [5] (λi wr=>∃k:Nat,k<=n/\i = .int .i64 (k:Int)/\Hid (Below w w wr)) (λi _=>n-(intOf i).toNat)
 case atStart=>exact⟨0,AS _,rfl,LH (AL _ _)⟩
 obtain⟨k,G,rfl,a⟩:=hrel;by_cases j:k<n
 ·obtain⟨z,I,x,o,u,rfl,C,Hx,g,l⟩:=(q.below a).get j;obtain⟨A,J,y,p,v,rfl,D,s,E,m⟩:=(r.below a).get j;have t:x=y:=by
   have h1:=Hx.out;rw[s] at h1;injection h1 with h1;exact h1.symm
  subst t;have B:=Yt wr;have d:=LH λX:Ext wr=>(Mr o _ u (Zrc x) p _ v (Zrc x) (bl wr X) (l.below (Zr wr X)) (m.below (Zr wr X))).mono λe w' h=>And.intro h.1 (h.2.below (bl wr X).heap.size);rw[beq_self_eq_true] at d;go_wp2_with fail;refine Zs AB AB ?_;repeat (go_big_quiet_step ((go_at_call 11;exact Ve (d.out _))))
  refine BL ?_;rintro _⟨X,rfl⟩;go_wp2_with fail;go_roundw
  case rel=>exact⟨k+1,AA,AF,LH (a.trans ((Zr wr X).mono a.size))⟩
  simp[intOf];omega
 go_wp2;go_ret;exact⟨rfl,a⟩
theorem rf_sSome(h:GH)(G:Gr)(n k:Int)(A:Option Addr)(m c:Nat)(b:List Nat)(w:World)(hg:Yf w h G)(h1:h.n1<=100)(h2:h.n2<=100)(h3:h.n3<=100)(H:Zq .u32 w A m c b)(lw:Lim b):
 Calls prog 13 #[GV h G.start,.int .i64 n,.int .i64 k,.slice A m c] w (RetSom G n k b w):=by
 obtain⟨a1,n1,c1,a2,n2,c2,a3,n3,c3⟩:=h;simp only[] at h1 h2 h3;have ad:=H.len;have bk:=H.cap;have Hg:=LH hg;have HW:=LH H;have HL:=LH lw;have U:=Zy w (.cells #[.slice a1 n1 c1,.slice a2 n2 c2,.slice a3 n3 c3,.int .i64 G.start] 26);have Z:=Y1.new w 26 ⟨a1,n1,c1,a2,n2,c2,a3,n3,c3⟩ G.start;have ay:=LH ad;go_enter func13,ntmps13;go_upto_region 1 with fail;generalize w.alloc (.cells #[.slice a1 n1 c1,.slice a2 n2 c2,.slice a3 n3 c3,.int .i64 G.start] 26)=t at *;have r:=LH U;have ar:=LH Z;by_cases ba:k<0
 case pos =>
  have f:Hid (Zro G n k b [] 0 1):=LH (.inl ⟨.inl ba,rfl,rfl,rfl⟩);go_wp2_with fail;go_ret3
  exact⟨r,[],0,1,none,0,rfl,Zrn.nil _,f⟩
 by_cases bb:500<k
 case pos =>
  have f:Hid (Zro G n k b [] 0 1):=LH (.inl ⟨.inr bb,rfl,rfl,rfl⟩);go_wp2_with fail;go_ret3
  exact⟨r,[],0,1,none,0,rfl,Zrn.nil _,f⟩
 obtain⟨K,rfl⟩:∃K:Nat,k=(K:Int):=⟨k.toNat,AA⟩;have S:Hid (¬((K:Int)<0\/500<(K:Int))):=LH AA;have T:Hid ((K:Int).toNat=K):=DC K;have av:=LH Tryz.infoIntS;go_wp2_with fail;go_loopw [11,12,13] (λlv tv i wr=>∃(j:Nat) (l:List (List Nat)) (a:Nat) (B:Option Addr) (v:Nat) (O:List Value),j<=K/\i = .int .i64 (j:Int)/\lv = .slice B j v/\tv = .int .i64 (a:Int)/\a<=m/\Hid (Zrk wr t B j v O l)/\Hid (SomGo G n b j l a)/\Hid (Below t t wr)) (λ_ _ i _=>K+1-(intOf i).toNat)
 case atStart=>exact⟨0,[],0,none,0,[],AS _,rfl,rfl,rfl,AS _,LH (Zrk.start _ _),LH .nil,LH (AL _ _)⟩
 obtain⟨j,l,a,B,v,O,hj,rfl,rfl,rfl,a7,R,C,q⟩:=hrel;by_cases a8:j<K
 case neg =>
  obtain rfl:K=j:=AA
  have ae:¬((K:Int)<(K:Int)):=AA
  have f:Hid (Zro G n (K:Int) b l a 0):=LH (.inr (.inl ⟨S,by rw[T];exact C,rfl⟩));have az:=LH R.read;have ax:=LH C.len;have z:=LH (Zz r q);go_wp2_with fail;go_ret3
  have bc:=ax.out;subst bc;exact⟨z,l,a,0,B,v,rfl,az,f⟩
 have bj:((j:Nat):Int)<(K:Int):=AA
 have z:=LH (Zz r q);obtain⟨ah,bm,X⟩:=Zqz (HW.below z) a7;have⟨y5,y0,y1,y2,y3⟩:=ar.below q;simp only[] at y0 y1 y2 y3;have E:Below wr wr wr.drew:=(AL _ _).drew;have aq:=LH E;have CD:=LH (Zq0 ⟨a1,n1,c1,a2,n2,c2,a3,n3,c3⟩ G n ah (m-a) (c-a) (b.drop a) wr.drew (Hg.below (Zz z E)) (by simp only[];omega) (by simp only[];omega) (by simp only[];omega) (X.below E) (λx hx=>HL x (List.mem_of_mem_drop hx)));go_wp2_with fail;go_region_with (go_at_call 10;refine CD.out.mono ?_;rintro e p⟨y,d,u,D,g,o,rfl,V,W⟩)
 have y:=Zz aq y;have I:=LH (q.trans (y.mono q.size));have an:=LH (R.below y);have ak:=LH V;have J:=LH W;by_cases M:D=0
 case neg =>
  have bl:((D:Int) != 0)=true:=by rw[BK];omega
  have f:Hid (Zro G n (K:Int) b [] 0 D):=LH (.inr (.inr ⟨S,rfl,rfl,j,l,a,d,u,by rw[T];exact a8,C,J,M⟩));go_wp2_with fail;go_ret3
  exact⟨Zz r I,[],0,D,none,0,rfl,Zrn.nil _,f⟩
 subst M;have N:a+u<=m:=by have h1:=J.used;rw[BT] at h1;have:=ay.out;omega
 have aj:=LH (C.step J);have F:=Zy p (.cells #[.slice g d.length o] 30);have aw:Hid ((p.alloc (.cells #[.slice g d.length o] 30)).cell? ⟨p,0,none⟩=some (.slice g d.length o)):=LH ((Blk.new p 30 #[.slice g d.length o]).cell 0);have s:=LH (an.below F);have al:=LH (ak.below F);have P:=LH (I.trans (F.mono I.size));have Y:t.heap.size<=(p.alloc (.cells #[.slice g d.length o] 30)).heap.size:=P.size;have a0:=LH s.vals;go_wp2_with (at_builtin;refine Zqv rfl _ _ 38 rfl t 30 _ 24 underlying38 av AC (by intro u N k x L;subst L;simp[Value.cells] at N) B j v O rfl s.own s.noInt a0 ⟨p,0,none⟩ 1 (.slice g d.length o) rfl aw rfl (by intro k x L;cases L) AA AA Y ?_;intro A6 c6 w6 ho ab ha ae);have ao:=LH (s.snoc al ho ab ae);have ai:=LH (P.trans ((Off.of_grown ab).is_below Y λk hk=>(s.own.lt k hk).1));go_roundw
 case rel=>exact⟨j+1,l++[d],a+u,A6,c6,_,AA,AF,rfl,AF,N,ao,aj,ai⟩
 simp[intOf] <;> omega
theorem sampleSome_walk(h:GH)(G:Gr)(x y:Int)(Ar:Option Addr)(nr cr:Nat)(zs:List Int)(w:World)(bt:GrIn w h G)(hx:(Lit.int .i64 x).wf=true/\(Lit.int .i64 y).wf=true)(a5:Nj .u32 w Ar nr cr zs)(ar:Q2 w):
 Calls prog 4 #[GV h G.start,.agg #[.int .i64 x,.int .i64 y],.slice Ar nr cr] w λe w'=>e = .returned (.bool true)/\Below w w w':=by
 obtain⟨xs,C,az⟩:=a5.limbs;obtain rfl:=C.len;have cg:=C.cap;have L:=LH C;have ae:=LH az;obtain⟨q,hs,bu⟩:=bt;obtain⟨a1,n1,c1,a2,n2,c2,a3,n3,c3⟩:=h;have e1:G.terms.length=n1:=q.terms.len;have e2:G.nons.length=n2:=q.nons.len;have e3:G.rules.length=n3:=q.rules.len;have d:=Zy w (.cells #[.slice a1 n1 c1,.slice a2 n2 c2,.slice a3 n3 c3,.int .i64 G.start] 26);have B:=Y1.new w 26 ⟨a1,n1,c1,a2,n2,c2,a3,n3,c3⟩ G.start;have CA:=LH Zqu;have J:=LH q;have Hs:=LH hs;have HT:=LH ar;go_enter func4,ntmps4;have f:=Zz d (Zy (w.alloc (.cells #[.slice a1 n1 c1,.slice a2 n2 c2,.slice a3 n3 c3,.int .i64 G.start] 26)) (.cells #[.int .i64 x,.int .i64 y] 37));have B:=B.below (Zy (w.alloc (.cells #[.slice a1 n1 c1,.slice a2 n2 c2,.slice a3 n3 c3,.int .i64 G.start] 26)) (.cells #[.int .i64 x,.int .i64 y] 37));have N:=Blk.new (w.alloc (.cells #[.slice a1 n1 c1,.slice a2 n2 c2,.slice a3 n3 c3,.int .i64 G.start] 26)) 37 #[.int .i64 x,.int .i64 y];go_wp2_with fail;rw[Zl] at N;generalize (w.alloc (.cells #[.slice a1 n1 c1,.slice a2 n2 c2,.slice a3 n3 c3,.int .i64 G.start] 26)).alloc (.cells #[.int .i64 x,.int .i64 y] 37)=W0 at *;have d:=f;refine (CA.out W0 (HT.out.below d)).mono ?_;rintro e W1⟨rfl,n⟩;have f:=Zz d n;have O:=B.below n;have ax:=Blk.ext N n;have⟨y5,y0,y1,y2,y3⟩:=O;simp only[] at y0 y1 y2 y3;go_wp2_with fail;refine (Cu ⟨a1,n1,c1,a2,n2,c2,a3,n3,c3⟩ G W1 (J.out.below f)).mono ?_;rintro e b⟨rfl,o⟩;have ao:=Zz f o;have ay:=O.below o;have u:=LH (Blk.ext ax o);have k:=LH ao;have ab:=LH ay;have⟨y5,y0,y1,y2,y3⟩:=ab.out;simp only[] at y0 y1 y2 y3;have r:b.cell? ⟨w+1,0,none⟩=some (.int .i64 x):=u.cell 0;have s:b.cell? ⟨w+1,1,none⟩=some (.int .i64 y):=u.cell 1;have t:=u.lt;rcases g:G.great with _ | _
 case true =>
  go_wp2_with fail;go_ret;exact⟨rfl,k⟩
 obtain⟨l1,l2,l3,_⟩:=Kv g;rw[e1] at l1;rw[e2] at l2;rw[e3] at l3;by_cases cd:(200:Int)<(xs.length:Int)
 case pos =>
  go_wp2_with fail;go_ret;exact⟨rfl,k⟩
 by_cases S:20<y/\y<=500
 case pos =>
  obtain⟨an,br⟩:=S;go_wp2_with fail;go_ret;exact⟨rfl,k⟩
 have S:¬20<y\/(20<y/\¬y<=500):=AA
 have bj:Hid ((prog.info? 41).map (λi=>(i.zero,i.size,i.bytes))=some (some (.int .u32 0),1,4)):=LH AB;have Ho:Hid ((b.alloc (.cells #[] 41)).ownsRow b 41 1 (.slice (some ⟨b,0,none⟩) 0 0) 0 []):=World.ownsRow_made b #[] 0 (AJ _) (AS _) rfl;have z:=LH (Zy b (.cells #[] 41));have ag:=LH ((L.below k).below z);have R:b.heap.size<=(b.alloc (.cells #[] 41)).heap.size:=z.size;have b5:Hid ((20:Int)<y/\¬y<=500\/¬(20:Int)<y):=LH AA;rcases S with an | ⟨an,br⟩;all_goals
  go_upto_region 6 with (
   at_builtin
   refine wpl_appendI rfl _ _ 27 rfl b 41 _ 4 underlying27 bj AC _ 0 0 [] rfl Ho Ar xs.length cr (nums .u32 xs) rfl ag (Zq2 _ _) AA AA R ?_;intro U c4 D P g ha;have a4:(0+xs.length)=xs.length:=BF _;rw[a4] at P;have Y:Hid (Zq .u32 D U xs.length c4 xs):=LH (by have:=Yl P;rwa [DA] at this);have E:=LH (z.trans (Zn g R (AJ _))))
  have F:=LH (Zz k E);have ad:=LH (ab.below E);have v:=LH (Blk.ext u E);have⟨y5,y0,y1,y2,y3⟩:=ad.out;simp only[] at y0 y1 y2 y3;have r:D.cell? ⟨w+1,0,none⟩=some (.int .i64 x):=v.cell 0;have s:D.cell? ⟨w+1,1,none⟩=some (.int .i64 y):=v.cell 1;have t:=v.lt;have m:=LH (Zqn ⟨a1,n1,c1,a2,n2,c2,a3,n3,c3⟩ G x y U xs.length c4 xs D (J.below F) Hs (HT.below F) (by simp only[];omega) (by simp only[];omega) (by simp only[];omega) Y ae);go_wp2_with fail;refine m.out.mono ?_;rintro e M⟨p,l,a,er,A5,c5,rfl,hI,hU⟩;have H:=LH (Zz F p);have bi:=LH (ad.below p);have I:=LH (Blk.ext v p);have Z:=LH (Y.below p);have W:=LH hI;have HU:=LH hU;have⟨y5,y0,y1,y2,y3⟩:=bi.out;simp only[] at y0 y1 y2 y3;have r:M.cell? ⟨w+1,0,none⟩=some (.int .i64 x):=I.cell 0;have s:M.cell? ⟨w+1,1,none⟩=some (.int .i64 y):=I.cell 1;have t:=I.lt;have m:=LH (rf_sSome ⟨a1,n1,c1,a2,n2,c2,a3,n3,c3⟩ G x y Ar xs.length cr xs M (J.below H) (by simp only[];omega) (by simp only[];omega) (by simp only[];omega) (L.below H) ae);go_wp2_with fail;refine m.out.mono ?_;rintro e W6⟨A,l',a',cc,A6,c6,rfl,aq,av⟩;obtain⟨rfl,rfl,rfl⟩:=HU.one av;have V:=LH (Zz H A);have bf:=LH (Z.below A);have bh:=LH (L.below V);have bd:=LH (W.below A);have be:=LH aq;have ht:((xs.length:Int) != (xs.length:Int))=false:=by rw[BM]
  go_wp2_with fail;go_loopw [14] (λi wr=>∃j:Nat,j<=xs.length/\i = .int .i64 (j:Int)/\Hid (Below W6 W6 wr)) (λi _=>xs.length+1-(intOf i).toNat)
  case atStart=>exact⟨0,AS _,rfl,LH (AL _ _)⟩
  obtain⟨j,hj,rfl,c⟩:=hrel;by_cases a0:j<xs.length
  case pos =>
   obtain⟨b1,o1,T,rfl,n,bl,ce⟩:=(bf.below c).get a0;obtain⟨b2,o2,x2,rfl,o,bm,cf⟩:=(bh.below c).get a0;have bw:T=x2:=by
    have h1:=bl.out;rw[bm] at h1;injection h1 with h1;exact h1.symm
   subst bw;have cj:((T:Int) != (T:Int))=false:=by rw[BM]
   have bc:=Yt wr;go_upto_region 13 with fail;refine Zs AB AB ?_;repeat (go_big_quiet_step (fail))
   refine BL ?_;rintro _⟨X,rfl⟩;go_wp2_with fail;go_roundw
   case rel=>exact⟨j+1,AA,AF,LH (c.trans ((Zr wr X).mono c.size))⟩
   simp[intOf];omega
  have cL:=LH (rf_Lists3 A5 l.length c5 l A6 c6 wr (bd.below c) (be.below c));have bb:=LH (Zz V c);go_wp2_with fail;refine cL.out.mono ?_;rintro e W7⟨rfl,aw⟩;have ba:=LH (Zz bb aw);go_wp2_with fail;go_ret;exact⟨AE,ba⟩
end
