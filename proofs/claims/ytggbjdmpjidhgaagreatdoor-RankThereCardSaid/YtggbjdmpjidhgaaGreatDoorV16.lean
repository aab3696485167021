/- grammars: the reference's Right, walked. -/
import Derived.Test.YtggbjdmpjidhgaaGreatDoorV09
import Derived.Test.YtggbjdmpjidhgaaGreatDoorV10
import Derived.Test.YtggbjdmpjidhgaaGreatDoorV11
import Derived.Test.YtggbjdmpjidhgaaGreatDoorV12
set_option linter.all false
set_option maxHeartbeats 1500000
set_option maxRecDepth 100000
namespace Go.Proofs.YtggbjdmpjidhgaaGreatDoor
open Go.RowKit Go.Proofs.Tryz
variable{S:Nat->Prop}{i p B g base size c cr x:Nat}{w1 w':World}{a:List Nat}{ts:List Tk}{n:List ByteArray}{A Ar:Option Addr}{xs cs:List Value}{L s:ByteArray}{o:Obj}{done:List Prd}{T:Int->Nat->Nat}{r:Rul}
theorem rf_nons(h:GH)(G:Gr)(w:World)(o:Yf w h G)(U:h.n1<=1000):
 Calls prog 65 #[GV h G.start] w λe w'=>e = .returned (.bool G.nonsOK)/\Below w w w':=by
 obtain⟨a1,n1,c1,a2,n2,c2,a3,n3,c3⟩:=h;have A:Js w a2 n2 c2 G.nons:=o.nons;have W:G.nons.length=n2:=A.len;have af:=A.cap;simp only[] at U;have r:Hid (G.nonsOK=(decide (1<=n2/\n2<=16)&&Cg G.nonOK G.nons)):=LH (by unfold Gr.nonsOK;rw[W]);by_cases n:1<=n2/\n2<=16
 case neg =>
  have u:Hid (G.nonsOK=false):=LH (by rw[r.out];simp only[n,decide_false,Bool.false_and]);have Y:((n2:Int)<1)\/((1:Int)<=(n2:Int)/\(16:Int)<(n2:Int)):=AA
  clear o n;rcases Y with d | ⟨d,d2⟩;all_goals
   go_enter func65,ntmps65;go_wp2_with fail;go_ret;exact⟨by rw[u.out];rfl,Zy _ _⟩
 have D:Hid (G.nonsOK=Cg G.nonOK G.nons):=LH (by rw[r.out];simp only[n,and_self,decide_true,Bool.true_and]);obtain⟨ai,aj⟩:=n;have S:=LH o;clear r o;go_enter func65,ntmps65;have N:=Y1.new w 26 ⟨a1,n1,c1,a2,n2,c2,a3,n3,c3⟩ G.start;go_wp2_with fail;go_loopw [3] (λi wr=>∃(k:Nat),k<=n2/\i = .int .i64 (k:Int)/\Below w w wr/\Y1 wr w ⟨a1,n1,c1,a2,n2,c2,a3,n3,c3⟩ G.start/\Hid (∀j,j<k->∀y,G.nons[j]? = some y->(!G.nonOK j y)=false)) (λi _=>n2-(intOf i).toNat)
 case atStart=>exact⟨0,AU _,rfl,Zy _ _,N,LH λj hj=>AA⟩
 clear N;obtain⟨k,hk,rfl,c,v,E⟩:=hrel;have⟨z5,z0,z1,z2,z3⟩:=v;simp only[] at z0 z1 z2 z3;by_cases V:k<n2
 ·obtain⟨b,R,s,rfl,L,F,q0⟩:=A.get V;rw[<-c.cell (by exact L)] at q0;have ae:b<wr.heap.size:=AJ L c.size;have z:=S.out.below c;have H:=λw=>Zx8 s w;have I:=λ(x:Ext wr)=>Zu5 ⟨a1,n1,c1,some ⟨b,R,none⟩,n2,c2,a3,n3,c3⟩ G s (bl wr x) (z.below (Zr wr x)) (by simp only[];omega);have J:=λ(x:Ext wr)=>C6 ⟨a1,n1,c1,some ⟨b,R,none⟩,n2,c2,a3,n3,c3⟩ G s (bl wr x) (z.below (Zr wr x)) (by simp only[];omega);have O:G.nonOK k s=(Xi (Zh s)&&decide (G.non s=(k:Int))&&decide (G.term s<0)):=rfl;have C:=LH O;have X:=(U9 (λt=>decide (t=s)) G.nons).1;have bc:=Yt wr;have Hx:=LH v;have a:=LH c;clear O z v c;generalize Xi (Zh s)=f at *;generalize G.non s=p at *;generalize G.term s=B at *;have l:=LH H;have m:=LH I;have CT:=LH J;clear H I J X;have Z:(f=false\/(f=true/\p≠(k:Int))\/(f=true/\p=(k:Int)/\0<=B))\/(f=true/\p=(k:Int)/\B<0):=by
   cases f
   ·simp
   simp only[Bool.true_eq_false,false_or,true_and];omega
  rcases Z with M | ⟨rfl,rfl,g⟩
  ·have q:Hid (G.nonsOK=false):=LH (by
    rw[D.out];refine Lp F.out ?_;rw[C.out];rcases M with rfl | ⟨rfl,g⟩ | ⟨rfl,rfl,g⟩
    ·simp
    ·simp[g]
    simp;omega)
   rcases M with rfl | ⟨rfl,g⟩ | ⟨rfl,rfl,g⟩
   ·go_wp2_with fail;refine Zs AB AB ?_;repeat (go_big_quiet_step (first
     | (go_at_call 119;with_reducible exact Qo (l.out _))
     | (go_at_call 120;with_reducible exact Ve (m.out _))
     | (go_at_call 117;with_reducible exact Ve (CT.out _))))
    refine BK ?_;rintro _⟨x,rfl⟩;go_wp2_with fail;go_ret;exact⟨by rw[q.out];rfl,a.out.trans ((Zr wr x).mono a.out.size)⟩
   ·have d:(p != (k:Int))=true:=by rw[BN];exact g
    clear g;go_wp2_with fail;refine Zs AB AB ?_;repeat (go_big_quiet_step (first
     | (go_at_call 119;with_reducible exact Qo (l.out _))
     | (go_at_call 120;with_reducible exact Ve (m.out _))
     | (go_at_call 117;with_reducible exact Ve (CT.out _))))
    refine BK ?_;rintro _⟨x,rfl⟩;go_wp2_with fail;go_ret;exact⟨by rw[q.out];rfl,a.out.trans ((Zr wr x).mono a.out.size)⟩
   go_wp2_with fail;refine Zs AB AB ?_;repeat (go_big_quiet_step (first
    | (go_at_call 119;with_reducible exact Qo (l.out _))
    | (go_at_call 120;with_reducible exact Ve (m.out _))
    | (go_at_call 117;with_reducible exact Ve (CT.out _))))
   refine BK ?_;rintro _⟨x,rfl⟩;go_wp2_with fail;go_ret;exact⟨by rw[q.out];rfl,a.out.trans ((Zr wr x).mono a.out.size)⟩
  have T:Hid ((!G.nonOK k s)=false):=LH (by rw[C.out];simp;omega);have d:decide (0<=B)=false:=AG
  go_wp2_with fail;refine Zs AB AB ?_;repeat (go_big_quiet_step (first
   | (go_at_call 119;with_reducible exact Qo (l.out _))
   | (go_at_call 120;with_reducible exact Ve (m.out _))
   | (go_at_call 117;with_reducible exact Ve (CT.out _))))
  refine BK ?_;rintro _⟨x,rfl⟩;go_wp2_with fail;go_roundw
  case rel=>exact⟨k+1,AA,AF,a.out.trans ((Zr wr x).mono a.out.size),Hx.out.below (Zr wr x),LH (Lr E.out F.out T.out)⟩
  simp[intOf];omega
 obtain rfl:k=n2:=AA
 have u:Hid (G.nonsOK=true):=LH (by
  rw[D.out];refine Kc λj y P=>?_;have:=E.out j (by have:=(AN.1 P).1;omega) y P;simpa using this)
 go_wp2_with fail;go_ret;exact⟨by rw[u.out];rfl,c⟩
theorem rf_rule(h:GH)(G:Gr)(r:Rul)(Ar:Option Addr)(cr:Nat)(w:World)(p:Yf w h G)(B:Za .i64 w Ar r.right.length cr r.right)(U:∀s∈r.right,U3 s)(J:h.n1<=1000)(L:h.n2<=1000):
 Calls prog 66 #[GV h G.start,.agg #[.int .i64 r.left,.slice Ar r.right.length cr,.int .i64 r.prec]] w λe w'=>e = .returned (.bool (G.ruleOK r))/\Below w w w':=by
 obtain⟨a1,n1,c1,a2,n2,c2,a3,n3,c3⟩:=h;have o:G.terms.length=n1:=p.terms.len;have ag:=B.cap;simp only[] at J L;have t:Hid (G.ruleOK r=(decide (r.right.length<=6)&&decide (-1<=r.prec/\r.prec<(n1:Int))&&r.right.all (G.symOK r.prec))):=LH (by unfold Gr.ruleOK;rw[o]);clear o;have C:(6<(r.right.length:Int)\/((r.right.length:Int)<=6/\r.prec < -1)\/((r.right.length:Int)<=6/\-1<=r.prec/\(n1:Int)<=r.prec))\/((r.right.length:Int)<=6/\-1<=r.prec/\r.prec<(n1:Int)):=AA
 rcases C with R | ⟨g1,a,I⟩
 ·have v:Hid (G.ruleOK r=false):=LH (by
   rw[t.out];rcases R with g | ⟨g,a⟩ | ⟨g,a,I⟩
   ·have:decide (r.right.length<=6)=false:=AG
    rw[this];rfl
   ·have:decide (-1<=r.prec/\r.prec<(n1:Int))=false:=AG
    rw[this];simp
   have:decide (-1<=r.prec/\r.prec<(n1:Int))=false:=AG
   rw[this];simp)
  clear p;rcases R with g | ⟨g,a⟩ | ⟨g,a,I⟩;all_goals
   go_enter func66,ntmps66;go_wp2_with fail;go_ret;exact⟨by rw[v.out];rfl,(Zzq w _ _ ⟨a1,n1,c1,a2,n2,c2,a3,n3,c3⟩ _ _ _ _ _ _).1⟩
 have u:Hid (G.ruleOK r=r.right.all (G.symOK r.prec)):=LH (by
  rw[t.out];have o:decide (r.right.length<=6)=true:=AG
  have Z:decide (-1<=r.prec/\r.prec<(n1:Int))=true:=AG
  rw[o,Z];rfl)
 have V:=LH p;have W:=LH B;have X:=LH U;clear t p B U;go_enter func66,ntmps66;obtain⟨M,O,P⟩:=Zzq w 26 52 ⟨a1,n1,c1,a2,n2,c2,a3,n3,c3⟩ G.start r.left Ar r.right.length cr r.prec;go_wp2_with fail;go_loopw [5] (λi wr=>∃(k:Nat),k<=r.right.length/\i = .int .i64 (k:Int)/\Below w w wr/\Y1 wr w ⟨a1,n1,c1,a2,n2,c2,a3,n3,c3⟩ G.start/\Fl wr (w.heap.size+1) r.left Ar r.right.length cr r.prec/\Hid (∀j,j<k->∀y,r.right[j]? = some y->(!G.symOK r.prec y)=false)) (λi _=>r.right.length-(intOf i).toNat)
 case atStart=>exact⟨0,AU _,rfl,M,O,P,LH λj hj=>AA⟩
 clear M O P;obtain⟨k,hk,rfl,d,D,f,z⟩:=hrel;have⟨z5,z0,z1,z2,z3⟩:=D;have⟨y5,y0,y1,y2⟩:=f;simp only[] at z0 z1 z2 z3;by_cases aa:k<r.right.length
 ·obtain⟨b,aj,s,rfl,N,l,q0⟩:=W.out.get aa;rw[<-d.cell (by exact N)] at q0;have af:b<wr.heap.size:=AJ N d.size;have T:=V.out.below d;have F:=λ(x:Ext wr)=>rf_has ⟨a1,n1,c1,a2,n2,c2,a3,n3,c3⟩ G s (bl wr x) (T.below (Zr wr x)) (X.out s (AL l.out)) J L;have S:G.symOK r.prec s=(G.has s&&!(decide (0<=s)&&decide (r.prec=-1))):=rfl;have n:=LH S;have bc:=Yt wr;have Hx:=LH D;have E:=LH f;have c:=LH d;clear S T D f d;generalize G.has s=m at *;have CH:=LH F;clear F;have C:(m=false\/(m=true/\0<=s/\r.prec=-1))\/(m=true/\0<=s/\r.prec ≠ -1)\/(m=true/\s<0):=by
   cases m
   ·simp
   simp only[Bool.true_eq_false,false_or,true_and];omega
  rcases C with (rfl | ⟨rfl,g,a⟩) | ⟨rfl,g,a⟩ | ⟨rfl,g⟩
  ·have q:Hid (G.ruleOK r=false):=LH (by rw[u.out];exact Jy l.out (by rw[n.out];rfl));go_wp2_with fail;refine Zs AB AB ?_;repeat (go_big_quiet_step ((go_at_call 51;with_reducible exact Ve (CH.out _))))
   refine BK ?_;rintro _⟨x,rfl⟩;go_wp2_with fail;go_ret;exact⟨by rw[q.out];rfl,c.out.trans ((Zr wr x).mono c.out.size)⟩
  ·have q:Hid (G.ruleOK r=false):=LH (by rw[u.out];exact Jy l.out (by rw[n.out];simp[g,a]));have H:decide (0<=s)=true:=AG
   have Y:(r.prec == -1)=true:=by rw[BP];exact a
   clear a;go_wp2_with fail;refine Zs AB AB ?_;repeat (go_big_quiet_step ((go_at_call 51;with_reducible exact Ve (CH.out _))))
   refine BK ?_;rintro _⟨x,rfl⟩;go_wp2_with fail;go_ret;exact⟨by rw[q.out];rfl,c.out.trans ((Zr wr x).mono c.out.size)⟩
  ·have A:Hid ((!G.symOK r.prec s)=false):=LH (by rw[n.out];simp[a]);have H:decide (0<=s)=true:=AG
   have Y:(r.prec == -1)=false:=by rw[AP];exact a
   clear a;go_wp2_with fail;refine Zs AB AB ?_;repeat (go_big_quiet_step ((go_at_call 51;with_reducible exact Ve (CH.out _))))
   refine BK ?_;rintro _⟨x,rfl⟩;go_wp2_with fail;go_roundw
   case rel=>exact⟨k+1,AA,AF,c.out.trans ((Zr wr x).mono c.out.size),Hx.out.below (Zr wr x),E.out.below (Zr wr x),LH (Vz z.out l.out A.out)⟩
   simp[intOf];omega
  have A:Hid ((!G.symOK r.prec s)=false):=LH (by rw[n.out];simp;omega);have H:decide (0<=s)=false:=AG
  go_wp2_with fail;refine Zs AB AB ?_;repeat (go_big_quiet_step ((go_at_call 51;with_reducible exact Ve (CH.out _))))
  refine BK ?_;rintro _⟨x,rfl⟩;go_wp2_with fail;go_roundw
  case rel=>exact⟨k+1,AA,AF,c.out.trans ((Zr wr x).mono c.out.size),Hx.out.below (Zr wr x),E.out.below (Zr wr x),LH (Vz z.out l.out A.out)⟩
  simp[intOf];omega
 obtain rfl:k=r.right.length:=AA
 have v:Hid (G.ruleOK r=true):=LH (by
  rw[u.out];refine Cv λj y f=>?_;have:=z.out j (AN.1 f).1 y f;simpa using this)
 go_wp2_with fail;go_ret;exact⟨by rw[v.out];rfl,d⟩
theorem J5.next{S:List Nat}(l:We S)(d:InS S)(hi:i<S.length){R:Nat}(h:J5 S i R):J5 S i (Qd S R (Wy R)):=by
 refine⟨Zxv l _ h.1,λt a=>by rw[Ma,h.2.1 t a];rfl,λt a=>?_⟩;rw[Ma,CJ] at a;rcases a with a | a
 ·exact h.2.2 t a
 rw[Er] at a;obtain⟨k,g,c⟩:=a;have j:=((Zwo R k).1 g).2;obtain⟨b,f⟩:=h.2.2 k j;exact⟨d k t c,Zyy hi b f (Ha b c)⟩
theorem Wk.put1{w:World}{h:GH}{G:Gr}(k:Wk w p B h G)(t:Trm)(l:h.n1<24)(c:Option Addr)(d:Nat)(D:w1.ownsRow (p+1) 91 3 (.slice c (h.n1+1) d) (h.n1+1) (V8 G.terms++[.string t.name,.int .i64 t.level,.int .i64 t.assoc]))(m:w.grownBy w1 (V1 h).ownBlock)(q:∀b,(Value.slice c (h.n1+1) d).ownBlock=some b->b<w.heap.size->(V1 h).ownBlock=some b):
 Wk (w1.setCell ⟨p,0,none⟩ (.slice c (h.n1+1) d)) p B { h with a1:=c,n1:=h.n1+1,c1:=d } { G with terms:=G.terms++[t] } /\
 V6 w (w1.setCell ⟨p,0,none⟩ (.slice c (h.n1+1) d)) p h { h with a1:=c,n1:=h.n1+1,c1:=d }:=by
 obtain⟨cs,s,z⟩:=k.r3;have E:∀b,(V1 h).ownBlock=some b->b≠p:=λb a=>by have:=(k.r1.lt b a).1;omega
 have u:∀b,b≠p->(w1.setCell ⟨p,0,none⟩ (.slice c (h.n1+1) d)).heap[b]? = w1.heap[b]? := λb a=>Eb w1 ⟨p,0,none⟩ _ b a;have v:w.heap.size<=(w1.setCell ⟨p,0,none⟩ (.slice c (h.n1+1) d)).heap.size:=by simpa using m.size
 have r:∀b,b<w.heap.size->b≠p->(V1 h).ownBlock≠some b->(w1.setCell ⟨p,0,none⟩ (.slice c (h.n1+1) d)).heap[b]? = w.heap[b]? := λb a C n =>
  (u b C).trans (m.block b a λe=>n e.symm)
 have o:V6 w (w1.setCell ⟨p,0,none⟩ (.slice c (h.n1+1) d)) p h { h with a1:=c,n1:=h.n1+1,c1:=d }:=by
  refine⟨m.os,m.tape,m.output,v,λb a l=>r b a (λe=>l (.inl e)) λe=>l (.inr (.inl e)),?_⟩;rintro b a (f | f | f | f)
  ·exact .inl f
  ·exact .inr (.inl (q b f a))
  ·exact .inr (.inr (.inl f))
  exact .inr (.inr (.inr f))
 refine⟨⟨?_,?_,?_,⟨cs,?_,?_⟩,?_,?_,?_,k.st,k.wf,by show h.n1+1<=24;omega,k.b2,k.b3⟩,o⟩
 ·have y:Blk w1 p 193 (Q0 h):=k.blk.grown m λe=>E p e.symm rfl;exact Blk.set y 0 (.slice c (h.n1+1) d)
 ·rw[trmCs_snoc];exact Yq D λb a _ _=>u b AA
 ·exact Yq k.r2 λb a g j=>r b j AA λe=>k.d12 b e g
 ·exact Yq s λb a x j=>r b j AA λe=>k.d13 b e x
 ·exact z.keep v λb a l=>⟨o.keep b a l.1,λA=>l.1 (o.back b a A),l.2⟩
 ·intro b n g;have j:=(k.r2.lt b g).2;exact k.d12 b (q b n j) g
 ·intro b n g;have j:=(s.lt b g).2;exact k.d13 b (q b n j) g
 exact k.d23
theorem Wk.put3{w:World}{h:GH}{G:Gr}(k:Wk w p B h G)(t:Nat)(D:B<=t)(r:Rul)(R:∀s∈r.right,U3 s)(f:h.n3<40)(c:Option Addr)(d:Nat)(Ar:Option Addr)(cr:Nat)(N:Za .i64 w Ar r.right.length cr r.right)(O:∀b S,Ar=some ⟨b,S,none⟩->b<w.heap.size/\¬J8 p h b/\b<t/\p<b)(J:∀cs,w.ownsRow (p+1) 52 3 (V3 h) h.n3 cs->Kz w (λk=>¬J8 p h k/\k<B/\p<k) cs G.rules->w1.ownsRow (p+1) 52 3 (.slice c (h.n3+1) d) (h.n3+1) (cs++[.int .i64 r.left,.slice Ar r.right.length cr,.int .i64 r.prec]))(n:w.grownBy w1 (V3 h).ownBlock)(v:∀b,(Value.slice c (h.n3+1) d).ownBlock=some b->b<w.heap.size->(V3 h).ownBlock=some b):
 Wk (w1.setCell ⟨p,2,none⟩ (.slice c (h.n3+1) d)) p t { h with a3:=c,n3:=h.n3+1,c3:=d } { G with rules:=G.rules++[r] } /\
 V6 w (w1.setCell ⟨p,2,none⟩ (.slice c (h.n3+1) d)) p h { h with a3:=c,n3:=h.n3+1,c3:=d }:=by
 obtain⟨cs,y,z⟩:=k.r3;have L:=J cs y z;have M:∀b,(V3 h).ownBlock=some b->b≠p:=λb a=>by have:=(y.lt b a).1;omega
 have A:∀b,b≠p->(w1.setCell ⟨p,2,none⟩ (.slice c (h.n3+1) d)).heap[b]? = w1.heap[b]? := λb a=>Eb w1 ⟨p,2,none⟩ _ b a;have C:w.heap.size<=(w1.setCell ⟨p,2,none⟩ (.slice c (h.n3+1) d)).heap.size:=by simpa using n.size
 have x:∀b,b<w.heap.size->b≠p->(V3 h).ownBlock≠some b->(w1.setCell ⟨p,2,none⟩ (.slice c (h.n3+1) d)).heap[b]? = w.heap[b]? := λb a I j =>
  (A b I).trans (n.block b a λe=>j e.symm)
 have u:V6 w (w1.setCell ⟨p,2,none⟩ (.slice c (h.n3+1) d)) p h { h with a3:=c,n3:=h.n3+1,c3:=d }:=by
  refine⟨n.os,n.tape,n.output,C,λb a f=>x b a (λe=>f (.inl e)) λe=>f (.inr (.inr (.inr e))),?_⟩;rintro b a (g | g | g | g)
  ·exact .inl g
  ·exact .inr (.inl g)
  ·exact .inr (.inr (.inl g))
  exact .inr (.inr (.inr (v b g a)))
 refine⟨⟨?_,?_,?_,⟨cs++[.int .i64 r.left,.slice Ar r.right.length cr,.int .i64 r.prec],?_,?_⟩,?_,?_,?_,k.st,?_,k.b1,k.b2,by show h.n3+1<=40;omega⟩,u⟩
 ·have E:Blk w1 p 193 (Q0 h):=k.blk.grown n λe=>M p e.symm rfl;exact Blk.set E 2 (.slice c (h.n3+1) d)
 ·exact Yq k.r1 λb a l m=>x b m AA λe=>k.d13 b l e
 ·exact Yq k.r2 λb a l m=>x b m AA λe=>k.d23 b l e
 ·exact Yq L λb a _ _=>A b AA
 ·have F:Kz w (λk=>¬J8 p h k/\k<t/\p<k) cs G.rules:=z.keep (AI _) λb _ f=>⟨rfl,f.1,AJ f.2.1 D,f.2.2⟩;exact (F.snoc r N O).keep C λb a f=>⟨u.keep b a f.1,λH=>f.1 (u.back b a H),f.2⟩
 ·exact k.d12
 ·intro b j l;have m:=(k.r1.lt b j).2;exact k.d13 b j (v b l m)
 ·intro b j l;have m:=(k.r2.lt b j).2;exact k.d23 b j (v b l m)
 intro q o;rcases DH.1 o with o | o
 ·exact k.wf q o
 rw[BV.1 o];exact R
theorem Wk.away{w:World}{h:GH}{G:Gr}(k:Wk w p B h G)(m:w.heap.size<=w'.heap.size)(c:∀b,b<w.heap.size->(J8 p h b\/b<B)->w'.heap[b]? = w.heap[b]?):Wk w' p B h G:=by
 obtain⟨cs,g,l⟩:=k.r3;exact⟨(c p k.lt (.inl (.inl rfl))).trans k.blk,Yq k.r1 λb _ a d=>c b d (.inl (.inr (.inl a))),Yq k.r2 λb _ a d=>c b d (.inl (.inr (.inr (.inl a)))),
  ⟨cs,Yq g λb _ a d=>c b d (.inl (.inr (.inr (.inr a)))),l.keep m λb j f=>⟨c b j (.inr f.2.1),f⟩⟩,k.d12,k.d13,k.d23,k.st,k.wf,k.b1,k.b2,k.b3⟩
theorem Wk.foot_lt{w:World}{h:GH}{G:Gr}(k:Wk w p B h G){b:Nat}(d:J8 p h b):b<w.heap.size:=by
 obtain⟨cs,c,_⟩:=k.r3;rcases d with a | a | a | a
 ·rw[a];exact k.lt
 ·exact (k.r1.lt b a).2
 ·exact (k.r2.lt b a).2
 exact (c.lt b a).2
theorem V6.nf{w:World}{h a:GH}(T:V6 w w' p h a)(b:g<w.heap.size)(d:¬J8 p h g):¬J8 p a g:=λc=>d (T.back g b c)
theorem Ztg(p:Nat)(ts:List Tk)(w:World)(h:Wc w p ts):
 Calls prog 191 #[.pointer (some ⟨p,0,none⟩)] w λe w'=>e = .returned (.int .i64 (Qy ts))/\w=w':=by
 have g:=h.len;obtain⟨A,c,x,y,G,I,a,u,f,l,z,B,C⟩:=h.parts;cases ts with
 | nil =>
   clear h a f;go_enter func191,ntmps191;go_wp2_with fail;go_ret;exact⟨rfl,rfl⟩
 | cons t ts =>
   obtain⟨b,v,H,J,rfl,m,q,D,E,F⟩:=a.head;show Calls _ _ _ _ λe w'=>e = .returned (.int .i64 t.1)/\w=w';obtain⟨n,d⟩:∃n,(t::ts).length=n:=⟨_,rfl⟩;have r:0<n:=by rw[<-d];simp
   have j:=a.2.1;have o:=a.2.2.1;rw[d] at l g j;generalize t.1=k at *;generalize t.2=s at *;clear h a f d;go_enter func191,ntmps191;go_wp2_with fail;go_ret;exact⟨rfl,rfl⟩
theorem rd_is(p:Nat)(a b:Int)(ts:List Tk)(w:World)(h:Wc w p ts):
 Calls prog 225 #[.pointer (some ⟨p,0,none⟩),.int .i64 a,.int .i64 b] w λe w'=>e = .returned (.bool (isP a b ts))/\w=w':=by
 have q:=h.len;have g:=LH (Ztg p ts w h);obtain⟨A,c,x,y,F,G,f,B,l,s,C,D,E⟩:=h.parts;cases ts with
 | nil =>
   clear h f l;go_enter func225,ntmps225;go_wp2_with fail;go_ret;exact⟨rfl,rfl⟩
 | cons t ts =>
   obtain⟨n,j⟩:∃n,(t::ts).length=n:=⟨_,rfl⟩;have z:0<n:=by rw[<-j];simp
   have r:=f.2.1;have v:=f.2.2.1;rw[j] at s q r;have hd:isP a b (t::ts)=(decide (t.1=a) || decide (t.1=b)):=rfl;have m:Qy (t::ts)=t.1:=rfl;rw[hd];rw[m] at g;generalize t.1=k at *;clear h f l j hd m;by_cases d:k=a
   ·have o:(k==a)=true:=by simp[d]
    rw[show (decide (k=a) || decide (k=b))=true by simp[d]];clear d;go_enter func225,ntmps225;go_wp2_with (go_at_call 191;(with_reducible refine g.out.mono ?_);rintro e u⟨rfl,rfl⟩);go_ret;exact⟨rfl,rfl⟩
   have o:(k==a)=false:=by rw[AP];exact d
   rw[show (decide (k=a) || decide (k=b))=(k==b) by rw[BZ];simp[d]];clear d;go_enter func225,ntmps225;go_wp2_with (go_at_call 191;(with_reducible refine g.out.mono ?_);rintro e u⟨rfl,rfl⟩);go_ret;exact⟨rfl,rfl⟩
theorem Wc.rem{w:World}(h:Wc w p ts):Zyp w p=ts.length:=by
 obtain⟨A,c,x,y,l,m,f,d,b,a,g,j,k⟩:=h.parts;unfold Zyp;rw[a]
theorem Wc.app{w:World}{e n:Nat}(h:Wc w p ts)(a:w.grownBy w' (Value.slice A n c).ownBlock)(d:w.ownsRow base e size (.slice A n c) n xs)(g:p<base):Wc w' p ts :=
 h.keep a.size λk f b=>a.block k b λe=>by have:=(d.lt k e.symm).1;omega
theorem Qg{w:World}{e n:Nat}(a:w.ownsRow base e size (.slice A n c) n xs)(g:w.grownBy w' (some p))(h:p<base):w'.ownsRow base e size (.slice A n c) n xs :=
 Wv a λb d f=>g.block b f λe=>by injection e with e;have:=(a.lt b d).1;omega
theorem grown_app{w:World}{e n:Nat}(h:w.grownBy w1 (some p))(a:w1.grownBy w' (Value.slice A n c).ownBlock)(f:w1.ownsRow base e size (.slice A n c) n xs)(g:w.heap.size<=base):w.grownBy w' (some p) :=
 ⟨a.os.trans h.os,a.tape.trans h.tape,a.output.trans h.output,BC h.size a.size,λk b d=>(a.block k (AJ b h.size) λe=>by have:=(f.lt k e.symm).1;omega).trans (h.block k b d)⟩
theorem rd_decls(p:Nat)(ts:List Tk)(w:World)(h:Wc w p ts)(a:Qy ts=9):
 Calls prog 188 #[.pointer (some ⟨p,0,none⟩)] w λe w'=>e = .returned (.slice none 0 0)/\w=w':=by
 have g:=h.len;have b:=LH (Ztg p ts w h);rw[a] at b;obtain⟨A,c,x,y,u,v,f,k,d,l,m,q,r⟩:=h.parts;have j:0<ts.length:=by
  cases ts with
  | nil=>cases a
  | cons t ts=>simp
 generalize ts.length=n at *;clear h f d a;go_enter func188,ntmps188;go_wp2_with fail;go_loopw [3] (λo wr=>o = .slice none 0 0/\wr=w) (λ_ _=>0)
 case atStart=>exact⟨rfl,rfl⟩
 obtain⟨rfl,rfl⟩:=hrel;go_wp2_with (go_at_call 191;(with_reducible refine b.out.mono ?_);rintro e s⟨rfl,rfl⟩);go_ret;exact⟨rfl,rfl⟩
theorem Zyt.early{wr c:World}{y:Nat}{g:List ByteArray}{t:List Tk}{u:TypeId}{s:List Value}(F:p<wr.heap.size)(j:(wr.alloc o).drew.grownBy c (some p))(r:c.ownsRow (wr.alloc o).drew.heap.size u 2 (.slice Ar g.length cr) g.length s)(D:Gi s g)(C:Wc c p t)(z:Blk c wr 199 #[.string ⟨#[]⟩,.complex .f64 0 0,.slice none 0 0,.string ⟨#[]⟩,.complex .f64 0 0]):
 Zyt wr (((((c.setCell ⟨wr,0,none⟩ (.string L)).setCell ⟨wr,1,none⟩ (.complex .f64 x y)).setCell ⟨wr,2,none⟩ (.slice Ar g.length cr)).setCell ⟨wr,3,none⟩ (.string ⟨#[]⟩)).setCell ⟨wr,4,none⟩ (.complex .f64 0 0)) p wr Ar cr L x y g ⟨#[]⟩ 0 0 t:=by
 have a:c.grownBy (((((c.setCell ⟨wr,0,none⟩ (.string L)).setCell ⟨wr,1,none⟩ (.complex .f64 x y)).setCell ⟨wr,2,none⟩ (.slice Ar g.length cr)).setCell ⟨wr,3,none⟩ (.string ⟨#[]⟩)).setCell ⟨wr,4,none⟩ (.complex .f64 0 0)) (some wr) :=
  Zc (Zc (Zc (Zc (Zd _ _ _ _) (Zd _ _ _ _)) (Zd _ _ _ _)) (Zd _ _ _ _)) (Zd _ _ _ _)
 have A:=(((((z.set 0 (.string L)).set 1 (.complex .f64 x y)).set 2 (.slice Ar g.length cr)).set 3 (.string ⟨#[]⟩)).set 4 (.complex .f64 0 0));have q:(wr.alloc o).drew.heap.size=wr.heap.size+1:=Zl wr o;have E:wr.heap.size+1<=c.heap.size:=by rw[<-q];exact j.size
 have l:∀b f,Ar=some ⟨b,f,none⟩->wr.heap.size+1<=b/\b<c.heap.size:=λb f h=>by
  have d:=r.lt b (by rw[h];rfl);rwa [q] at d
 refine⟨AI _,A,(own_rfs r D).keep a.size λb f h B=>a.block b B λe=>?_,λb f h=>?_,λb f h=>?_,C.keep a.size λk d v=>a.block k v λe=>?_,?_⟩
 ·injection e with e;have:=(l b f h).1;omega
 ·have:=l b f h;exact⟨AA,AJ this.2 a.size⟩
 ·have:=l b f h;omega
 ·injection e with e;omega
 have d:wr.grownBy c (some p):=by
  refine⟨j.os,j.tape,j.output,AA,λk m n=>?_⟩;exact (j.block k (by rw[q];omega) n).trans ((Zy wr o).block k m)
 refine⟨a.os.trans d.os,a.tape.trans d.tape,a.output.trans d.output,BC d.size a.size,λk m n=>?_⟩;rw[a.block k AA (λe=>by injection e with e;omega),d.block k m n]
theorem Zs9{g wr v o:World}{d I y px py:Nat}{z:Option Addr}{e:TypeId}{pr:ByteArray}{F:List Tk}(N:p<g.heap.size)(j:g.grownBy wr (some p))(H:wr.ownsRow g e 5 (.slice A d c) d cs)(G:Vu wr (λb=>g.heap.size<=b/\(Value.slice A d c).ownBlock≠some b) cs done)(a:Zyt wr v p I Ar cr L x y n pr px py F)(f:v.grownBy o (Value.slice A d c).ownBlock)(C:∀b,(Value.slice z (d+1) B).ownBlock=some b->b<v.heap.size->(Value.slice A d c).ownBlock=some b):
 Vu o (λb=>g.heap.size<=b/\(Value.slice z (d+1) B).ownBlock≠some b) (cs++[.string L,.complex .f64 x y,.slice Ar n.length cr,.string pr,.complex .f64 px py]) (done++[⟨L,n,pr⟩])/\g.grownBy o (some p)/\Wc o p F:=by
 have O:=j.size;have P:=a.gr.size;have E:=f.size;have m:∀b,(Value.slice A d c).ownBlock=some b->g.heap.size<=b/\b<wr.heap.size:=λb h=>H.lt b h;refine⟨Vu.app (G.keep AA λk t J=>?_) (Vu.one ⟨L,n,pr⟩ x y px py ?_ λb u s=>?_),?_,?_⟩
 ·obtain⟨q,l⟩:=J;refine⟨?_,q,λr=>l (C k r AA)⟩;rw[f.block k AA (λh=>l h.symm),a.gr.block k t (λh=>by injection h with h;omega)]
 ·refine a.row.keep E λb u s M=>f.block b M λh=>?_;have:=(a.fresh b u s).1;have:=(m b h.symm).2;omega
 ·have q:=a.fresh b u s;refine⟨AA,AA,λr=>?_⟩;have:=(m b (C b r AA)).2;omega
 ·refine⟨f.os.trans (a.gr.os.trans j.os),f.tape.trans (a.gr.tape.trans j.tape),f.output.trans (a.gr.output.trans j.output),AA,λk t D=>?_⟩;rw[f.block k AA (λh=>by have:=(m k h.symm).1;omega),a.gr.block k AA D,j.block k t D]
 exact a.rd.keep E λk q l=>f.block k l λh=>by have:=(m k h.symm).1;omega
theorem rf_alone(Ar:Option Addr)(r cr g n q:Nat)(ss:List Int)(N:List Bool)(w:World)(o:Za .i64 w Ar r cr ss)(v:Z8 w g N)(b:N.length=n)(R:n<=1000)(d:∀s∈ss,-(n:Int)<=s/\s<=1000)(hq:q<=1000)(Z:r<=1000):
 Calls prog 114 #[.slice Ar r cr,.int .i64 (q:Int),.slice (some ⟨g,0,none⟩) n n] w λe w'=>e = .returned (.bool (J6 N ss q))/\w=w':=by
 obtain rfl:=o.len;have X:=o.cap;have J:=LH d;have F:=LH v;clear d v;go_enter func114,ntmps114;go_wp2_with fail;go_loop [7] (λi=>∃(k:Nat),k<=ss.length/\i = .int .i64 (k:Int)/\Hid (∀p,p<k->∀s,ss[p]? = some s->p≠q->Xg N s=true)) (λi=>ss.length-(intOf i).toNat)
 case atStart=>exact⟨0,AU _,rfl,LH λj L=>AA⟩
 obtain⟨k,Y,rfl,f⟩:=hrel;by_cases M:k<ss.length
 ·obtain⟨U,ad,s,rfl,W,l,q0⟩:=o.get M;obtain⟨T,s2⟩:=J.out s (AL l.out);by_cases m:k=q
  ·have D:∀p,p<k+1->∀s,ss[p]? = some s->p≠q->Xg N s=true:=λp c s d a=>f.out p AA s d a;have I:=LH D;have a:((k:Int) != (q:Int))=false:=by rw[BS];omega
   clear D m;go_wp2_with fail;go_roundw
   case rel=>exact⟨k+1,AA,AF,I⟩
   simp[intOf];omega
  have a:((k:Int) != (q:Int))=true:=by rw[BN];omega
  have B:Xg N s=true->∀p,p<k+1->∀s,ss[p]? = some s->p≠q->Xg N s=true:=λb p c y E a=>by
   rcases BD p k with h | h
   ·exact f.out p h y E a
   obtain rfl:p=k:=AA
   have:=l.out.symm.trans E;injection this with this;rw[<-this];exact b
  have A:Xg N s=false->J6 N ss q=false:=λb=>alone_false l.out m b;have t:=LH A;have H:=LH B;clear A B m;by_cases V:0<=s
  ·have O:Hid (Xg N s=false):=LH (by unfold Xg;rw[show decide (s<0)=false by rw[AY];omega];rfl);go_wp2_with fail;go_ret;exact⟨by rw[t.out O.out];rfl,rfl⟩
  obtain⟨j,L,S,hw⟩:=Vy (s:=s) (n:=n) AA T R;have c0:=F.out.at (i:=j) AA;have C:Xg N s=N.getD j false:=by unfold Xg;rw[show decide (s<0)=true by rw[BB];omega,S];rfl
  have u:=LH C;clear C;generalize N.getD j false=x at *;rcases (by cases x <;> simp:x=false\/x=true) with rfl | rfl
  ·go_wp2_with fail;go_ret;exact⟨by rw[t.out u.out];rfl,rfl⟩
  go_wp2_with fail;go_roundw
  case rel=>exact⟨k+1,AA,AF,LH (H.out u.out)⟩
  simp[intOf];omega
 obtain rfl:k=ss.length:=AA
 have z:J6 N ss q=true:=alone_true λp s c a=>f.out p (AN.1 c).1 s c a;have G:=LH z;clear z;go_wp2_with fail;go_ret;exact⟨by rw[G.out];rfl,rfl⟩
theorem use_closed(G:Gr)(f:G.Fits):∀i t,(Qm G).testBit i=true->((Yz G).getD i 0).testBit t=true->(Qm G).testBit t=true:=by
 intro i t hi u;rw[Gl G f] at hi ⊢;have m:Yy (Yp (Zt G)) G.rules (Z5 G)=Z5 G:=by
  have:=(Wn (Yp (Zt G)) G.rules).fix (Xv G);have a:(Xv G).length=G.nons.length:=by unfold Xv;simp
  rw[a] at this;exact this
 refine Zva (λi t=>((Zt G).getD i false=true/\(Z5 G).getD i false=true)->(Zt G).getD t false=true/\(Z5 G).getD t false=true) (Zj G) (Zt G) G.rules (λr l k s q d hi=>?_) _ (λi t h=>?_) i t u hi
 ·unfold Xk at d;simp only[AR,decide_eq_true_eq] at d;obtain⟨⟨h0,_⟩,j⟩:=d;have c:=AL q;have v:=f.sym r l s c;refine⟨?_,?_⟩
  ·have b:=j;unfold Xj at b;rw[BG] at b;have:=b s c;rwa [if_neg AA] at this
  have g:=Ge (Yp (Zt G)) G.rules m r l;have n:Dr (Zt G) r (Z5 G)=true:=by unfold Dr;rw[hi.2,j];rfl
  have o:Yp (Zt G) r (Z5 G)=Uq r.right:=by unfold Yp;rw[if_pos n]
  rw[o] at g;have p:-1-s∈Uq r.right:=by
   unfold Uq;rw[CW];exact⟨s,List.mem_filter.2 ⟨c,by rw[BB];exact h0⟩,rfl⟩
  have:=Zxo (Uq r.right) (N:=Z5 G) p (by rw[K9];omega);rw[g] at this;exact this
 rw[AO] at h;rcases BD i G.nons.length with a | a
 ·simp[a] at h
 simp[BE,a] at h
theorem Mx.fail{G:Gr}{w:World}{a:Int}(h:N5 G=([],a))(b:Below w w w'):Mx G w (.returned (.tuple #[.slice none 0 0,.int .i64 a])) w':=by
 unfold Mx;rw[h];exact⟨b,none,0,rfl,Yl (BJ _ 0 3 1)⟩
theorem Wk.lens{w:World}{h:GH}{G:Gr}(k:Wk w p B h G):G.terms.length=h.n1/\G.nons.length=h.n2/\G.rules.length=h.n3:=⟨k.grAt.terms.len,k.grAt.nons.len,k.grAt.rules.len⟩
theorem termP_keep{G a:Gr}{i:Int}(h:Zzj G s=some (i,a))(h1:G.terms.length<=24):a.nons=G.nons/\a.rules=G.rules/\a.start=G.start/\-17<=i/\i<=24:=by
 unfold Zzj at h;by_cases h0:0<=G.term s
 ·rw[if_pos h0] at h;simp only[BM,CZ] at h;obtain⟨rfl,rfl⟩:=h;have b:=(U9 (λt=>decide (t.name=s)) G.terms).2;have c:G.term s=Y8 (λt=>decide (t.name=s)) G.terms:=rfl;exact⟨rfl,rfl,rfl,AA,AA⟩
 rw[if_neg h0] at h;split at h
 ·cases h
 simp only[BM,CZ] at h;obtain⟨rfl,rfl⟩:=h;exact⟨rfl,rfl,rfl,AA,AA⟩
theorem Cm{b:Bool}{G a:Gr}{i:Int}(h:Nl b G s=some (i,a))(h1:G.terms.length<=24)(c:G.nons.length<=16):a.nons=G.nons/\a.rules=G.rules/\a.start=G.start/\-17<=i/\i<=24:=by
 rcases Bu h with ⟨h0,_,rfl,rfl⟩ | ⟨_,h0,_⟩
 ·have d:=(U9 (λt=>decide (t=s)) a.nons).2;have f:a.non s=Y8 (λt=>decide (t=s)) a.nons:=rfl;exact⟨rfl,rfl,rfl,AA,AA⟩
 exact termP_keep h0 h1
theorem right_more{w d x l:World}{q j t m:Nat}{h k:GH}{y:Gr}{f s:Option Addr}{u:List Int}{C:Int}{P:Array Value}(A:Wk d p w k y)(n:V6 w d p h k)(I:d.ownsRow m 3 1 (.slice f j g) j (ints .i64 u))(B:∀b,(Value.slice f j g).ownBlock=some b->¬J8 p k b)(F:¬J8 p k q)(O:w.heap.size<q)(N:q<m)(M:m<=d.heap.size)(z:Blk d w 199 P)(J:x.ownsRow m 3 1 (.slice s (j+1) t) (j+1) (ints .i64 u++[.int .i64 C]))(r:d.grownBy x (Value.slice f j g).ownBlock)(E:∀b,(Value.slice s (j+1) t).ownBlock=some b->b<d.heap.size->(Value.slice f j g).ownBlock=some b)(o:x.grownBy l (some q)):
 Wk l p w k y/\V6 w l p h k/\l.ownsRow m 3 1 (.slice s (j+1) t) (j+1) (ints .i64 (u++[C]))/\(∀b,(Value.slice s (j+1) t).ownBlock=some b->¬J8 p k b)/\Blk l w 199 P/\d.heap.size<=l.heap.size:=by
 have R:=r.size;have S:=o.size;have T:=n.size;have L:∀b,(Value.slice f j g).ownBlock=some b->m<=b/\b<d.heap.size:=λb c=>I.lt b c;have key:∀b,b<d.heap.size->b≠q->(Value.slice f j g).ownBlock≠some b->l.heap[b]? = d.heap[b]? := λb c h1 D =>
  (o.block b AA (by intro e;injection e with e;exact h1 e)).trans (r.block b c λe=>D e.symm)
 have v:∀b,b<=w.heap.size->(Value.slice f j g).ownBlock≠some b:=λb c e=>by have:=(L b e).1;omega
 refine⟨A.away AA λb c a=>key b c ?_ ?_,⟨o.os.trans (r.os.trans n.os),o.tape.trans (r.tape.trans n.tape),o.output.trans (r.output.trans n.output),AA,λb c H=>?_,n.back⟩,?_,λb c a=>?_,?_,AA⟩
 ·rcases a with a | a
  ·intro e;rw[e] at a;exact F a
  omega
 ·rcases a with a | a
  ·intro e;exact B b e a
  exact v b AA
 ·rw[key b AA AA (v b AA),n.keep b c H]
 ·rw[Zzm];exact Yq J λb c _ G=>o.block b G (by intro e;injection e with e;omega)
 ·have:=A.foot_lt a;exact B b (E b c this) a
 exact (key _ z.lt AA (v _ (AI _))).trans z
theorem Zwr.early{W a:World}{n:Int}(c:Below (W.alloc o).drew.heap.size (W.alloc o).drew a)(b:Blk a W 52 #[.int .i64 0,.slice none 0 0,.int .i64 0]):
 Zwr W (((a.setCell ⟨W,0,none⟩ (.int .i64 n)).setCell ⟨W,1,none⟩ (.slice none 0 0)).setCell ⟨W,2,none⟩ (.int .i64 (-1))) W n:=by
 have h1:Below W W a:=Zz ((Zy W o).drew) c;exact⟨AI _,((b.set 0 (.int .i64 n)).set 1 (.slice none 0 0)).set 2 (.int .i64 (-1)),Zg (Zg (Zg h1 _ _ _ (AI _)) _ _ _ (AI _)) _ _ _ (AI _)⟩
theorem Jc.tab{w:World}{n N:Nat}{tab:Nat->Nat->Nat}(h:Jc w B A n c N a tab):Zyq w A n c N tab:=by
 have d:=Yl h.own;have l:=h.len;refine⟨d.2.1,d.2.2.1,λp=>?_⟩;obtain⟨b,k,e,g,j⟩:=d.2.2.2 AG;refine⟨b,k,e,g,λm o=>?_⟩;have f:a[m]? = some (a[m]' AA):=AM AA;refine⟨_,?_,(h.row m _ f).2⟩;rw[j m AG,BA,f];rfl
theorem Zv2{a b:Nat}(c:a<big)(d:b<big)(h0:0<b):M2 (limbs a) (limbs b)=(limbs (a / b),limbs (a % b),0):=by
 have f:limbs b≠[]:=λe=>by have:=Lq.1 (by rw[e];rfl:(limbs b).length=0);omega
 simp[M2,Ym a c,Ym b d,Yd,f]
theorem rulesT_take{a:List Rul}{k:Nat}(b:a[k]? = some r)(i n:Nat):Yc T (a.take (k+1)) i n=Yc T (a.take k) i n+(if r.left.toNat=i then Zx T r.right n else 0):=by
 rw[DA,b];exact Gg T _ r i n
section
open Go.ChangeShapes Go.WideShapes Go.ChangeAt Go.RowKit
open Ieee
def atP(a:List Nat)(i:Int):Value:=if 0<=i/\i<=a.length then PV (atN (a.take i.toNat)).1 (atN (a.take i.toNat)).2 else PV 0 0
theorem B0(A:Option Addr)(n c:Nat)(a:List Nat)(i:Int)(w:World)(h:Zq .u8 w A n c a)(O:n<=100000):
 Calls prog 186 #[.slice A n c,.int .i64 i] w λe w'=>e = .returned (atP a i)/\w=w':=by
 obtain rfl:=h.len;have I:=h.cap;by_cases hi:0<=i/\i<=a.length
 case neg =>
  have y:atP a i = .complex .f64 0 0:=by unfold atP;rw[if_neg hi,PV_zero]
  rw[y];have F:i<0\/(0<=i/\(a.length:Int)<i):=AA
  rcases F with g | ⟨g,G⟩;all_goals
   go_enter func186,ntmps186;go_wp2;go_ret;exact⟨rfl,rfl⟩
 have t:Hid (atP a i=PV (atN (a.take i.toNat)).1 (atN (a.take i.toNat)).2):=LH (by unfold atP;rw[if_pos hi]);obtain⟨m,rfl⟩:∃m:Nat,i=(m:Int):=⟨i.toNat,AA⟩;obtain⟨J,L⟩:=hi;rw[DF] at t;go_enter func186,ntmps186;go_wp2;go_loop [5,6,7] (λl E i=>∃k d f:Nat,k<=m/\i = .int .i64 (k:Int)/\l = .int .i64 (d:Int)/\E = .int .i64 (f:Int)/\Hid (atN (a.take k)=(d,f))) (λ_ _ i=>m-(intOf i).toNat)
 case atStart=>exact⟨0,1,1,AU _,rfl,rfl,rfl,LH rfl⟩
 obtain⟨k,d,f,M,rfl,rfl,rfl,s⟩:=hrel;have o:=atN_bd (a.take k);have R:(a.take k).length<=100000:=by rw[BY];omega
 rw[s] at o;simp only[] at o;by_cases N:k<m
 ·obtain⟨b,T,x,rfl,H,Hx,p⟩:=h.get (j:=k) AA;have r:atN (a.take (k+1))=H9 (d,f) x:=by
   rw[DA,Hx,<-s];exact atN_snoc _ _
  by_cases v:x=10
  ·subst v;have u:=LH r;go_wp2;go_round
   case rel=>exact⟨k+1,d+1,1,AA,AF,AF,rfl,LH (by rw[u];simp[H9])⟩
   simp[intOf];omega
  have u:=LH r;have S:((x:Int)==10)=false:=by rw[AP];omega
  have D:=LH v;go_wp2;go_round
  case rel=>exact⟨k+1,d,f+1,AA,AF,rfl,AF,LH (by rw[u];simp[H9,D.out])⟩
  simp[intOf];omega
 obtain rfl:k=m:=AA
 have p:=ref_of (d:Int) (f:Int) w;rw[ofP_of d f (okP_of o.1 AA o.2.2.1 AA)] at p;have z:atP a (k:Int)=PV d f:=by rw[t,s]
 generalize PV d f=q at *;have C:=LH z;have B:=LH p;go_wp2_with (go_at_call 220;refine B.out.mono ?_;rintro e w'⟨rfl,rfl⟩);go_ret;exact⟨by rw[C];rfl,rfl⟩
end
theorem rf_one_name(A:Option Addr)(n c i f:Nat)(xs:List Nat)(w:World)(h:Zq .u8 w A n c xs)(I:∀x∈xs,x<256)(hn:n<=100000)(hi:i<n)(G:Xf (xs.getD i 0)=true)(ao:i<f)(ap:f<=n)(aq:f<=i+20)(S:∀k,i<k->k<f->Wa (xs.getD k 0)=true)(T:f<n->Wa (xs.getD f 0)=false):
 Calls prog 187 #[.slice A n c,.int .i64 (i:Int)] w λe w'=>e = .returned (.tuple #[TokV 1 ((xs.drop i).take (f-i)) (atP xs i),.int .i64 (f:Int),.int .i64 0])/\Below w w w':=by
 obtain rfl:=h.len;have an:=h.cap;obtain⟨b,E,x,rfl,al,Hx,hc⟩:=h.get hi;have U:xs.getD i 0=x:=by rw[AO,Hx.out];rfl
 rw[U] at G;have H:=LH h;have CT:=LH λW (z:Below w w W)=>B0 (some ⟨b,E,none⟩) xs.length c xs (i:Int) W (h.below z) hn;have aj:x<256:=I x (AL Hx.out);have N:=LH λW=>K6 x W aj;rw[G] at N;obtain⟨o,q,R⟩:∃a b,atP xs (i:Int) = .complex .f64 a b:=by
  unfold atP PV;split
  ·exact⟨_,_,rfl⟩
  exact⟨_,_,rfl⟩
 rw[R] at CT ⊢;have O:=LH I;have X:=LH S;have Y:=LH T;clear h I G U R S T;have r:=Zy w (.cells #[.int .i64 0,.string ⟨#[]⟩,.complex .f64 0 0] 231);have au:∀(w:World) (a:Addr) (k:FloatKind) (x y:Nat) (m:Mode),(store a (.complex k x y) m).run prog w=stored prog w a (.complex k x y) m:=λw a k x y m=>run_store prog w a _ m rfl;go_enter func187,ntmps187;go_wp2_with (first
  | (go_at_call 186;(with_reducible refine (CT.out _ r).mono ?_);rintro e w2⟨rfl,rfl⟩)
  | (go_at_call 173;(with_reducible refine (N.out _).mono ?_);rintro e V⟨rfl,rfl⟩))
 go_loop [9] (λv=>∃(k:Nat),i<k/\k<=f/\v = .int .i64 (k:Int)) (λv=>xs.length-(intOf v).toNat)
 case atStart=>exact⟨i+1,AA,AA,AF⟩
 obtain⟨k,ab,ar,rfl⟩:=hrel;by_cases ad:k<f
 ·obtain⟨Z,ak,y,g,_,t,aa⟩:=H.out.get (j:=k) AA;injection g with g;injection g with g e3;subst g e3;have D:xs.getD k 0=y:=by rw[AO,t.out];rfl
  have d:=X.out k ab ad;rw[D] at d;have s:=LH λW=>Zy7 y W (O.out y (AL t.out));rw[d] at s;have J:k<xs.length:=AA
  clear d D;go_wp2_with (go_at_call 174;(with_reducible refine (s.out _).mono ?_);rintro e V⟨rfl,rfl⟩);go_round
  case rel=>exact⟨k+1,AA,AA,AF⟩
  simp[intOf];omega
 obtain rfl:k=f:=AA
 by_cases J:k<xs.length
 ·obtain⟨Z,ak,y,g,_,t,aa⟩:=H.out.get (j:=k) J;injection g with g;injection g with g e3;subst g e3;have D:xs.getD k 0=y:=by rw[AO,t.out];rfl
  have d:=Y.out J;rw[D] at d;have s:=LH λW=>Zy7 y W (O.out y (AL t.out));rw[d] at s;clear d D;go_wp2_with (go_at_call 174;(with_reducible refine (s.out _).mono ?_);rintro e V⟨rfl,rfl⟩);have l:∀W,Below w w W->(convert 72 9 (.slice (some ⟨b,E+i,none⟩) (k-i) (c-i))).run prog W = .ok (.string (str ((xs.drop i).take (k-i)))) W:=λW z=>by
   have L:=(H.out.below z).part i (k-i) (c-i) AA AA AA;have d:((xs.drop i).take (k-i)).length=k-i:=by rw[BY,DC];omega
   have:=Ux (P:=prog) W 72 5 9 underlying72 underlying5 underlying9 (some ⟨b,E+i,none⟩) (c-i) _ (by rw[d];exact L);rwa [d] at this
  have af:=l _ (Zo r (.cells #[.int .i64 0,.string ⟨#[]⟩,.complex .f64 o q] 231));have ag:=l _ (Zo r (.cells #[.int .i64 0,.string ⟨#[]⟩,.complex .f64 o q] 231)).drew;have ah:=l _ (Zo r (.cells #[.int .i64 1,.string ⟨#[]⟩,.complex .f64 o q] 231));have ai:=l _ (Zo r (.cells #[.int .i64 1,.string ⟨#[]⟩,.complex .f64 o q] 231)).drew;generalize B:str ((xs.drop i).take (k-i))=M at *;have F:=LH B;clear l B;go_region_with (fail)
  all_goals
   go_wp2_with fail;refine AV (Yu (p:=4) (u:=5) (v:=6) AB _ _ w 231 #[.int .i64 1,.string M,.complex .f64 o q] (0,0) _ rfl (Blk.drew (Blk.ext (Blk.new w _ _) (Zy _ _))) underlying231 rfl AB) rfl ?_;exact⟨by unfold TokV;rw[F.out];rfl,(Zo (Zy _ _) _).drew⟩
 go_wp2_with fail;have l:∀W,Below w w W->(convert 72 9 (.slice (some ⟨b,E+i,none⟩) (k-i) (c-i))).run prog W = .ok (.string (str ((xs.drop i).take (k-i)))) W:=λW z=>by
  have L:=(H.out.below z).part i (k-i) (c-i) AA AA AA;have d:((xs.drop i).take (k-i)).length=k-i:=by rw[BY,DC];omega
  have:=Ux (P:=prog) W 72 5 9 underlying72 underlying5 underlying9 (some ⟨b,E+i,none⟩) (c-i) _ (by rw[d];exact L);rwa [d] at this
 have af:=l _ (Zo r (.cells #[.int .i64 0,.string ⟨#[]⟩,.complex .f64 o q] 231));have ag:=l _ (Zo r (.cells #[.int .i64 0,.string ⟨#[]⟩,.complex .f64 o q] 231)).drew;have ah:=l _ (Zo r (.cells #[.int .i64 1,.string ⟨#[]⟩,.complex .f64 o q] 231));have ai:=l _ (Zo r (.cells #[.int .i64 1,.string ⟨#[]⟩,.complex .f64 o q] 231)).drew;generalize B:str ((xs.drop i).take (k-i))=M at *;have F:=LH B;clear l B;go_region_with (fail)
 all_goals
  go_wp2_with fail;refine AV (Yu (p:=4) (u:=5) (v:=6) AB _ _ w 231 #[.int .i64 1,.string M,.complex .f64 o q] (0,0) _ rfl (Blk.drew (Blk.ext (Blk.new w _ _) (Zy _ _))) underlying231 rfl AB) rfl ?_;exact⟨by unfold TokV;rw[F.out];rfl,(Zo (Zy _ _) _).drew⟩
section
variable {G:Gr}
theorem C8(h:i∈Ze G):toI (Ze G) i=(sig G i:Int)/\sig G i<(Ze G).length/\(Ze G)[sig G i]? = some i:=by
 obtain⟨k,a,b,c⟩:=toI_mem (Ub G) h;have:sig G i=k:=by unfold sig;omega
 rw[this];exact⟨c,a,b⟩
theorem sig_get{k:Nat}(h:(Ze G)[k]? = some i):sig G i=k:=by
 have:=Fc (Ub G) h;unfold sig;omega
theorem Zyb(a:r∈Yh G):(Wb (Ze G) r).left.toNat=sig G r.left.toNat:=rfl
theorem Ztf(a:G.Fits)(b:r∈Yh G){s:Int}(c:s∈r.right):(Xd (Ze G) s<0↔s<0)/\(s<0->Zp (Xd (Ze G) s)=sig G (Zp s)):=by
 refine⟨Mk s (Qz a b c),λh0=>?_⟩;have h1:=G8 h0 (Qz a b c h0);have d:=(C8 (Qz a b c h0)).1;omega
end
section
open Go.Maps (Keyed IsMap Tidy)
variable {P:Program} {k:TypeId}
theorem Vv.made(w:World)(P:Program)(k:TypeId):Vv P k (w.alloc (.map #[] 0)) w []:=⟨World.ownsMap_made w P k ptrR,λp h=>(by cases h)⟩
end
section
variable {P:Program}
theorem Qf.same{w:World}(h:Qf w g)(c:w'.heap[g]? = w.heap[g]?):Qf w' g:=λo k z b=>h o k z ((DO (a:=⟨g,o,none⟩) c).symm.trans b)
end
section
open Ieee
theorem Wr.lt{w0 w:World}{h:GH}{f:Int}{b a:Option Addr}{d:Nat}{g:WSt}(k:Wr w0 w p h f Ar cr b d a c g):p<w.heap.size:=k.blk.lt
end
section
open Go.Maps (Keyed IsMap Tidy)
theorem Fx.lt{w:World}{b:Nat}(h:Fx w b x):b<w.heap.size:=by
 obtain⟨A,n,c,d,h1,_⟩:=h;exact h1.lt
structure Gk (w:World) (g:Nat) (G:Gr) (S:Nat->Prop) (ts:List ((List Int × Nat) × Nat)):Prop where
 map:Vv Tryz.prog 223 w g (ts.map λp=>(kB p.1.1 p.1.2,p.2))
 key:∀p∈ts,J1 p.1.1 p.1.2
 val:∀p∈ts,Fx w p.2 (Zx (Zv G) p.1.1 p.1.2)/\¬S p.2
end
section
open Go.Maps (Keyed IsMap Tidy)
open Go.Maps (Keyed IsMap Tidy)
theorem Cel.lt{f:Nat}{X:World}{j:Bool}{l:Value}(h:Cel S f X (.pointer (some ⟨g,0,none⟩)) j l):g<X.heap.size:=by
 obtain⟨m,A,n,c,d,e,h1,o,a,p⟩:=h;injection e with e;injection e with e;injection e with e _ _;subst e;exact a.lt
end
section
open Go.Maps (Keyed IsMap Tidy)
open Go.Maps (Keyed IsMap Tidy)
variable {W0:World} {k:BkH} {h:GH} {G:Gr} {S':Nat->Prop} {w:World} {gR:Nat} {b:Nat->Bool} {u:Nat->Value} {X:World}
theorem Zu.of_below{w:World}(h:Below w w w'):Zu w w' := .of_int (.of_below h)
end
theorem Own.alloc{w:World}{t:TypeId}{k:IntKind}(h:Own w g t k a)(o:Obj):Own (w.alloc o) g t k a :=
 (Below.heap_alloc w o g h.lt).trans h
end Go.Proofs.YtggbjdmpjidhgaaGreatDoor
