/- the program's counter: forest, and how it is made: walked. -/
import Derived.Test.YtggbjdmpjidhgaaGreatDoorV19
import Derived.Test.YtggbjdmpjidhgaaGreatDoorV21
import Derived.Test.YtggbjdmpjidhgaaGreatDoorV22
import Derived.Test.YtggbjdmpjidhgaaGreatDoorV23
import Derived.Test.YtggbjdmpjidhgaaGreatDoorV24
set_option linter.all false
set_option maxHeartbeats 1500000
set_option maxRecDepth 100000
namespace Go.Proofs.YtggbjdmpjidhgaaGreatDoor
open Go.RowKit Go.Proofs.Tryz
variable{a:World}{g:Nat}{f:Option Addr}{r:Array Value}
theorem tr_forest{B:World}{k:CH}{h:GH}{G:Gr}(J:Xq G)(hg:Yf B h G)(h2:h.n2<=100)(h3:h.n3<=100):∀(l:List Int) (Al:Option Addr) (a n:Nat),Za .i64 B Al l.length a l->(∀s∈l,-(h.n2:Int)<=s/\s<=1000)->l.length<=100->n<=100->ForC B k h G Al l.length a l n:=by
 have e2:G.nons.length=h.n2:=hg.nons.len;have U:(Zj G).length=h.n2:=by rw[Qe,Qq];exact e2
 have V:∀(s:Int) (i:Nat),(s<0->Zp s<G.nons.length)->i<=100->Zw5 B k h G s i:=λs i z hi=>tr_tree J hg h2 h3 _ i s (λh0=>⟨z h0,rfl⟩) hi;intro l
 induction l with
 | nil =>
   intro Al a n N z a1 hn S w C L;obtain⟨r,j,m,o⟩:=Cy w 78 27 77 #[.pointer (some ⟨k.c,0,none⟩)] #[.slice Al 0 a] #[.slice none 0 0,.bool false];have t:=C.more r (DB w 2);have u:Off k.maps w (((w.alloc (.cells #[.pointer (some ⟨k.c,0,none⟩)] 78)).alloc (.cells #[.slice Al 0 a] 27)).alloc (.cells #[.slice none 0 0,.bool false] 77)):=Off.of_below r;have ah:B.heap.size<=w.heap.size+2:=BC C.base.size (DB _ _);have HS:=LH L;have T:=LH N;have A:=LH z;have HT:=LH V;have HP:=LH J;have Z:=LH U;rw[DS] at *;go_enter func50,ntmps50;go_upto_region 1 with fail;generalize ((w.alloc (.cells #[.pointer (some ⟨k.c,0,none⟩)] 78)).alloc (.cells #[.slice Al 0 a] 27)).alloc (.cells #[.slice none 0 0,.bool false] 77)=g at *;have F:=LH t;have aa:=LH u;have X:=LH j;have Y:=LH m;have E:=LH o;have l2:=j.lt;have l3:=m.lt;have p0:g.cell? ⟨w,0,none⟩=some (.pointer (some ⟨k.c,0,none⟩)):=j.cell 0;have t0:g.cell? ⟨w+1,0,none⟩=some (.slice Al 0 a):=m.cell 0;have M:∀b,(S b\/b=w.heap.size+2)->b<g.heap.size:=λb x=>by
    rcases x with x | rfl
    ·exact AJ (HS.out b x) u.size
    exact o.lt
   have f:=Zwe HP.out 93 #[.pointer (some ⟨w,0,none⟩),.pointer (some ⟨w+1,0,none⟩)] L8 Al a [] n g t M T.out Z.out A.out AA (by simp;try omega) hn
    (λs aj y i hi=>HT.out s i (λh0=>by have:=(A.out s (by rw[y];exact AX ..)).1;unfold Zp;omega) AA)
    (λs aj y=>by cases y)
   rw[DS] at f;have f:=LH f;clear J N z L C t u j m o r M V U;go_wp2_with fail;(with_reducible refine f.out.mono ?_);rintro e R⟨I,v,W,n4,c4,d4,rfl,P⟩;have d:=v.blk E.out (F.out.not_map E.out);have H:=LH (Uw (S':=S) I d P (aa.out.maps_trans v) (.inr rfl) ah (DB _ _) λq O => .inl O);have c0:R.cell? ⟨w+2,0,none⟩=some (.slice none 0 0):=d.cell 0;have c1:R.cell? ⟨w+2,1,none⟩=some (.bool false):=d.cell 1;have f0:=d.frozen 0;have f1:=d.frozen 1;have l5:=d.lt;clear I v d P p0 t0 l2 l3;go_wp2_with fail;refine AV (By (p:=6) AB _ _ (w.heap.size+2) 77 #[.slice W n4 c4,.bool d4] (0,0) _ rfl H.out.1 underlying77 rfl AB) rfl ?_;exact H.out.2
 | cons s0 D ih =>
   intro Al a n N z a1 hn S w C L;obtain⟨r,j,m,o⟩:=Cy w 78 27 77 #[.pointer (some ⟨k.c,0,none⟩)] #[.slice Al (D.length+1) a] #[.slice none 0 0,.bool false];have t:=C.more r (DB w 2);have u:Off k.maps w (((w.alloc (.cells #[.pointer (some ⟨k.c,0,none⟩)] 78)).alloc (.cells #[.slice Al (D.length+1) a] 27)).alloc (.cells #[.slice none 0 0,.bool false] 77)):=Off.of_below r;have ah:B.heap.size<=w.heap.size+2:=BC C.base.size (DB _ _);have HS:=LH L;have T:=LH N;have A:=LH z;have HT:=LH V;have HP:=LH J;have Z:=LH U;have au:=LH ih;rw[AW] at *;go_enter func50,ntmps50;go_upto_region 1 with fail;generalize ((w.alloc (.cells #[.pointer (some ⟨k.c,0,none⟩)] 78)).alloc (.cells #[.slice Al (D.length+1) a] 27)).alloc (.cells #[.slice none 0 0,.bool false] 77)=g at *;have F:=LH t;have aa:=LH u;have X:=LH j;have Y:=LH m;have E:=LH o;have l2:=j.lt;have l3:=m.lt;have p0:g.cell? ⟨w,0,none⟩=some (.pointer (some ⟨k.c,0,none⟩)):=j.cell 0;have t0:g.cell? ⟨w+1,0,none⟩=some (.slice Al (D.length+1) a):=m.cell 0;have M:∀b,(S b\/b=w.heap.size+2)->b<g.heap.size:=λb x=>by
    rcases x with x | rfl
    ·exact AJ (HS.out b x) u.size
    exact o.lt
   have f:=Zwe HP.out 93 #[.pointer (some ⟨w,0,none⟩),.pointer (some ⟨w+1,0,none⟩)] L8 Al a (s0::D) n g t M T.out Z.out A.out AA (by simp;try omega) hn
    (λs aj y i hi=>HT.out s i (λh0=>by have:=(A.out s (by rw[y];exact AX ..)).1;unfold Zp;omega) AA)
    (λs aj y i hi hx=>by
      injection y with he1 he2;subst he1;subst he2;intro S' w' C' a0 ao;obtain⟨At,aq,an⟩:=D6 T.out (i:=1) AA;rw[Nat.add_sub_cancel] at aq an;exact tr_forest1 s0 D Al a (n-i) _ _ w' C' a0 (ao.blk X.out (F.out.not_map X.out)) (ao.blk Y.out (F.out.not_map Y.out)) aq (au.out At (a-1) (n-i) an (λq O=>A.out q (BO _ O)) AA AA))
   rw[AW] at f;have f:=LH f;clear J N z L C t u j m o r M V U;go_wp2_with fail;(with_reducible refine f.out.mono ?_);rintro e R⟨I,v,W,n4,c4,d4,rfl,P⟩;have d:=v.blk E.out (F.out.not_map E.out);have H:=LH (Uw (S':=S) I d P (aa.out.maps_trans v) (.inr rfl) ah (DB _ _) λq O => .inl O);have c0:R.cell? ⟨w+2,0,none⟩=some (.slice none 0 0):=d.cell 0;have c1:R.cell? ⟨w+2,1,none⟩=some (.bool false):=d.cell 1;have f0:=d.frozen 0;have f1:=d.frozen 1;have l5:=d.lt;clear I v d P p0 t0 l2 l3;go_wp2_with fail;refine AV (By (p:=6) AB _ _ (w.heap.size+2) 77 #[.slice W n4 c4,.bool d4] (0,0) _ rfl H.out.1 underlying77 rfl AB) rfl ?_;exact H.out.2
section
open Go.Maps (Keyed IsMap Tidy)
theorem Zuf(h:GH)(G:Gr)(w:World)(c:Yf w h G)(f:∀t∈G.terms,t.name.size<=maxLen)(h1:h.n1<=100)(a:h.n2<=100)(b:h.n3<=100):
 Calls prog 57 #[GV h G.start] w (Dh G w):=(Cz h G w c f h1 a b).mono λe w' d=>d.plain
end
theorem tr_Is(h:GH)(G:Gr)(w:World)(E:Yf w h G)(M:∀t∈G.terms,t.name.size<=maxLen)(h1:h.n1<=100)(z:h.n2<=100)(A:h.n3<=100):
 Calls prog 42 #[GV h G.start] w λe w'=>e = .returned (.bool (Q9 G))/\Below w w w':=by
 obtain⟨a1,n1,c1,a2,n2,c2,a3,n3,c3⟩:=h;simp only[] at h1 z A;have x:=LH E;have R:=LH M;have u:=Zy w (.cells #[.slice a1 n1 c1,.slice a2 n2 c2,.slice a3 n3 c3,.int .i64 G.start] 26);have o:=Y1.new w 26 ⟨a1,n1,c1,a2,n2,c2,a3,n3,c3⟩ G.start;clear E M;go_enter func42,ntmps42;have⟨z5,z0,z1,z2,z3⟩:=o;simp only[] at z0 z1 z2 z3;go_wp2_with fail;generalize w.alloc (.cells #[.slice a1 n1 c1,.slice a2 n2 c2,.slice a3 n3 c3,.int .i64 G.start] 26)=S at *;have g:=Zuf ⟨a1,n1,c1,a2,n2,c2,a3,n3,c3⟩ G S (x.out.below u) R.out h1 z A;unfold Dh at g;(with_reducible refine g.mono ?_);rintro e a⟨n,⟨J,U,X,rfl⟩ | ⟨L,V,Ak,nk,ck,rfl,F,Y,Z,m3⟩⟩
 ·have b:=Zz u n;have p:Q9 G=false:=by unfold Q9;rw[J];rfl
  have af:(U==0)=false:=by rw[AP];exact X
  clear g J z0 z1 z2 z3 z5 o;go_wp2_with fail;go_ret;exact⟨by rw[p];rfl,b.trans ((Zy a _).mono b.size)⟩
 have b:=Zz u n;have B:=o.below n;obtain⟨c,q,j,d,r,k,f,s,l⟩:=V;have p:Q9 G=eqG G (Zi G):=by unfold Q9;rw[L];rfl
 generalize Zi G=H at *;clear g z0 z1 z2 z3 z5 o L;have m:=Zy a (.cells #[.slice c q j,.slice d r k,.slice f s l,.int .i64 H.start] 26);have D:=Y1.new a 26 ⟨c,q,j,d,r,k,f,s,l⟩ H.start;have C:=B.below m;have v:=Zz b m;have I:=F.below m;go_upto_region 2 with fail;generalize a.alloc (.cells #[.slice c q j,.slice d r k,.slice f s l,.int .i64 H.start] 26)=T at *;generalize a.heap.size=gH at *;have y:=tr_Same ⟨a1,n1,c1,a2,n2,c2,a3,n3,c3⟩ ⟨c,q,j,d,r,k,f,s,l⟩ G H T (x.out.below v) I;have N:=LH y;have P:=LH p;have O:=LH v;have⟨y5,y0,y1,y2,y3⟩:=C;simp only[] at y0 y1 y2 y3;have⟨x5,x0,x1,x2,x3⟩:=D;simp only[] at x0 x1 x2 x3;clear y p v C D I m n b B F Y Z m3;go_wp2_with (go_at_call 85;(with_reducible refine N.out.mono ?_);rintro e w6⟨rfl,W⟩);go_ret;exact⟨by rw[P.out];rfl,Zz O.out W⟩
section
variable {W0:World} {k:BkH} {h:GH} {G:Gr} {mk:Nat} {cs:List Nat} {S:Nat->Prop} {A:Option Addr} {c:Nat} {W:World}
theorem Me.off(M:Me W0 k h G mk cs S A c W)(C:Wd W0 k h G S a)(b:Off k.map W a):Me W0 k h G mk cs S A c a :=
 ⟨C,b.blk M.box (M.bk.not_map M.box),M.row.off b λg f=>by
   obtain⟨_,_,q,d⟩:=M.row.blk f;exact M.bk.not_map d,M.own,λq d=>AJ (M.lt q d) b.size,M.low,M.few⟩
theorem Me.below(M:Me W0 k h G mk cs S A c W)(b:Below W W a):Me W0 k h G mk cs S A c a:=M.off (M.bk.below b) (Off.of_below b)
theorem Me.more{d:World}(M:Me W0 k h G mk cs S A c W)(f:Below W W d)(j:W.heap.size<=g)(l:g<d.heap.size):Me W0 k h G mk cs (λq=>S q\/q=g) A c d:=by
 have b:=M.below f;exact⟨M.bk.more f j,b.box,b.row,⟨.inl M.own.1,λq a => .inl (M.own.2 q a)⟩,λq a=>by
  rcases a with a | rfl
  ·exact b.lt q a
  exact l,M.low,M.few⟩
theorem Me.wrote{f:World}{t:TypeId}(M:Me W0 k h G mk cs S A c W)(b:Blk W g t r)(j:t≠3/\t≠116/\t≠170)(m:S g)(h0:W0.heap.size<=g)(d:Off (λq=>q=g) W f)(n:∀o z,W.cell? ⟨g,o,none⟩≠some (Value.int .u32 z)):Me W0 k h G mk cs S A c f/\Zu W f:=by
 have l:Zu W f:=Zu.of_off d λq a o z=>by rw[a];exact n o z
 refine⟨⟨M.bk.moveN d l λq a=>?_,d.blk M.box λe=>?_,M.row.off d λq a e=>?_,M.own,λq a=>AJ (M.lt q a) d.size,M.low,M.few⟩,l⟩
 ·subst a;refine⟨m,h0,λe=>?_,M.bk.not_map b⟩;have h1:=M.bk.box;rw[<-e] at h1;exact j.2.2 (b.same_ty h1)
 ·rw[<-e] at b;exact j.2.1 (b.same_ty M.box)
 obtain⟨_,_,v,p⟩:=M.row.blk a;rw[<-e] at b;exact j.1 (b.same_ty p)
theorem Me.push{n b:World}{i:Nat}(M:Me W0 k h G mk cs S A c W)(u:Below W W n)(r:M4 b W0 f (cs.length+1) g (cs.map (λi:Nat=>(i:Int))++[(i:Int)]))(E:n.grownBy b (Value.slice A cs.length c).ownBlock)(L:cs.length≠300):
 Blk b mk 116 #[.pointer (some ⟨k.c,0,none⟩),.slice A cs.length c]/\MkAt W0 k h G mk (cs++[i]) (b.setCell ⟨mk,1,none⟩ (.slice f (cs.length+1) g))/\Zu W (b.setCell ⟨mk,1,none⟩ (.slice f (cs.length+1) g)):=by
 have d:=M.below u;have p:Off (λq=>(Value.slice A cs.length c).ownBlock=some q) n b:=Off.of_grown E;have y:Zu n b:=Zu.of_off p λq a=>d.row.no32 q a;have F:(Value.slice A cs.length c).ownBlock≠some mk:=λe=>by
  obtain⟨_,_,v,j⟩:=d.row.blk e;exact absurd (j.same_ty d.box) AC
 have s:=d.bk.moveN p y λq a=>by
  obtain⟨J,N,v,j⟩:=d.row.blk a;refine⟨d.own.2 q a,J,λe=>?_,d.bk.not_map j⟩;have h1:=d.bk.box;rw[<-e] at h1;exact absurd (h1.same_ty j) AC
 have l:=p.blk d.box F;have m:=Off.of_set b mk 1 (.slice f (cs.length+1) g);have H:∀o z,b.cell? ⟨mk,o,none⟩≠some (Value.int .u32 z):=λo z x=>by
  rw[l.cell o] at x;rcases o with _ | _ | o <;> cases x
 have B:Zu b (b.setCell ⟨mk,1,none⟩ (.slice f (cs.length+1) g)):=Zu.of_off m λq a o z=>by rw[a];exact H o z
 have C:(Value.slice f (cs.length+1) g).ownBlock≠some mk:=λe=>by
  obtain⟨_,_,v,j⟩:=r.blk e;exact absurd (j.same_ty l) AC
 have D:=(s.moveN m B λq a=>by
  subst a;exact⟨M.own.1,M.low,M.ne_c,s.not_map l⟩).wide (P:=λq=>(Value.slice f (cs.length+1) g).ownBlock=some q) λq a v j=>by
   obtain⟨_,_,O,I⟩:=(r.off m λq a e=>C (by rw[a,e])).blk a;exact absurd (j.same_ty I) AC
 have t:=r.off m λq a e=>C (by rw[a,e]);refine⟨l,⟨_,f,g,D,?_,?_,⟨.inl M.own.1,λq a => .inr ?_⟩,λq a=>?_,M.low,?_⟩,((Zu.of_below u).trans y).trans B⟩
 ·rw[AS];exact l.set 1 _
 ·rw[AS,DI];exact t
 ·rw[AS] at a;exact a
 ·rcases a with a | a
  ·exact AJ (d.lt q a) (BC p.size m.size)
  exact (t.blk a).2.1
 have:=M.few;rw[AS,CV];omega
end
section
variable {W0:World} {k:BkH} {h:GH} {G:Gr} {tk:Nat} {z:List Int} {S:Nat->Prop} {A:Option Addr} {c:Nat} {W:World}
theorem Cc.off(M:Cc W0 k h G tk z S A c W)(C:Wd W0 k h G S a)(b:Off k.map W a):Cc W0 k h G tk z S A c a :=
 ⟨C,b.blk M.box (M.bk.not_map M.box),M.row.kept (M.bk.keep b),M.own,λq d=>AJ (M.lt q d) b.size,M.low⟩
theorem Cc.below(M:Cc W0 k h G tk z S A c W)(b:Below W W a):Cc W0 k h G tk z S A c a:=M.off (M.bk.below b) (Off.of_below b)
end
theorem Al.below{W V:World}{h:GH}{G:Gr}(a:Al W g h G)(b:Below W W V):Al V g h G:=⟨a.1.below b,a.2.below b⟩
theorem Kd(A:Option Addr)(n c N:Nat)(tab:Nat->Nat->Nat)(Al:Option Addr)(W:Nat)(l:List Int)(m:Nat)(w:World)(hT:Zyq w A n c N tab)(hm:m<n)(h0:m<=100)(hN:N<=1000)(hl:Za .i64 w Al l.length W l)(hx:l.length<=100)(hs:∀s∈l,-(N:Int)<=s/\s<=1000):
 Calls prog 53 #[.slice A n c,.slice Al l.length W,.int .i64 (m:Int)] w (RetV w (Zx (Yk tab) l m)):=by
 have ht:=hl.cap;have HT:=LH hT;have Hl:=LH hl;have Hs:=LH hs;clear hT hl hs;have dl:=Zy w (.cells #[.slice none 0 0,.bool false] 46);have d5:=Blk.new w 46 #[.slice none 0 0,.bool false];have e1:(w.alloc (.cells #[.slice none 0 0,.bool false] 46)).heap.size=w.heap.size+1:=Zl _ _;have a8:=Zzv (m+1) AA;have h5:IntKind.i64.wrap ((m:Int)+1)=(m:Int)+1:=BT _ AA;rw[show ((m+1:Nat):Int)=(m:Int)+1 from rfl] at a8;go_enter func53,ntmps53;go_upto_region 1 with fail;generalize w.alloc (.cells #[.slice none 0 0,.bool false] 46)=W1 at *;go_upto_region 2 with fail;have hR:=Vp.new W1 46 (m+1);have C:=Zy W1 (.cells (zeroCells (m+1)) 46);have d6:=Blk.ext d5 C;have dm:=Zz dl C;generalize W1.alloc (.cells (zeroCells (m+1)) 46)=W2 at *;rw[e1] at hR;clear d5 dl C;go_wp2_with fail;(with_reducible refine (Zsl W2).mono ?_);rintro e W3⟨bk,A3,m3,c3,b3,rfl,fd⟩;have al:=hR.below bk;have d7:=Blk.ext d6 bk;have b1:=Zz dm bk;obtain⟨Az,nz,cz,bz,q0,q1,_⟩:=al.get (j:=0) AE;rw[Nat.zero_mul] at q0 q1;rw[BH] at q1;have bx:=al.frozen 0;have b0:=al.frozen 1;have gb:=al.lt;obtain⟨b9,du⟩:=al.put (j:=0) AE fd;rw[Nat.zero_mul,BH] at b9 du;have hO:=(Off.of_set W3 (w.heap.size+1) 0 (.slice A3 m3 c3)).trans (Off.of_set _ (w.heap.size+1) 1 (.bool b3)) λ_ _ h=>h;have d8:=hO.blk d7 AA;have dn:Below w.heap.size w _:=b1.trans (hO.is_below b1.size λk hk=>AA);have dz:Vp ((W3.setCell ⟨w.heap.size+1,0,none⟩ (.slice A3 m3 c3)).setCell ⟨w.heap.size+1,1,none⟩ (.bool b3)) (w.heap.size+1) 46 (Gs (Yk tab) (l.drop l.length) m):=by rw[List.drop_length,forR_nil];exact b9
 clear hR d6 dm bk al d7 b1 fd du b9 a8 e1;go_upto_region 3 with fail;generalize (W3.setCell ⟨w.heap.size+1,0,none⟩ (.slice A3 m3 c3)).setCell ⟨w.heap.size+1,1,none⟩ (.bool b3)=W4 at *;have fl:=LH dz;have fm:=LH d8;have fi:=LH dn;have h6:IntKind.i64.wrap ((l.length:Int)-1)=(l.length:Int)-1:=BT _ AA;clear dz d8 dn hO q0 q1 bx b0 gb;go_wp2_with fail;go_loopw [7,8] (λv i wr=>∃(q y:Nat),q<=l.length/\i = .int .i64 ((q:Int)-1)/\v = .slice (some ⟨y,0,none⟩) (m+1) (m+1)/\w.heap.size<y/\Hid (Vp wr y 46 (Gs (Yk tab) (l.drop q) m))/\Hid (Below w.heap.size w wr)/\Hid (Blk wr w.heap.size 46 #[.slice none 0 0,.bool false])) (λ_ i _=>(intOf i+1).toNat)
 case atStart=>exact⟨l.length,w.heap.size+1,AI _,rfl,rfl,Em _,fl,fi,fm⟩
 obtain⟨q,y,hq,rfl,rfl,hu,HR,HB,O⟩:=hrel;by_cases gg:q=0
 case pos =>
  subst gg;have hn:¬(((0:Nat):Int)-1 ≥ 0):=AA
  obtain⟨A5,m5,c5,b5,q0,q1,ce⟩:=HR.out.get (j:=m) (by rw[Zwg];omega);rw[Eg,Zy6 _ _ (AI m)] at ce;have x0:wr.cell? ⟨w.heap.size,0,none⟩=some (.slice none 0 0):=O.out.cell 0;have x1:wr.cell? ⟨w.heap.size,1,none⟩=some (.bool false):=O.out.cell 1;have f0:=O.out.frozen 0;have f1:=O.out.frozen 1;have xl:=O.out.lt;have gl:=HR.out.lt;have fs:=LH ce;have bo:=LH (Vb O.out HB.out (AI _) A5 m5 c5 b5);clear ce;go_wp2_with fail;refine AV (By (p:=6) AB _ _ w.heap.size 46 #[.slice A5 m5 c5,.bool b5] (0,0) _ rfl bo.out.2.1 underlying46 rfl AB) rfl ?_;exact⟨bo.out.1,_,_,_,_,rfl,fs.out.kept bo.out.2.2⟩
 obtain⟨z,rfl⟩:∃z,q=z+1:=⟨q-1,AA⟩;have hi:((z+1:Nat):Int)-1=(z:Int):=AA
 rw[hi];have a8:=Zzv (m+1) AA;rw[show ((m+1:Nat):Int)=(m:Int)+1 from rfl] at a8;have cb:=Hl.out.below HB.out;obtain⟨lb,I,t,rfl,cc,de,dj⟩:=cb.get (j:=z) AA;have gi:=Hs.out t (AL de.out);have fp:Hid (l.drop z=t::l.drop (z+1)):=LH (by
  have h1:=(AN.1 de.out);rw[DW h1.1,h1.2])
 generalize ga:l.drop (z+1)=x at *;have dd:=LH (HT.out.below HB.out);clear ga hi;go_upto_region 7 with fail;have d0:=Vp.new wr 46 (m+1);have aa:=Zy wr (.cells (zeroCells (m+1)) 46);have dy:=HR.out.below aa;have d9:=Blk.ext O.out aa;have dp:=Zz HB.out aa;have fa:=HR.out.lt;have h8:=O.out.lt;have g7:=LH (cb.below aa);have g6:=LH (dd.out.below aa);have e2:(wr.alloc (.cells (zeroCells (m+1)) 46)).heap.size=wr.heap.size+1:=Zl _ _;have fw:(wr.alloc (.cells (zeroCells (m+1)) 46)).cell? ⟨lb,I+z,none⟩=some (.int .i64 t):=(aa.cell (p:=⟨lb,I+z,none⟩) cc).trans dj;generalize f9:wr.heap.size=r at *;generalize wr.alloc (.cells (zeroCells (m+1)) 46)=WX at *;have db:Hid (Vp WX r 46 (D5 (Yk tab) t (Zx (Yk tab) x) m 0)):=LH (by rw[rowF_zero];exact d0);have fk:=LH dy;have fo:=LH d9;have bh:=LH dp;have hw:lb<r:=cc;clear d0 aa dy d9 dp HR HB O dd cb a8 dj cc f9;go_wp2_with fail;go_loopw [10] (λi wz=>∃K:Nat,K<=m+1/\i = .int .i64 (K:Int)/\Hid (Vp wz r 46 (D5 (Yk tab) t (Zx (Yk tab) x) m K))/\Hid (Vp wz y 46 (Gs (Yk tab) x m))/\Hid (Off (λk=>k=r) WX wz)) (λi _=>m+1-(intOf i).toNat)
 case atStart=>exact⟨0,AU _,rfl,db,fk,LH (Off.refl _ _)⟩
 obtain⟨K,hK,rfl,bm,L,E⟩:=hrel;by_cases ho:K<=m
 case neg =>
  obtain rfl:m+1=K:=AA
  have gf:¬(((m+1:Nat):Int)<=(m:Int)):=AA
  have P:Hid (Vp wr r 46 (Gs (Yk tab) (l.drop z) m)):=LH (by rw[fp.out,<-rowF_done];exact bm.out);have fj:=LH (bh.out.trans (E.out.is_below bh.out.size λk hk=>AA));have fn:=LH (E.out.blk fo.out AA);go_wp2_with fail;go_roundw
  case rel=>exact⟨z,r,AA,AF,rfl,AA,P,fj,fn⟩
  simp[intOf] <;> omega
 have h9:r<WX.heap.size:=AA
 have f2:Zf WX wr:=Zf.of_off E.out λg hg=>by rw[hg];exact db.out.noInt
 have d4:Zyq wr A n c N tab:=HT.out.below (bh.out.trans (E.out.is_below bh.out.size λk hk=>AA));have cT:=Ztn A n c N tab t K wr d4 AA hN AA (λ_=>gi.1);have fx:wr.cell? ⟨lb,I+z,none⟩=some (.int .i64 t):=(DO (a:=⟨lb,I+z,none⟩) (E.out.keep lb AA AA)).trans fw;have CT:=LH cT;clear d4 cT;go_wp2_with fail;(with_reducible refine CT.out.mono ?_);rintro e W6⟨bl,D,B,F,Y,rfl,cf⟩;have b7:=bm.out.below bl;have dw:=L.out.below bl;have dx:=E.out.trans (Off.of_below (S:=λk=>k=r) bl) λ_ _ h=>h;have a4:=Zy W6 (.cells #[.slice D B F,.bool Y] 46);have dt:=Blk.new W6 46 #[.slice D B F,.bool Y];have b8:=LH (b7.below a4);have f5:=LH (dw.below a4);have f6:=LH (dx.trans (Off.of_below (S:=λk=>k=r) a4) λ_ _ h=>h);have fe:=LH (cf.below a4);have hz:=cf.none_iff;have hv:r<W6.heap.size:=b7.lt;go_upto_region 11 with fail;generalize W6.alloc (.cells #[.slice D B F,.bool Y] 46)=W7 at *;generalize W6.heap.size=H at *;have c9:=LH dt;clear b7 dw dx a4 dt cf bl CT fx bm L E f2;have Hz:=LH hz;have gk:W7.cell? ⟨H,0,none⟩=some (.slice D B F):=c9.out.cell 0;clear hz gk;go_wp2_with fail;go_loopw [12] (λi wz=>∃M:Nat,K<=M/\M<=m+1/\i = .int .i64 (M:Int)/\Hid (Yk tab t K=0->M=K)/\Hid (Vp wz r 46 (Gx (Yk tab) t (Zx (Yk tab) x) m K M))/\Hid (Vp wz y 46 (Gs (Yk tab) x m))/\Hid (Off (λk=>k=r) W7 wz)) (λi _=>m+1-(intOf i).toNat)
 case atStart=>exact⟨K,AI _,AA,rfl,LH λ_=>rfl,LH (by rw[Zvo];exact b8.out),f5,LH (Off.refl _ _)⟩
 obtain⟨M,dv,hM,rfl,ft,V,L,E⟩:=hrel;have ae:=E.out.blk c9.out AA;have x0:wr.cell? ⟨H,0,none⟩=some (.slice D B F):=ae.cell 0;have x1:wr.cell? ⟨H,1,none⟩=some (.bool Y):=ae.cell 1;have xl:=ae.lt;have da:=LH (f6.out.trans E.out λ_ _ h=>h);by_cases bj:M<=m
 case neg =>
  obtain rfl:m+1=M:=AA
  have gf:¬(((m+1:Nat):Int)<=(m:Int)):=AA
  have P:Hid (Vp wr r 46 (D5 (Yk tab) t (Zx (Yk tab) x) m (K+1))):=LH (by rw[<-mid_end];exact V.out);clear ae;go_wp2_with fail;go_roundw
  case rel=>exact⟨K+1,AA,AF,P,L,da⟩
  simp[intOf] <;> omega
 by_cases am:Yk tab t K=0
 case pos =>
  obtain⟨rfl,rfl⟩:=Hz.out.2 am;obtain rfl:M=K:=ft.out am;have P:Hid (Vp wr r 46 (D5 (Yk tab) t (Zx (Yk tab) x) m (M+1))):=LH (by rw[mid_skip _ _ am,<-Zvo];exact V.out);clear ae;go_wp2_with fail;go_roundw
  case rel=>exact⟨M+1,AA,AF,P,L,da⟩
  simp[intOf] <;> omega
 have f7:(Y=true)\/(Y=false/\(0:Int)<(B:Int)):=by
  rcases Y with _ | _
  ·exact .inr ⟨rfl,by have h7:B≠0:=λh=>am (Hz.out.1 ⟨rfl,h⟩);omega⟩
  exact .inl rfl
 rcases f7 with rfl | ⟨rfl,h3⟩
 case inl =>
  as_aux_lemma =>
   go_upto_region 14 with fail;obtain⟨A1,n1,c1,d1,r0,r1,ag⟩:=V.out.get (j:=M) (by rw[J2];omega);obtain⟨A2,n2,c2,d2,s0,s1,ah⟩:=L.out.get (j:=M-K) (by rw[Zwg];omega);rw[mid_get _ _ _ bj] at ag;rw[Zy6 _ _ (AA:M-K<=m)] at ah;have bu:Hid (Z1 wr D B F true (Yk tab t K)):=LH (fe.out.kept (Zf.of_off E.out λg hg=>by rw[hg];exact b8.out.noInt));have bs:=LH ag;have bt:=LH ah;have a7:=V.out.lt;have a6:=L.out.lt;have cd:((M:Int)-(K:Int))=((M-K:Nat):Int):=AA
   have gj:IntKind.i64.wrap ((M:Int)-(K:Int))=(M:Int)-(K:Int):=BT _ AA;have gc:(0:Int)<=(M:Int)-(K:Int):=AA
   have gd:(M:Int)-(K:Int)<(m:Int)+1:=AA
   have ge:((M:Int)-(K:Int)).toNat=M-K:=AA
   have f3:(M:Int)<(m:Int)+1:=AA
   have bn:Hid (Hw (Yk tab) t (Zx (Yk tab) x) (K+1) M=Hw (Yk tab) t (Zx (Yk tab) x) K M+Yk tab t K*Zx (Yk tab) x (M-K)):=LH (Ah _ _ _ dv);clear ag ah cd ae;refine Xh (λX=>Below wr.heap.size wr X) (λX X'=>Below X.heap.size X X') (λu=>(⟨(Value.slice A n c::Value.slice (some ⟨lb,I,none⟩) l.length W::Value.int .i64 (m:Int)::undef::undef::undef::Value.pointer (some ⟨w.heap.size,0,none⟩)::Value.slice (some ⟨y,0,none⟩) (m+1) (m+1)::Value.int .i64 (z:Int)::Value.slice (some ⟨r,0,none⟩) (m+1) (m+1)::Value.int .i64 (K:Int)::Value.pointer (some ⟨H,0,none⟩)::Value.int .i64 (M:Int)::Value.int .i64 (m:Int)::Value.int .i64 ((m:Int)+1)::Value.slice (some ⟨w.heap.size+1,0,none⟩) (m+1) (m+1)::Value.slice (some ⟨w.heap.size+1,0,none⟩) (m+1) (m+1)::Value.agg #[Value.slice A3 m3 c3,Value.bool b3]::Value.pointer (some ⟨w.heap.size+1,0,none⟩)::Value.slice (some ⟨lb,I,none⟩) l.length W::Value.int .i64 (l.length:Int)::Value.int .i64 ((l.length:Int)-1)::Value.int .i64 (z:Int)::Value.bool true::u24::u25::Value.int .i64 (m:Int)::Value.int .i64 ((m:Int)+1)::Value.slice (some ⟨r,0,none⟩) (m+1) (m+1)::Value.int .i64 (K:Int)::Value.int .i64 (m:Int)::Value.bool true::u32::u33::Value.slice A n c::Value.slice (some ⟨lb,I,none⟩) l.length W::Value.int .i64 (z:Int)::Value.pointer (some ⟨lb,I+z,none⟩)::Value.int .i64 t::Value.int .i64 (K:Int)::Value.agg #[Value.slice D B F,Value.bool true]::Value.int .i64 (K:Int)::Value.int .i64 (M:Int)::Value.int .i64 (m:Int)::Value.bool true::Value.bool true::Value.pointer (some ⟨H,1,none⟩)::Value.bool true::Value.bool true::undef::undef::undef::undef::Value.bool true::Value.bool true::u55::u56::u 0::u 1::u 2::u 3::u 4::u 5::u 6::u 7::u 8::u 9::u 10::u 11::u 12::u 13::u 14::u 15::u73::undef::undef::undef::undef::[]).toArray,[]⟩:Act)) [u57,u58,u59,u60,u61,u62,u63,u64,u65,u66,u67,u68,u69,u70,u71,u72] [λv X=>v=Value.slice (some ⟨r,0,none⟩) (m+1) (m+1),λv X=>v=Value.int .i64 (M:Int),λv X=>v=Value.slice (some ⟨r,0,none⟩) (m+1) (m+1),λv X=>v=Value.int .i64 (M:Int),λv X=>v=Value.pointer (some ⟨r,M*2,none⟩),λv X=>v=Value.agg #[Value.slice A1 n1 c1,Value.bool d1],λv X=>v=Value.agg #[Value.slice D B F,Value.bool true],λv X=>v=Value.slice (some ⟨y,0,none⟩) (m+1) (m+1),λv X=>v=Value.int .i64 (M:Int),λv X=>v=Value.int .i64 (K:Int),λv X=>v=Value.int .i64 ((M:Int)-(K:Int)),λv X=>v=Value.pointer (some ⟨y,(M-K)*2,none⟩),λv X=>v=Value.agg #[Value.slice A2 n2 c2,Value.bool d2],λv X=>∃A n c b,v=Value.agg #[Value.slice A n c,Value.bool b]/\Z1 X A n c b (Yk tab t K*Zx (Yk tab) x (M-K)),λv X=>∃A n c b,v=Value.agg #[Value.slice A n c,Value.bool b]/\Z1 X A n c b (Hw (Yk tab) t (Zx (Yk tab) x) (K+1) M),λv X=>v=Value.pointer (some ⟨r,M*2,none⟩)] (λu X=>Vp X r 46 (Gx (Yk tab) t (Zx (Yk tab) x) m K (M+1))/\Vp X y 46 (Gs (Yk tab) x m)/\Off (λk=>k=r) wr X) (l:=[_,_,_,_,_,_,_,_,_,_,_,_,_,_,_,_]) AB AB AB rfl rfl (AK _ _).drew ⟨λ_ _ _ h _=>h,λ_ _ _ h _=>h,λ_ _ _ h _=>h,λ_ _ _ h _=>h,λ_ _ _ h _=>h,λ_ _ _ h _=>h,λ_ _ _ h _=>h,λ_ _ _ h _=>h,λ_ _ _ h _=>h,λ_ _ _ h _=>h,λ_ _ _ h _=>h,λ_ _ _ h _=>h,λ_ _ _ h _=>h,(λ_ _ _ ⟨A,n,c,b,e,h⟩ hb=>⟨A,n,c,b,e,h.below hb⟩),(λ_ _ _ ⟨A,n,c,b,e,h⟩ hb=>⟨A,n,c,b,e,h.below hb⟩),λ_ _ _ h _=>h,trivial⟩ ?_ ?_ ?_
   ·refine Zk.cons rfl (λ_ _=>rfl) (λQ u X d f KK o=>?_) ?_
    ·go_simp;exact o _ _ d (AK _ _) rfl
    iterate 3
     refine Zk.cons rfl (λ_ _=>rfl) (λQ u X d f KK o=>?_) ?_
     ·go_simp;exact o _ _ d (AK _ _) rfl
    refine Zk.cons rfl (λ_ _=>rfl) (λQ u X d f KK o=>?_) ?_
    ·have p2:u 2=_:=f 2 rfl;have p3:u 3=_:=f 3 rfl;clear f;generalize u 2=x2 at *;subst p2;generalize u 3=x3 at *;subst p3;go_simp;exact o _ _ d (AK _ _) rfl
    refine Zk.cons rfl (λ_ _=>rfl) (λQ u X d f KK o=>?_) ?_
    ·have p4:u 4=_:=f 4 rfl;clear f;generalize u 4=x4 at *;subst p4;have ax:=(d.cell (p:=⟨r,M*2,none⟩) a7).trans r0;have ay:=(d.cell (p:=⟨r,M*2+1,none⟩) a7).trans r1;go_simp;exact o _ _ d (AK _ _) rfl
    refine Zk.cons rfl (λ_ _=>rfl) (λQ u X d f KK o=>?_) ?_
    ·have ax:=(d.cell (p:=⟨H,0,none⟩) xl).trans x0;have ay:=(d.cell (p:=⟨H,1,none⟩) xl).trans x1;go_simp;exact o _ _ d (AK _ _) rfl
    iterate 3
     refine Zk.cons rfl (λ_ _=>rfl) (λQ u X d f KK o=>?_) ?_
     ·go_simp;exact o _ _ d (AK _ _) rfl
    refine Zk.cons rfl (λ_ _=>rfl) (λQ u X d f KK o=>?_) ?_
    ·have p8:u 8=_:=f 8 rfl;have p9:u 9=_:=f 9 rfl;clear f;generalize u 8=x8 at *;subst p8;generalize u 9=x9 at *;subst p9;go_simp;exact o _ _ d (AK _ _) rfl
    refine Zk.cons rfl (λ_ _=>rfl) (λQ u X d f KK o=>?_) ?_
    ·have p7:u 7=_:=f 7 rfl;have ck:u 10=_:=f 10 rfl;clear f;generalize u 7=x7 at *;subst p7;generalize u 10=gn at *;subst ck;go_simp;exact o _ _ d (AK _ _) rfl
    refine Zk.cons rfl (λ_ _=>rfl) (λQ u X d f KK o=>?_) ?_
    ·have cm:u 11=_:=f 11 rfl;clear f;generalize u 11=gp at *;subst cm;have ax:=(d.cell (p:=⟨y,(M-K)*2,none⟩) a6).trans s0;have ay:=(d.cell (p:=⟨y,(M-K)*2+1,none⟩) a6).trans s1;go_simp;exact o _ _ d (AK _ _) rfl
    refine Zk.cons rfl (λ_ _=>rfl) (λQ u X d f KK o=>?_) ?_
    ·have p6:u 6=_:=f 6 rfl;have cn:u 12=_:=f 12 rfl;clear f;generalize u 6=x6 at *;subst p6;generalize u 12=gq at *;subst cn;have ch:=bu.out.below d;have ci:=bt.out.below d;go_simp;(with_reducible refine (Gt D B F true _ A2 n2 c2 d2 _ X ch ci).mono ?_);rintro e w2⟨C,Ar,nr,cr,Z,rfl,ai⟩;go_simp;exact o _ _ (Zz d C) C ⟨Ar,nr,cr,Z,rfl,ai⟩
    refine Zk.cons rfl (λ_ _=>rfl) (λQ u X d f KK o=>?_) ?_
    ·have p5:u 5=_:=f 5 rfl;obtain⟨Ar,nr,cr,Z,co,ai⟩:=f 13 rfl;clear f;generalize u 5=x5 at *;subst p5;generalize u 13=gr at *;subst co;have cg:=bs.out.below d;go_simp;(with_reducible refine (Zuc A1 n1 c1 d1 _ Ar nr cr Z _ X cg ai).mono ?_);rintro e w2⟨C,J,ns,cs,ds,rfl,U⟩;rw[<-bn.out] at U;go_simp;exact o _ _ (Zz d C) C ⟨J,ns,cs,ds,rfl,U⟩
    refine Zk.cons rfl (λ_ _=>rfl) (λQ u X d f KK o=>?_) ?_
    ·have p0:u 0=_:=f 0 rfl;have p1:u 1=_:=f 1 rfl;clear f;generalize u 0=x0 at *;subst p0;generalize u 1=x1 at *;subst p1;go_simp;exact o _ _ d (AK _ _) rfl
    exact Zk.nil
   ·intro Q u X d f KK o;obtain⟨J,ns,cs,ds,cp,U⟩:=f 14 AC;have ct:u 15=_:=f 15 AC;clear f;generalize u 14=gs at *;subst cp;generalize u 15=gt at *;subst ct;have G:=V.out.below d;have ab:=L.out.below d;obtain⟨Aq,nq,cq,dq,q0,q1,_⟩:=G.get (j:=M) (by rw[J2];omega);have bx:=G.frozen (M*2);have b0:=G.frozen (M*2+1);have gh:=G.lt;have T:=G.put (j:=M) (by rw[J2];omega) U;rw[mid_set _ _ _ bj] at T;have af:Off (λk=>k=r) X ((X.setCell ⟨r,M*2,none⟩ (.slice J ns cs)).setCell ⟨r,M*2+1,none⟩ (.bool ds)):=(Off.of_set X r (M*2) (.slice J ns cs)).trans (Off.of_set _ r (M*2+1) (.bool ds)) λ_ _ h=>h;have R:Vp _ r 46 (Gx (Yk tab) t (Zx (Yk tab) x) m K (M+1))/\Vp _ y 46 (Gs (Yk tab) x m)/\Off (λk=>k=r) wr _:=⟨T.1,ab.kept T.2 (af.keep y ab.lt (Nat.ne_of_lt fa)),(Off.of_below (S:=λk=>k=r) d).trans af λ_ _ h=>h⟩;have P:=LH R;clear R T af G ab;go_simp;exact o (λi=>([u 0,u 1,u 2,u 3,u 4,u 5,u 6,u 7,u 8,u 9,u 10,u 11,u 12,u 13,Value.agg #[Value.slice J ns cs,Value.bool ds],Value.pointer (some ⟨r,M*2,none⟩)]:List Value).getD i undef) _ (P.out)
   intro u W9 R;obtain⟨g1,g2,g3⟩:=R;have bp:=LH g1;have bq:=LH g2;have br:=LH (E.out.trans g3 λ_ _ h=>h);clear g1 g2 g3 r0 r1 s0 s1;go_wp2_with fail;go_roundw
   case rel=>exact⟨M+1,AA,AA,AF,LH λh=>absurd h am,bp,bq,br⟩
   simp[intOf] <;> omega
 as_aux_lemma =>
  go_upto_region 14 with fail;have f8:decide (0<B)=true:=by rw[BB];omega
  rw[f8];obtain⟨A1,n1,c1,d1,r0,r1,ag⟩:=V.out.get (j:=M) (by rw[J2];omega);obtain⟨A2,n2,c2,d2,s0,s1,ah⟩:=L.out.get (j:=M-K) (by rw[Zwg];omega);rw[mid_get _ _ _ bj] at ag;rw[Zy6 _ _ (AA:M-K<=m)] at ah;have bu:Hid (Z1 wr D B F false (Yk tab t K)):=LH (fe.out.kept (Zf.of_off E.out λg hg=>by rw[hg];exact b8.out.noInt));have bs:=LH ag;have bt:=LH ah;have a7:=V.out.lt;have a6:=L.out.lt;have cd:((M:Int)-(K:Int))=((M-K:Nat):Int):=AA
  have gj:IntKind.i64.wrap ((M:Int)-(K:Int))=(M:Int)-(K:Int):=BT _ AA;have gc:(0:Int)<=(M:Int)-(K:Int):=AA
  have gd:(M:Int)-(K:Int)<(m:Int)+1:=AA
  have ge:((M:Int)-(K:Int)).toNat=M-K:=AA
  have f3:(M:Int)<(m:Int)+1:=AA
  have bn:Hid (Hw (Yk tab) t (Zx (Yk tab) x) (K+1) M=Hw (Yk tab) t (Zx (Yk tab) x) K M+Yk tab t K*Zx (Yk tab) x (M-K)):=LH (Ah _ _ _ dv);clear ag ah cd ae;refine Xh (λX=>Below wr.heap.size wr X) (λX X'=>Below X.heap.size X X') (λu=>(⟨(Value.slice A n c::Value.slice (some ⟨lb,I,none⟩) l.length W::Value.int .i64 (m:Int)::undef::undef::undef::Value.pointer (some ⟨w.heap.size,0,none⟩)::Value.slice (some ⟨y,0,none⟩) (m+1) (m+1)::Value.int .i64 (z:Int)::Value.slice (some ⟨r,0,none⟩) (m+1) (m+1)::Value.int .i64 (K:Int)::Value.pointer (some ⟨H,0,none⟩)::Value.int .i64 (M:Int)::Value.int .i64 (m:Int)::Value.int .i64 ((m:Int)+1)::Value.slice (some ⟨w.heap.size+1,0,none⟩) (m+1) (m+1)::Value.slice (some ⟨w.heap.size+1,0,none⟩) (m+1) (m+1)::Value.agg #[Value.slice A3 m3 c3,Value.bool b3]::Value.pointer (some ⟨w.heap.size+1,0,none⟩)::Value.slice (some ⟨lb,I,none⟩) l.length W::Value.int .i64 (l.length:Int)::Value.int .i64 ((l.length:Int)-1)::Value.int .i64 (z:Int)::Value.bool true::u24::u25::Value.int .i64 (m:Int)::Value.int .i64 ((m:Int)+1)::Value.slice (some ⟨r,0,none⟩) (m+1) (m+1)::Value.int .i64 (K:Int)::Value.int .i64 (m:Int)::Value.bool true::u32::u33::Value.slice A n c::Value.slice (some ⟨lb,I,none⟩) l.length W::Value.int .i64 (z:Int)::Value.pointer (some ⟨lb,I+z,none⟩)::Value.int .i64 t::Value.int .i64 (K:Int)::Value.agg #[Value.slice D B F,Value.bool false]::Value.int .i64 (K:Int)::Value.int .i64 (M:Int)::Value.int .i64 (m:Int)::Value.bool true::Value.bool true::Value.pointer (some ⟨H,1,none⟩)::Value.bool false::Value.bool false::Value.pointer (some ⟨H,0,none⟩)::Value.slice D B F::Value.int .i64 (B:Int)::Value.bool true::Value.bool true::Value.bool true::u55::u56::u 0::u 1::u 2::u 3::u 4::u 5::u 6::u 7::u 8::u 9::u 10::u 11::u 12::u 13::u 14::u 15::u73::undef::undef::undef::undef::[]).toArray,[]⟩:Act)) [u57,u58,u59,u60,u61,u62,u63,u64,u65,u66,u67,u68,u69,u70,u71,u72] [λv X=>v=Value.slice (some ⟨r,0,none⟩) (m+1) (m+1),λv X=>v=Value.int .i64 (M:Int),λv X=>v=Value.slice (some ⟨r,0,none⟩) (m+1) (m+1),λv X=>v=Value.int .i64 (M:Int),λv X=>v=Value.pointer (some ⟨r,M*2,none⟩),λv X=>v=Value.agg #[Value.slice A1 n1 c1,Value.bool d1],λv X=>v=Value.agg #[Value.slice D B F,Value.bool false],λv X=>v=Value.slice (some ⟨y,0,none⟩) (m+1) (m+1),λv X=>v=Value.int .i64 (M:Int),λv X=>v=Value.int .i64 (K:Int),λv X=>v=Value.int .i64 ((M:Int)-(K:Int)),λv X=>v=Value.pointer (some ⟨y,(M-K)*2,none⟩),λv X=>v=Value.agg #[Value.slice A2 n2 c2,Value.bool d2],λv X=>∃A n c b,v=Value.agg #[Value.slice A n c,Value.bool b]/\Z1 X A n c b (Yk tab t K*Zx (Yk tab) x (M-K)),λv X=>∃A n c b,v=Value.agg #[Value.slice A n c,Value.bool b]/\Z1 X A n c b (Hw (Yk tab) t (Zx (Yk tab) x) (K+1) M),λv X=>v=Value.pointer (some ⟨r,M*2,none⟩)] (λu X=>Vp X r 46 (Gx (Yk tab) t (Zx (Yk tab) x) m K (M+1))/\Vp X y 46 (Gs (Yk tab) x m)/\Off (λk=>k=r) wr X) (l:=[_,_,_,_,_,_,_,_,_,_,_,_,_,_,_,_]) AB AB AB rfl rfl (AK _ _).drew ⟨λ_ _ _ h _=>h,λ_ _ _ h _=>h,λ_ _ _ h _=>h,λ_ _ _ h _=>h,λ_ _ _ h _=>h,λ_ _ _ h _=>h,λ_ _ _ h _=>h,λ_ _ _ h _=>h,λ_ _ _ h _=>h,λ_ _ _ h _=>h,λ_ _ _ h _=>h,λ_ _ _ h _=>h,λ_ _ _ h _=>h,(λ_ _ _ ⟨A,n,c,b,e,h⟩ hb=>⟨A,n,c,b,e,h.below hb⟩),(λ_ _ _ ⟨A,n,c,b,e,h⟩ hb=>⟨A,n,c,b,e,h.below hb⟩),λ_ _ _ h _=>h,trivial⟩ ?_ ?_ ?_
  ·refine Zk.cons rfl (λ_ _=>rfl) (λQ u X d f KK o=>?_) ?_
   ·go_simp;exact o _ _ d (AK _ _) rfl
   iterate 3
    refine Zk.cons rfl (λ_ _=>rfl) (λQ u X d f KK o=>?_) ?_
    ·go_simp;exact o _ _ d (AK _ _) rfl
   refine Zk.cons rfl (λ_ _=>rfl) (λQ u X d f KK o=>?_) ?_
   ·have p2:u 2=_:=f 2 rfl;have p3:u 3=_:=f 3 rfl;clear f;generalize u 2=x2 at *;subst p2;generalize u 3=x3 at *;subst p3;go_simp;exact o _ _ d (AK _ _) rfl
   refine Zk.cons rfl (λ_ _=>rfl) (λQ u X d f KK o=>?_) ?_
   ·have p4:u 4=_:=f 4 rfl;clear f;generalize u 4=x4 at *;subst p4;have ax:=(d.cell (p:=⟨r,M*2,none⟩) a7).trans r0;have ay:=(d.cell (p:=⟨r,M*2+1,none⟩) a7).trans r1;go_simp;exact o _ _ d (AK _ _) rfl
   refine Zk.cons rfl (λ_ _=>rfl) (λQ u X d f KK o=>?_) ?_
   ·have ax:=(d.cell (p:=⟨H,0,none⟩) xl).trans x0;have ay:=(d.cell (p:=⟨H,1,none⟩) xl).trans x1;go_simp;exact o _ _ d (AK _ _) rfl
   iterate 3
    refine Zk.cons rfl (λ_ _=>rfl) (λQ u X d f KK o=>?_) ?_
    ·go_simp;exact o _ _ d (AK _ _) rfl
   refine Zk.cons rfl (λ_ _=>rfl) (λQ u X d f KK o=>?_) ?_
   ·have p8:u 8=_:=f 8 rfl;have p9:u 9=_:=f 9 rfl;clear f;generalize u 8=x8 at *;subst p8;generalize u 9=x9 at *;subst p9;go_simp;exact o _ _ d (AK _ _) rfl
   refine Zk.cons rfl (λ_ _=>rfl) (λQ u X d f KK o=>?_) ?_
   ·have p7:u 7=_:=f 7 rfl;have ck:u 10=_:=f 10 rfl;clear f;generalize u 7=x7 at *;subst p7;generalize u 10=gn at *;subst ck;go_simp;exact o _ _ d (AK _ _) rfl
   refine Zk.cons rfl (λ_ _=>rfl) (λQ u X d f KK o=>?_) ?_
   ·have cm:u 11=_:=f 11 rfl;clear f;generalize u 11=gp at *;subst cm;have ax:=(d.cell (p:=⟨y,(M-K)*2,none⟩) a6).trans s0;have ay:=(d.cell (p:=⟨y,(M-K)*2+1,none⟩) a6).trans s1;go_simp;exact o _ _ d (AK _ _) rfl
   refine Zk.cons rfl (λ_ _=>rfl) (λQ u X d f KK o=>?_) ?_
   ·have p6:u 6=_:=f 6 rfl;have cn:u 12=_:=f 12 rfl;clear f;generalize u 6=x6 at *;subst p6;generalize u 12=gq at *;subst cn;have ch:=bu.out.below d;have ci:=bt.out.below d;go_simp;(with_reducible refine (Gt D B F false _ A2 n2 c2 d2 _ X ch ci).mono ?_);rintro e w2⟨C,Ar,nr,cr,Z,rfl,ai⟩;go_simp;exact o _ _ (Zz d C) C ⟨Ar,nr,cr,Z,rfl,ai⟩
   refine Zk.cons rfl (λ_ _=>rfl) (λQ u X d f KK o=>?_) ?_
   ·have p5:u 5=_:=f 5 rfl;obtain⟨Ar,nr,cr,Z,co,ai⟩:=f 13 rfl;clear f;generalize u 5=x5 at *;subst p5;generalize u 13=gr at *;subst co;have cg:=bs.out.below d;go_simp;(with_reducible refine (Zuc A1 n1 c1 d1 _ Ar nr cr Z _ X cg ai).mono ?_);rintro e w2⟨C,J,ns,cs,ds,rfl,U⟩;rw[<-bn.out] at U;go_simp;exact o _ _ (Zz d C) C ⟨J,ns,cs,ds,rfl,U⟩
   refine Zk.cons rfl (λ_ _=>rfl) (λQ u X d f KK o=>?_) ?_
   ·have p0:u 0=_:=f 0 rfl;have p1:u 1=_:=f 1 rfl;clear f;generalize u 0=x0 at *;subst p0;generalize u 1=x1 at *;subst p1;go_simp;exact o _ _ d (AK _ _) rfl
   exact Zk.nil
  ·intro Q u X d f KK o;obtain⟨J,ns,cs,ds,cp,U⟩:=f 14 AC;have ct:u 15=_:=f 15 AC;clear f;generalize u 14=gs at *;subst cp;generalize u 15=gt at *;subst ct;have G:=V.out.below d;have ab:=L.out.below d;obtain⟨Aq,nq,cq,dq,q0,q1,_⟩:=G.get (j:=M) (by rw[J2];omega);have bx:=G.frozen (M*2);have b0:=G.frozen (M*2+1);have gh:=G.lt;have T:=G.put (j:=M) (by rw[J2];omega) U;rw[mid_set _ _ _ bj] at T;have af:Off (λk=>k=r) X ((X.setCell ⟨r,M*2,none⟩ (.slice J ns cs)).setCell ⟨r,M*2+1,none⟩ (.bool ds)):=(Off.of_set X r (M*2) (.slice J ns cs)).trans (Off.of_set _ r (M*2+1) (.bool ds)) λ_ _ h=>h;have R:Vp _ r 46 (Gx (Yk tab) t (Zx (Yk tab) x) m K (M+1))/\Vp _ y 46 (Gs (Yk tab) x m)/\Off (λk=>k=r) wr _:=⟨T.1,ab.kept T.2 (af.keep y ab.lt (Nat.ne_of_lt fa)),(Off.of_below (S:=λk=>k=r) d).trans af λ_ _ h=>h⟩;have P:=LH R;clear R T af G ab;go_simp;exact o (λi=>([u 0,u 1,u 2,u 3,u 4,u 5,u 6,u 7,u 8,u 9,u 10,u 11,u 12,u 13,Value.agg #[Value.slice J ns cs,Value.bool ds],Value.pointer (some ⟨r,M*2,none⟩)]:List Value).getD i undef) _ (P.out)
  intro u W9 R;obtain⟨g1,g2,g3⟩:=R;have bp:=LH g1;have bq:=LH g2;have br:=LH (E.out.trans g3 λ_ _ h=>h);clear g1 g2 g3 r0 r1 s0 s1;go_wp2_with fail;go_roundw
  case rel=>exact⟨M+1,AA,AA,AF,LH λh=>absurd h am,bp,bq,br⟩
  simp[intOf] <;> omega
end Go.Proofs.YtggbjdmpjidhgaaGreatDoor
