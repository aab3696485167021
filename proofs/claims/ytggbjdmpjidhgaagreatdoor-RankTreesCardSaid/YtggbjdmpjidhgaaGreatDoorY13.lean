/- nullable: the reference's, walked. -/
import Derived.Test.YtggbjdmpjidhgaaGreatDoorY08
import Derived.Test.YtggbjdmpjidhgaaGreatDoorY09
import Derived.Test.YtggbjdmpjidhgaaGreatDoorY10
import Derived.Test.YtggbjdmpjidhgaaGreatDoorY11
set_option linter.all false
set_option maxHeartbeats 1500000
set_option maxRecDepth 100000
namespace Go.Proofs.YtggbjdmpjidhgaaGreatDoor
open Go.RowKit Go.Proofs.Tryz
variable{g i n p:Nat}{r:Rul}{s:Int}{tab:Nat->Nat->Nat}{a:Nat × Nat}{S:Nat->Prop}{A Ar:Option Addr}{l xs:List Int}{t:List Nat}{Q:Exit->Act->World->Prop}{cs:Array Value}{e:TypeId}{ops:Array Oper}{rest:List Oper}{w0:World}
theorem tr_null1(r:Rul)(Ar:Option Addr)(cr g n:Nat)(N:List Bool)(w:World)(C:Za .i64 w Ar r.right.length cr r.right)(z:Z8 w g N)(L:N.length=n)(M:n<=1000)(O:∀s∈r.right,-(n:Int)<=s/\s<=1000):
 Calls prog 151 #[.agg #[.int .i64 r.left,.slice Ar r.right.length cr,.int .i64 r.prec],.slice (some ⟨g,0,none⟩) n n] w λe w'=>Below w w w'/\∃A m c,e = .returned (.slice A m c)/\Za .i64 w' A m c (Bd r N)/\Apart A g:=by
 have R:g<w.heap.size:=z.lt;have y:=Zy w (.cells #[.int .i64 r.left,.slice Ar r.right.length cr,.int .i64 r.prec] 52);have I:=Fl.new w 52 r.left Ar r.right.length cr r.prec;have D:=all_split N r.right;go_enter func151,ntmps151;have⟨z5,z0,z1,z2⟩:=I;have l:=λw' (q:Below w w w')=>tr_bare r.left Ar cr r.right r.prec w' (C.below q);have d:=λw' (q:Below w w w')=>F7 r.left Ar cr g n r.right r.prec N w' (C.below q) (Blk.ext z q) L M O;generalize (!r.right.any λs=>decide (0<=s))=k at *;generalize (!r.right.any (Cf N))=p at *;have u:Hid (Bd r N=if (k&&p) then [r.left] else []):=LH (by unfold Bd;rw[D]);have F:=LH l;have x:=LH d;clear l d D;go_wp2_with fail;generalize w.alloc (.cells #[.int .i64 r.left,.slice Ar r.right.length cr,.int .i64 r.prec] 52)=H at *;have l:=(F H y).mono λe w' a=>And.intro a.1 (And.intro (Jd a.2).1 (LH (Zz y a.2)));have G:=LH l;clear l;refine G.out.mono ?_;rintro e w1⟨rfl,v,f⟩;have E:=(v _ 0 z5).trans z0;have T:=(v _ 1 z5).trans z1;have U:=(v _ 2 z5).trans z2;have J:w.heap.size<w1.heap.size:=by
  rcases BC w w1 with h | h
  ·exact h
  simp[World.cell?,CW h] at E
 rcases (by cases k <;> cases p <;> simp:k=false\/(k=true/\p=false)\/(k=true/\p=true)) with rfl | ⟨rfl,rfl⟩ | ⟨rfl,rfl⟩
 ·go_wp2_with fail;go_ret;exact⟨f,none,0,0,rfl,by rw[u];exact Za.nil _ _ _ _ AA,λb o h=>by cases h⟩
 ·have d:=(x w1 f).mono λe w' a=>And.intro a.1 (And.intro (Jd a.2).1 (LH (Zz f a.2)));have t:=LH d;clear d;go_wp2_with (go_at_call 108;refine t.out.mono ?_;rintro e P⟨rfl,B,j⟩);go_ret;exact⟨j,none,0,0,rfl,by rw[u];exact Za.nil _ _ _ _ AA,λb o h=>by cases h⟩
 have d:=(x w1 f).mono λe w' a=>And.intro a.1 (And.intro (Jd a.2).1 (LH (Zz f a.2)));have t:=LH d;clear d;go_wp2_with (go_at_call 108;refine t.out.mono ?_;rintro e P⟨rfl,B,j⟩;have S:=(B _ 0 J).trans E);go_ret;refine⟨j.alloc j.size _,_,1,1,rfl,by rw[u];exact Ztd _ _ _,λb o h=>?_⟩;injection h with h;injection h with h _;have:=j.size;omega
theorem Zzh(h:GH)(G:Gr)(w:World)(d:Yf w h G)(S:∀t∈G.terms,t.name.size<=maxLen)(F:h.n1<=100)(H:h.n2<=100)(I:h.n3<=100):
 Calls prog 91 #[GV h G.start] w λe w'=>Below w w w' /\
  ((G.right=false/\e = .returned (.slice none 0 0))\/(G.right=true/\∃g,w.heap.size<=g/\e = .returned (.slice (some ⟨g,0,none⟩) h.n2 h.n2)/\Z8 w' g (Zj G))):=by
 obtain⟨a1,n1,c1,a2,n2,c2,a3,n3,c3⟩:=h;have m:G.nons.length=n2:=d.nons.len;have T:=d.nons.cap;simp only[] at F H I T;have p:=Zy w (.cells #[.slice a1 n1 c1,.slice a2 n2 c2,.slice a3 n3 c3,.int .i64 G.start] 26);have x:=Y1.new w 26 ⟨a1,n1,c1,a2,n2,c2,a3,n3,c3⟩ G.start;have P:=Nt n2 AA;go_enter func91,ntmps91;have⟨z5,z0,z1,z2,z3⟩:=x;simp only[] at z0 z1 z2 z3;go_wp2_with fail;generalize w.alloc (.cells #[.slice a1 n1 c1,.slice a2 n2 c2,.slice a3 n3 c3,.int .i64 G.start] 26)=E at *;(refine (J4 ⟨a1,n1,c1,a2,n2,c2,a3,n3,c3⟩ G E (d.below p) S (by simp only[];omega) (by simp only[];omega)).mono ?_);rintro e b⟨rfl,v⟩;have j:=Zz p v;have M:=x.below v;have⟨y5,y0,y1,y2,y3⟩:=M;simp only[] at y0 y1 y2 y3;rcases l:G.right with _ | _
 ·go_wp2_with fail;go_ret;exact⟨j,.inl ⟨l,rfl⟩⟩
 have k:=Gr.fits l;have D:=LH l;have V:=LH k;have u:=Z8.new b (List.replicate n2 false);have a:=Zy b (.cells (Qk (List.replicate n2 false)).toArray 4);have z:=d.below j;have B:=λW c J=>Zte ⟨a1,n1,c1,a2,n2,c2,a3,n3,c3⟩ G 151 #[] enters_null1 Bd b n2 (List.replicate n2 false) b W z J (AJ _) AA c AE (by simp only[];omega)
  (λr n N q s f=>by
    unfold Bd at f;split at f
    ·rw[BU] at f;subst f;have:=k.left r n;rw[m] at this;exact this
    cases f)
  (λr n Ar cr N w' _ R q O=>tr_null1 r Ar cr b n2 N w' R q O AA (by have:=k.symB n;rwa [m] at this))
 have o:=LH B;clear l k B d z;go_wp2_with fail;go_region_with (go_at_call 150;refine (o.out _ ?_ ?_).mono ?_;exact u;exact⟨a.os,a.tape,a.output,a.size,a.block⟩;rintro e U⟨rfl,A,c⟩)
 all_goals
  have L:Below b b U:=by
   refine Below.trans ?_ (Zn A a.size (AJ _));exact⟨a.os,a.tape,a.output,a.size,a.block⟩
  have y:Zj G=Z3 (Yy Bd G.rules) n2 (List.replicate n2 false):=by rw[Zx9];unfold Zj;rw[m];rfl
  rw[<-y] at c;have C:=LH c;clear c y A o u a P y0 y1 y2 y3 z0 z1 z2 z3;go_wp2_with fail;go_ret;exact⟨Zz j L,.inr ⟨D,b.heap.size,j.size,rfl,C⟩⟩
theorem N4(h:GH)(G:Gr)(w:World)(d:Yf w h G)(S:∀t∈G.terms,t.name.size<=maxLen)(F:h.n1<=100)(H:h.n2<=100)(I:h.n3<=100):
 Calls prog 105 #[GV h G.start] w λe w'=>Below w w w' /\
  ((G.right=false/\e = .returned (.slice none 0 0))\/(G.right=true/\∃g,w.heap.size<=g/\e = .returned (.slice (some ⟨g,0,none⟩) h.n2 h.n2)/\Z8 w' g (Zt G))):=by
 obtain⟨a1,n1,c1,a2,n2,c2,a3,n3,c3⟩:=h;have m:G.nons.length=n2:=d.nons.len;have T:=d.nons.cap;simp only[] at F H I T;have p:=Zy w (.cells #[.slice a1 n1 c1,.slice a2 n2 c2,.slice a3 n3 c3,.int .i64 G.start] 26);have x:=Y1.new w 26 ⟨a1,n1,c1,a2,n2,c2,a3,n3,c3⟩ G.start;have P:=Nt n2 AA;go_enter func105,ntmps105;have⟨z5,z0,z1,z2,z3⟩:=x;simp only[] at z0 z1 z2 z3;go_wp2_with fail;generalize w.alloc (.cells #[.slice a1 n1 c1,.slice a2 n2 c2,.slice a3 n3 c3,.int .i64 G.start] 26)=E at *;(refine (J4 ⟨a1,n1,c1,a2,n2,c2,a3,n3,c3⟩ G E (d.below p) S (by simp only[];omega) (by simp only[];omega)).mono ?_);rintro e b⟨rfl,v⟩;have j:=Zz p v;have M:=x.below v;have⟨y5,y0,y1,y2,y3⟩:=M;simp only[] at y0 y1 y2 y3;rcases l:G.right with _ | _
 ·go_wp2_with fail;go_ret;exact⟨j,.inl ⟨l,rfl⟩⟩
 have k:=Gr.fits l;have D:=LH l;have V:=LH k;have u:=Z8.new b (List.replicate n2 false);have a:=Zy b (.cells (Qk (List.replicate n2 false)).toArray 4);have z:=d.below j;have B:=λW c J=>Zte ⟨a1,n1,c1,a2,n2,c2,a3,n3,c3⟩ G 168 #[] enters_prod1 Bn b n2 (List.replicate n2 false) b W z J (AJ _) AA c AE (by simp only[];omega)
  (λr n N q s f=>by
    unfold Bn at f;split at f
    ·rw[BU] at f;subst f;have:=k.left r n;rw[m] at this;exact this
    cases f)
  (λr n Ar cr N w' _ R q O=>tr_prod1 r Ar cr b n2 N w' R q O AA (by have:=k.symB n;rwa [m] at this))
 have o:=LH B;clear l k B d z;go_wp2_with fail;go_region_with (go_at_call 150;refine (o.out _ ?_ ?_).mono ?_;exact u;exact⟨a.os,a.tape,a.output,a.size,a.block⟩;rintro e U⟨rfl,A,c⟩)
 all_goals
  have L:Below b b U:=by
   refine Below.trans ?_ (Zn A a.size (AJ _));exact⟨a.os,a.tape,a.output,a.size,a.block⟩
  have y:Zt G=Z3 (Yy Bn G.rules) n2 (List.replicate n2 false):=by rw[Zy0];unfold Zt U5;rw[m]
  rw[<-y] at c;have C:=LH c;clear c y A o u a P y0 y1 y2 y3 z0 z1 z2 z3;go_wp2_with fail;go_ret;exact⟨Zz j L,.inr ⟨D,b.heap.size,j.size,rfl,C⟩⟩
theorem tr_reach1(r:Rul)(Ar:Option Addr)(cr g x d n:Nat)(N P:List Bool)(w:World)(I:Za .i64 w Ar r.right.length cr r.right)(D:Z8 w g N)(V:Z8 w x P)(H:w.cell? ⟨d,0,none⟩=some (.slice (some ⟨x,0,none⟩) n n))(hn:N.length=n)(ax:P.length=n)(aw:n<=1000)(hl:0<=r.left/\r.left<(n:Int))(J:∀s∈r.right,-(n:Int)<=s/\s<=1000)(a3:r.right.length<=1000):
 Calls prog 169 #[.agg #[.int .i64 r.left,.slice Ar r.right.length cr,.int .i64 r.prec],.slice (some ⟨g,0,none⟩) n n,.pointer (some ⟨d,0,none⟩)] w λe w'=>Below w w w'/\∃A m c,e = .returned (.slice A m c)/\Za .i64 w' A m c (Yp P r N)/\Apart A g:=by
 have a1:g<w.heap.size:=D.lt;have ap:d<w.heap.size:=World.block_lt_of_cell? w ⟨d,0,none⟩ H;have j:=Zy w (.cells #[.int .i64 r.left,.slice Ar r.right.length cr,.int .i64 r.prec] 52);have E:=Fl.new w 52 r.left Ar r.right.length cr r.prec;have ae:=Zty P r.right;obtain⟨a,Z⟩:∃a:Nat,r.left=(a:Int):=⟨r.left.toNat,AA⟩;have aq:a<n:=AA
 have W:(w.alloc (.cells #[.int .i64 r.left,.slice Ar r.right.length cr,.int .i64 r.prec] 52)).cell? ⟨g,a,none⟩=some (.bool (N.getD a false)):=Z8.at (Blk.ext D j) (by rw[hn];exact aq);have ab:(w.alloc (.cells #[.int .i64 r.left,.slice Ar r.right.length cr,.int .i64 r.prec] 52)).cell? ⟨d,0,none⟩=some (.slice (some ⟨x,0,none⟩) n n):=(j.cell (p:=⟨d,0,none⟩) ap).trans H;have f:=λw' (X:Below w w w')=>F7 r.left Ar cr x n r.right r.prec P w' (I.below X) (Blk.ext V X) ax aw J;have ad:Yp P r N=if N.getD a false&&Xj true P r.right then Uq r.right else []:=by unfold Yp Dr;rw[show r.left.toNat=a by omega]
 rw[ae] at f;have C:=LH ad;have S:=LH I;have z:=LH f;have Hs:=LH J;rw[Z] at W ab j E z;clear ad f ae I J D V H hl;rw[Z];go_enter func169,ntmps169;have⟨z5,z0,z1,z2⟩:=E;go_upto_region 1 with fail;generalize w.alloc (.cells #[.int .i64 (a:Int),.slice Ar r.right.length cr,.int .i64 r.prec] 52)=W0 at *;have O:=LH j;have f:=(z W0 j).mono λe w' G=>And.intro G.1 (And.intro (Jd G.2).1 (LH (Zz O G.2)));have M:=LH f;have a0:=S.cap;clear f z j E;generalize N.getD a false=y at *;generalize Xj true P r.right=L at *;rcases (by cases y <;> cases L <;> simp:y=false\/(y=true/\L=false)\/(y=true/\L=true)) with rfl | ⟨rfl,rfl⟩ | ⟨rfl,rfl⟩
 ·go_wp2_with fail;go_ret;exact⟨O,none,0,0,rfl,by rw[C];exact Za.nil _ _ _ _ AA,λb o h=>by cases h⟩
 ·go_wp2_with (go_at_call 108;refine M.out.mono ?_;rintro e w2⟨rfl,F,B⟩);go_ret;exact⟨B,none,0,0,rfl,by rw[C];exact Za.nil _ _ _ _ AA,λb o h=>by cases h⟩
 go_wp2_with (go_at_call 108;refine M.out.mono ?_;rintro e w2⟨rfl,F,B⟩;have x1:=(F _ 1 z5).trans z1);have ai:=LH Tryz.infoI64C;clear F x1 z0 z1 z2 z5 W ab;go_loopw [5,23] (λv i wr=>∃(k m c:Nat) (A:Option Addr),v = .slice A m c/\i = .int .i64 (k:Int)/\k<=r.right.length/\m<=k/\Hid (m=(Uq (r.right.take k)).length)/\Hid (wr.ownsRow w 3 1 (.slice A m c) m (ints .i64 (Uq (r.right.take k))))/\Hid (Below w w wr)) (λ_ i _=>r.right.length-(intOf i).toNat)
 case atStart=>exact⟨0,0,0,none,rfl,rfl,AV _,AJ _,LH rfl,LH (BJ _ _ _ _),B⟩
 obtain⟨k,m,c,A,rfl,rfl,hk,hm,R,u,q⟩:=hrel;have ao:w.heap.size<=wr.heap.size:=q.size;by_cases ar:k<r.right.length
 ·obtain⟨sb,so,s,rfl,a6,T,qs⟩:=(S.below q).get ar;have a5:=Hs s (AM T);have l:=Zxl T;by_cases U:s<0
  ·have a7:IntKind.i64.wrap (-1-s)=-1-s:=BS _ AA;rw[if_pos U] at l;have t:=LH l;clear l;go_wp2_with (first
    | (at_builtin;refine Ye rfl _ _ 27 rfl w 3 _ 1 8 underlying27 ai AC AC A m c (ints .i64 (Uq (r.right.take k))) rfl u [.int .i64 (-1-s)] rfl rfl (by simp[Value.oneCell']) AA AA AA ?_;intro A4 c4 w4 ho Y ha
       have aj:=LH ho;have ag:=LH (X6 q Y u ao);clear ho Y ha))
   go_roundw
   case rel=>exact⟨k+1,m+1,c4,A4,rfl,AF,AA,AA,LH (by rw[t,R];simp),LH (by rw[t,Gj];exact aj),ag⟩
   simp[intOf];omega
  rw[if_neg U] at l;have t:=LH l;clear l;go_wp2_with fail;go_roundw
  case rel=>exact⟨k+1,m,c,A,rfl,AF,AA,AA,LH (by rw[t];exact R),LH (by rw[t];exact u),q⟩
  simp[intOf];omega
 have Hf:Hid (Za .i64 wr A m c (Yp P r N)):=LH (by
  have:=Yl u;rw[AR AA] at this;rw[C];exact this)
 go_wp2_with fail;go_ret;refine⟨q,A,m,c,rfl,Hf,λb o h=>?_⟩;have:=u.lt b (by rw[h];rfl);omega
theorem tr_Reachable(h:GH)(G:Gr)(w:World)(v:Yf w h G)(hs:∀t∈G.terms,t.name.size<=maxLen)(C:h.n1<=100)(Y:h.n2<=100)(h3:h.n3<=100):
 Calls prog 106 #[GV h G.start] w λe w'=>Below w w w' /\
  ((G.right=false/\e = .returned (.slice none 0 0))\/(G.right=true/\∃g,w.heap.size<=g/\e = .returned (.slice (some ⟨g,0,none⟩) h.n2 h.n2)/\Z8 w' g (Z5 G))):=by
 obtain⟨a1,n1,c1,a2,n2,c2,a3,n3,c3⟩:=h;have j:G.nons.length=n2:=v.nons.len;have k2:=v.nons.cap;simp only[] at C Y h3 k2;have Z:=Zy w (.cells #[.slice a1 n1 c1,.slice a2 n2 c2,.slice a3 n3 c3,.int .i64 G.start] 26);have J:=Y1.new w 26 ⟨a1,n1,c1,a2,n2,c2,a3,n3,c3⟩ G.start;have bj:=Nt n2 AA;have B:=LH v;have W:=LH hs;clear v hs;go_enter func106,ntmps106;have⟨z5,z0,z1,z2,z3⟩:=J;simp only[] at z0 z1 z2 z3;go_wp2_with fail;generalize w.alloc (.cells #[.slice a1 n1 c1,.slice a2 n2 c2,.slice a3 n3 c3,.int .i64 G.start] 26)=W0 at *;(refine (J4 ⟨a1,n1,c1,a2,n2,c2,a3,n3,c3⟩ G W0 (B.out.below Z) W.out (by simp only[];omega) (by simp only[];omega)).mono ?_);rintro e W1⟨rfl,aj⟩;have D:=Zz Z aj;have L:=J.below aj;clear z0 z1 z2 z3 z5 J;have⟨y5,y0,y1,y2,y3⟩:=L;simp only[] at y0 y1 y2 y3;rcases z:G.right with _ | _
 ·go_wp2_with fail;go_ret;exact⟨D,.inl ⟨z,rfl⟩⟩
 have R:=Gr.fits z;have bs:=R.st;have V:=LH z;have p:=LH R;obtain⟨b,aq⟩:∃b:Nat,G.start=(b:Int):=⟨G.start.toNat,AA⟩;have bh:b<n2:=AA
 have U:=LH aq;clear aq;have X:=(N4 ⟨a1,n1,c1,a2,n2,c2,a3,n3,c3⟩ G W1 (B.below D) W (by simp only[];omega) (by simp only[];omega) (by simp only[];omega)).mono λe w' hh=>And.intro hh.1 (hh.2.resolve_left λhc=>by rw[V] at hc;cases hc.1).2;have CP:=LH X;clear z R X;go_wp2_with fail;refine CP.out.mono ?_;rintro e d⟨ak,c,bq,rfl,E⟩;have aa:=Zz D ak;have M:=L.below ak;have br:c<d.heap.size:=E.lt;have u:=Zy d (.cells #[.slice (some ⟨c,0,none⟩) n2 n2] 97);have ae:=Blk.new d 97 #[.slice (some ⟨c,0,none⟩) n2 n2];have ai:Z8 (d.alloc (.cells #[.slice (some ⟨c,0,none⟩) n2 n2] 97)) c (Zt G):=Blk.ext E u;have O:=M.below u;have bm:=Zl d (.cells #[.slice (some ⟨c,0,none⟩) n2 n2] 97);clear y0 y1 y2 y3 y5 L;go_upto_region 4 with fail;generalize d.alloc (.cells #[.slice (some ⟨c,0,none⟩) n2 n2] 97)=k at *;generalize y:d.heap.size=a at *;have q:=Z8.new k (List.replicate n2 false);have l:=Zy k (.cells (Qk (List.replicate n2 false)).toArray 4);have ab:=ae.ext l;have ag:Z8 (k.alloc (.cells (Qk (List.replicate n2 false)).toArray 4)) c (Zt G):=Blk.ext ai l;have al:=O.below l;have⟨y5,y0,y1,y2,y3⟩:=O;simp only[] at y0 y1 y2 y3;have H:=u.trans (l.mono AA);go_upto_region 5 with fail;generalize k.alloc (.cells (Qk (List.replicate n2 false)).toArray 4)=W3 at *;generalize bp:k.heap.size=gI at *;obtain rfl:gI=a+1:=bm;clear y0 y1 y2 y3 y5;have⟨y5,y0,y1,y2,y3⟩:=al;simp only[] at y0 y1 y2 y3;rw[U] at y3;have bd:=Blk.frozen q b;have bc:=q.at (i:=b) (by simpa using bh);have S:=q.put b true;have av:Xv G=(List.replicate n2 false).set b true:=by unfold Xv;rw[j,U];rfl
 rw[<-av] at S;have bl:(Xv G).length=n2:=by unfold Xv;simp[j]
 have ad:=ab.other (a+1) b (.bool true) AA;have ah:Z8 (W3.setCell ⟨(a+1),b,none⟩ (.bool true)) c (Zt G):=Blk.other ag (a+1) b (.bool true) AA;have I:=H.trans (Zn (Zd W3 (a+1) b (.bool true)) (by have:=H.size;omega) AA);have am:Y1 (W3.setCell ⟨(a+1),b,none⟩ (.bool true)) w ⟨a1,n1,c1,a2,n2,c2,a3,n3,c3⟩ G.start:=M.below (by rw[y];exact I);have a6:=LH S;have ay:=LH ad;have az:=LH ah;have A:=LH I;have a5:=LH am;have f:=LH aa;have be:(a+1)≠a:=AA
 have bf:(a+1)≠c:=AA
 clear S al ab ag O q l ae ai u H bj ad ah I am aa M av E;go_upto_region 6 with fail;generalize W3.setCell ⟨(a+1),b,none⟩ (.bool true)=W4 at *;clear y0 y1 y2 y3 y5 bd bc;have⟨y5,y0,y1,y2,y3⟩:=a5.out;simp only[] at y0 y1 y2 y3;have hq:=Zte ⟨a1,n1,c1,a2,n2,c2,a3,n3,c3⟩ G 169 #[.pointer (some ⟨a,0,none⟩)] enters_reach1 (Yp (Zt G)) (a+1) n2 (Xv G) d W4 (B.below f) (by rw[y];exact A) AA AA a6 bl (by simp only[];omega)
  (λr n N hN s o=>by
    unfold Yp at o;split at o
    ·unfold Uq at o;obtain⟨x,T,rfl⟩:=CV.1 o;rw[List.mem_filter] at T;have C:=p.sym r n x T.1;have Y:x<0:=by simpa using T.2
     rw[j] at C;omega
    cases o)
  (λr n Ar cr N w' m bk hN hl=>tr_reach1 r Ar cr (a+1) c a n2 N (Zt G) w' bk hN (Blk.grown az m (by intro e;injection e with e;exact bf e.symm)) ((ay.grown m (by intro e;injection e with e;exact be e.symm)).cell 0) hl (by rw[Vx];exact j) AA (by have:=p.left r n;rw[j] at this;exact this) (by have:=p.symB n;rwa [j] at this) (by have:=p.len r n;omega))
 have HQ:=LH hq;clear hq;go_wp2_with fail;refine HQ.out.mono ?_;rintro e W5⟨rfl,m,F⟩;have ao:Z5 G=Z3 (Yy (Yp (Zt G)) G.rules) n2 (Xv G):=by unfold Z5;rw[j]
 rw[<-ao] at F;have HT:=LH F;have ax:=LH ((f.trans (A.mono (by rw[<-y];exact f.size))).trans (Zn m (f.trans (A.mono (by rw[<-y];exact f.size))).size (by have:=f.size;omega)));have bg:w.heap.size<=(a+1):=by have:=f.size;omega
 clear F ao m y0 y1 y2 y3 y5;go_wp2_with fail;go_ret;exact⟨ax,.inr ⟨V,(a+1),bg,rfl,HT⟩⟩
theorem K9(G:Gr):(Z5 G).length=G.nons.length:=by
 unfold Z5;have:∀k,(Z3 (Yy (Yp (Zt G)) G.rules) k (Xv G)).length=(Xv G).length:=λk=>Dw _ _ _ k;rw[this];unfold Xv;simp
theorem Gl(G:Gr)(b:G.Fits)(i:Nat):(Qm G).testBit i=true↔(Zt G).getD i false=true/\(Z5 G).getD i false=true:=by
 unfold Qm;rw[J3];simp only[AS,decide_eq_true_eq];have:=b.n2.2;constructor
 ·rintro⟨_,_,h⟩;exact h
 intro h;have c:i<G.nons.length:=by
  rcases BC i G.nons.length with a | a
  ·exact a
  have h1:=h.1;rw[AP,BE (by rw[Vx];exact a)] at h1;cases h1
 exact⟨AA,c,h⟩
theorem use_closed(G:Gr)(f:G.Fits):∀i t,(Qm G).testBit i=true->((Yz G).getD i 0).testBit t=true->(Qm G).testBit t=true:=by
 intro i t hi u;rw[Gl G f] at hi ⊢;have m:Yy (Yp (Zt G)) G.rules (Z5 G)=Z5 G:=by
  have:=(Wn (Yp (Zt G)) G.rules).fix (Xv G);have a:(Xv G).length=G.nons.length:=by unfold Xv;simp
  rw[a] at this;exact this
 refine Zva (λi t=>((Zt G).getD i false=true/\(Z5 G).getD i false=true)->(Zt G).getD t false=true/\(Z5 G).getD t false=true) (Zj G) (Zt G) G.rules (λr l k s q d hi=>?_) _ (λi t h=>?_) i t u hi
 ·unfold Xk at d;simp only[AS,decide_eq_true_eq] at d;obtain⟨⟨h0,_⟩,j⟩:=d;have c:=AM q;have v:=f.sym r l s c;refine⟨?_,?_⟩
  ·have b:=j;unfold Xj at b;rw[BG] at b;have:=b s c;rwa [if_neg AA] at this
  have g:=Ge (Yp (Zt G)) G.rules m r l;have n:Dr (Zt G) r (Z5 G)=true:=by unfold Dr;rw[hi.2,j];rfl
  have o:Yp (Zt G) r (Z5 G)=Uq r.right:=by unfold Yp;rw[if_pos n]
  rw[o] at g;have p:-1-s∈Uq r.right:=by
   unfold Uq;rw[CV];exact⟨s,List.mem_filter.2 ⟨c,by rw[BB];exact h0⟩,rfl⟩
  have:=Zxo (Uq r.right) (N:=Z5 G) p (by rw[K9];omega);rw[g] at this;exact this
 rw[AP] at h;rcases BC i G.nons.length with a | a
 ·simp[a] at h
 simp[BE,a] at h
theorem order_next(G:Gr)(b:G.right=true)(c:endG G=false)(f:Qx (U2 (Yz G) (Qm G) g) G.nons.length=none):Ck (Qm G) g=0:=by
 have d:=Gr.fits b;rw[<-Wh] at f;refine order_goes (use_closed G d) (λi hi=>?_) (λi hi=>?_) f
 ·rw[Gl G d] at hi;rw[Wh];rcases BC i G.nons.length with a | a
  ·exact a
  have h1:=hi.1;rw[AP,BE (by rw[Vx];exact a)] at h1;cases h1
 cases j:Yw (Yz G) i i
 ·rfl
 exfalso;have h:=Ztx (Jg _ _) hi;have l:i<(Yz G).length:=by
  unfold Qm at hi;rw[J3] at hi;simp only[AS,decide_eq_true_eq] at hi;rw[Wh];exact hi.2.1
 have k:(Vh G).testBit i=true:=by
  unfold Vh cycS;rw[if_pos b,J3,j];simp[h,l]
 have m:(Gy G).testBit i=true:=by
  unfold Gy;rw[if_pos b];exact hi
 have n:Vh G &&& Gy G=0:=by
  unfold endG at c;simpa using c
 have:=Nat.testBit_and (Vh G) (Gy G) i;rw[n,k,m,Nat.zero_testBit] at this;cases this
theorem reach_fix(G:Gr):Yy (Yp (Zt G)) G.rules (Z5 G)=Z5 G:=by
 have:=(Wn (Yp (Zt G)) G.rules).fix (Xv G);have a:(Xv G).length=G.nons.length:=by unfold Xv;simp
 rw[a] at this;exact this
theorem Zz1{G:Gr}(d:G.Fits):(Z5 G).getD G.start.toNat false=true:=by
 have key:∀(k:Nat),(Z3 (Yy (Yp (Zt G)) G.rules) k (Xv G)).getD G.start.toNat false=true:=by
  intro k
  induction k with
  | zero =>
    rw[Z3];unfold Xv;exact (Uh _ _ _).2 (.inr ⟨rfl,by rw[Ef];have:=d.st;omega⟩)
  | succ k a =>
    rw[Z3];have h1:=(Wn (Yp (Zt G)) G.rules);have b:=getD_lt a;generalize Z3 (Yy (Yp (Zt G)) G.rules) k (Xv G)=N at *;have c:N[G.start.toNat]? = some true:=by
     rw[AP,AN b] at a;rw[AN b];exact congrArg some a
    have:=h1.up N _ c;rw[AP,this];rfl
 exact key _
theorem C9{G:Gr}(d:G.Fits)(b:r∈G.rules)(j:(Z5 G).getD r.left.toNat false=true)(h:Xj true (Zt G) r.right=true)(c:s∈r.right)(h0:s<0):(Z5 G).getD (Zp s) false=true:=by
 have a:=Ge (Yp (Zt G)) G.rules (reach_fix G) r b;have f:Dr (Zt G) r (Z5 G)=true:=by unfold Dr;rw[j,h];rfl
 have g:Yp (Zt G) r (Z5 G)=Uq r.right:=by unfold Yp;rw[if_pos f]
 rw[g] at a;have k:=d.sym r b s c;have:=Zxo (Uq r.right) (N:=Z5 G) (Zur.2 ⟨s,c,h0,rfl⟩) (by rw[K9];omega);rw[a] at this;exact this
theorem N0{G:Gr}(c:G.Fits):i∈Ze G↔useB G i:=by
 unfold Ze;rw[Ka];constructor
 ·rintro⟨r,a,rfl⟩;obtain⟨h1,d,f⟩:=Fq.1 a;refine⟨Ue (b:=true) h1 ?_ f,d⟩;have:=c.left r h1;omega
 rintro⟨h,j⟩;obtain⟨r,a,rfl,g⟩:=prod_rule c h;exact⟨r,Fq.2 ⟨a,j,g⟩,rfl⟩
theorem use_lt{G:Gr}(h:useB G i):i<G.nons.length:=by
 have:=getD_lt h.1;rwa [Vx] at this
theorem Qz{G:Gr}(b:G.Fits)(f:r∈Yh G)(c:s∈r.right)(h0:s<0):Zp s∈Ze G:=by
 obtain⟨h1,d,a⟩:=Fq.1 f;rw[N0 b];exact⟨(U8.1 a s c).2 h0,C9 b h1 d a c h0⟩
theorem Zu7{G:Gr}(a:G.Fits):(Ze G).length<=G.nons.length:=by
 exact Br _ _ (Ub G) λi hi=>use_lt ((N0 a).1 hi)
theorem Jm{G:Gr}(a:G.Fits)(h:(Zt G).getD G.start.toNat false=true):G.start.toNat∈Ze G:=(N0 a).2 ⟨h,Zz1 a⟩
theorem red_ruleOK{G:Gr}(g:G.Fits)(k:r∈Yh G)(h:G.ruleOK r=true):(Zi G).ruleOK (Wb (Ze G) r)=true:=by
 unfold Gr.ruleOK at h ⊢;simp only[AS,decide_eq_true_eq,BG] at h ⊢;obtain⟨⟨h1,d⟩,f⟩:=h;refine⟨⟨by simp[Wb,h1],d⟩,λp l=>?_⟩;obtain⟨s,c,rfl⟩:=CV.1 l;have a:=f s c;have b:=Qz g k c;unfold Gr.symOK at a ⊢;rw[AS] at a ⊢;by_cases h0:s<0
 ·have n:=(Mk s b).2 h0;have o:=G8 h0 (b h0);have m:=Df (Ze G) (Zp s);refine⟨?_,?_⟩
  ·unfold Gr.has;rw[if_neg AA,BB];show -1-Xd (Ze G) s<(((Ze G).map (Ws G)).length:Int);rw[BF];have:(Zp (Xd (Ze G) s):Int)=-1-Xd (Ze G) s:=by unfold Zp;omega
   omega
  have:decide (0<=Xd (Ze G) s)=false:=by rw[BA];omega
  rw[this];rfl
 have j:Xd (Ze G) s=s:=by unfold Xd;rw[if_neg h0]
 rw[j];refine⟨?_,a.2⟩;have:=a.1;unfold Gr.has at this ⊢;rw[if_pos AA] at this ⊢;exact this
theorem Ju{G:Gr}(h:G.right=true)(L:(Zt G).getD G.start.toNat false=true):(Zi G).right=true:=by
 have a:=Gr.fits h;obtain⟨h1,g,A,R,B⟩:=Nd.1 h;have v:=Jm a L;obtain⟨k,S,T,U⟩:=toI_mem (Ub G) v;have V:=Zu7 a;have W:=a.n2;have O:=(G.lefts_all _ _ _ B).2;have J:∀r∈Yh G,(Zi G).ruleOK (Wb (Ze G) r)=true:=λr u=>red_ruleOK a u (O r (Fq.1 u).1).2.2;have m:(Zi G).nons.length=(Ze G).length:=by show ((Ze G).map (Ws G)).length=_;rw[BF]
 obtain⟨X,N,_⟩:=Ka.1 v;refine Nd.2 ⟨(terms_same (G:=G) (H:=Zi G) rfl).trans h1,?_,⟨?_,?_⟩,⟨?_,?_⟩,?_⟩
 ·unfold Gr.nonsOK;rw[AS,BB,m];refine⟨AA,Kc λj s P=>?_⟩;obtain⟨i,hi,rfl⟩:∃i,(Ze G)[j]? = some i/\Ws G i=s:=by
   have:((Ze G).map (Ws G))[j]? = some s:=P;rw[By] at this;cases o:(Ze G)[j]? with
   | none=>rw[o] at this;cases this
   | some i=>rw[o] at this;exact⟨i,rfl,by simpa using this⟩
  have F:=use_lt ((N0 a).1 (AM hi));unfold Gr.nonsOK at g;rw[AS] at g;have I:∀q,q<G.nons.length->G.nons[q]? = some (Ws G q):=λq d=>by
   unfold Ws;rw[AN d];rfl
  have p:=λq d=>Bj g.2 (I q d);have b:=p i F;unfold Gr.nonOK at b ⊢;simp only[AS,decide_eq_true_eq] at b ⊢;refine⟨⟨b.1.1,?_⟩,b.2⟩;show Y8 (λt=>decide (t=Ws G i)) ((Ze G).map (Ws G))=(j:Int);refine Q4 (x:=Ws G i) (by rw[By,hi];rfl) AE λq d y c=>?_;rw[By] at c;cases f:(Ze G)[q]? with
  | none=>rw[f] at c;cases c
  | some n =>
    rw[f] at c;have:Ws G n=y:=by simpa using c
    subst this;rw[BA];intro E;have M:=use_lt ((N0 a).1 (AM f));have l:=p n M;unfold Gr.nonOK at l;simp only[AS,decide_eq_true_eq] at l;have C:=l.1.2;rw[E,b.1.2] at C;have D:i=n:=AA
    have:=Fc (Ub G) hi;have z:=Fc (Ub G) f;rw[<-D] at z;omega
 ·show 1<=((Yh G).map (Wb (Ze G))).length;rw[BF];exact List.length_pos_of_mem N
 ·show ((Yh G).map (Wb (Ze G))).length<=40;rw[BF];exact BD (List.length_filter_le _ _) A.2
 ·show 0<=toI (Ze G) G.start.toNat
  omega
 ·rw[m];show toI (Ze G) G.start.toNat<_;omega
 rw[m];have:=red_lefts G a J (Yh G) [] AE;exact this
theorem tree_stable{G:Gr}(c:Xq G):∀(m n:Nat) (s:Int),s<0->Zp s<G.nons.length->mu G n s=m->∀f o,m<f->m<o->Qw G f s n=Qw G o s n:=by
 intro m
 induction m using Nat.strongRecOn with
 | ind m F =>
   intro n s h0 I z f o N O;obtain⟨g,rfl⟩:∃g,f=g+1:=⟨f-1,AA⟩;obtain⟨a,rfl⟩:∃a,o=a+1:=⟨o-1,AA⟩;rw[Fg G g h0,Fg G a h0];refine Lu λr D L=>?_;have C:∀q∈r.right,q<0->Zp q<G.nons.length:=λq t l=>by
    have:=c.fits.sym r D q t;unfold Zp;omega
   have M:∀q∈r.right,∀k,k<n->Qw G g q k=Qw G a q k:=λq t k H=>by
    by_cases l:0<=q
    ·rw[Un G g l,Un G a l]
    have h1:=Gc G (Zp q);have:mu G k q<m:=by unfold mu at z ⊢;omega
    exact F _ this k q AA (C q t AA) rfl g a AA AA
   have top:∀(p:Nat) q,r.right[p]? = some q->(∀(j:Nat) b,j≠p->r.right[j]? = some b->Xg (Zj G) b=true)->Qw G g q n=Qw G a q n:=λp q d x=>by
    by_cases l:0<=q
    ·rw[Un G g l,Un G a l]
    have E:=D2 c D d AA x;rw[L] at E;have hd:=Zv8 c I E;have:mu G n q<m:=by unfold mu at z ⊢;omega
    exact F _ this n q AA (C q (AM d) AA) rfl g a AA AA
   by_cases B:n=0
   ·subst B;by_cases y:(∃q∈r.right,Qw G g q 0=0)/\∃q∈r.right,Qw G a q 0=0
    ·rw[Uf.2 y.1,Uf.2 y.2]
    refine Wp λq t k H=>?_;obtain rfl:k=0:=AA
    obtain⟨p,d⟩:=BT t;refine top p q d λj b _ v=>?_;have A:=AM v;by_cases h1:∃q∈r.right,Qw G g q 0=0
    ·refine Ms c.fits a λu=>y ⟨h1,b,A,u⟩
    exact Ms c.fits g λu=>h1 ⟨b,A,u⟩
   refine Zzb M (λp q d x=>top p q d λj b v J=>Ms c.fits g (x j b v J)) λh=>absurd h B
theorem treeN_fuel{G:Gr}(a:Xq G){f:Nat}(c:s<0->Zp s<G.nons.length)(b:n*4294967296+4294967296<=f):Qw G f s n=Zv G s n:=by
 unfold Zv;by_cases h0:0<=s
 ·rw[Un G _ h0,Un G _ h0]
 exact tree_stable a _ n s AA (c AA) rfl _ _ (mu_lt G n s b) (mu_lt G n s (fuelN_le n))
theorem Uu{G:Gr}(a:Xq G)(h0:s<0)(l:Zp s<G.nons.length)(n:Nat):Zv G s n=Yc (Zv G) G.rules (Zp s) n:=by
 obtain⟨f,b,c⟩:=fuelN_succ n;have e:Zv G s n=Qw G (f+1) s n:=by unfold Zv;rw[b]
 rw[e,Fg G f h0];refine Lu λr j o=>Wp λq h k d=>?_;have g:q<0->Zp q<G.nons.length:=λm=>by
  have:=a.fits.sym r j q h;unfold Zp;omega
 exact treeN_fuel a g (BD (Nat.add_le_add_right (Eu _ d) _) c)
theorem Ll.next{G:Gr}(a:Xq G){c:List Nat}(d:Ni G c){m:Nat}(h:Ll G c tab m p)(hi:c[p]? = some i):
 Yc (Yk tab) G.rules i m=Zv G (-1-(i:Int)) m:=by
 have o:=d.lt i (AM hi);rw[Uu a AA (by rw[nonI_of];exact o),nonI_of];refine (Lu λr l y=>?_).symm;have u:∀q∈r.right,q<0->Zp q<G.nons.length:=λq b C=>by
  have:=a.fits.sym r l q b;unfold Zp;omega
 refine Zzb (λq b k t=>?_) (λj q s v=>?_) λg q b h0=>?_
 ·unfold Yk;split
  ·rename_i h0;exact Xb G h0 k
  rename_i h0;rw[h.low k t _ (u q b AA),Fr AA]
 ·unfold Yk;split
  ·rename_i h0;exact Xb G h0 m
  rename_i h0;have n:=D2 a l s AA λA B x z=>Jw a (v A B x z);rw[y] at n;rw[h.now _ (d.pre p i hi _ n),Fr AA]
 unfold Yk;split
 ·rename_i h1;rw[<-Xb G h1];exact h0
 rename_i h1;by_cases f:Zp q∈c.take p
 ·subst g;rw[h.now _ f,Fr AA];exact h0
 subst g;exact h.rest _ f
theorem order_serves{G:Gr}(h:G.right=true)(n:∀i,i<G.nons.length->(Qm G).testBit i=true)(l:endG G=false):Ni G (Y4 (Yz G) (Qm G) G.nons.length G.nons.length).1:=by
 have m:=Gr.fits h;have k:Qm G<4294967296:=Jg _ _;have g:=Zy3 (Yz G) (Qm G) G.nons.length G.nons.length;have r:=order_next G h l (orderS_end (Yz G) G.nons.length k);have q:=(Dl (Yz G) G.nons.length k G.nons.length).mem;generalize Y4 (Yz G) (Qm G) G.nons.length G.nons.length=b at *;have f:∀i∈b.1,i<G.nons.length:=λi hi=>by
  obtain⟨p,s⟩:=BT hi;exact (g.2 p i s).1
 have v:=m.n2;refine⟨f,λp i hi t u=>?_,λi hi=>?_⟩
 ·have h1:=(g.2 p i hi).2;unfold U2 at h1;simp only[AS,BO] at h1;have a:=Nu ((Yz G).getD i 0) (My (b.1.take p)) t;rw[h1.2,Nat.zero_testBit,u,Bool.true_and] at a;have c:(My (b.1.take p)).testBit t=true:=by
   cases d:(My (b.1.take p)).testBit t
   ·rw[d] at a;cases a
   rfl
  exact (thereL_bit _ t λj o=>by have:=f j (List.mem_of_mem_take o);omega).1 c
 have a:=Nu (Qm G) b.2 i;rw[r,Nat.zero_testBit,n i hi,Bool.true_and] at a;have c:b.2.testBit i=true:=by
  cases d:b.2.testBit i
  ·rw[d] at a;cases a
  rfl
 exact (q i).1 c
theorem Zt9{G:Gr}(v:Xq G){a:List Nat}(f:Ni G a)(h:chkT G a tab n=true):∀k,k<=n->∀i,i<G.nons.length->tab k i=Zv G (-1-(i:Int)) k:=by
 unfold chkT at h;simp only[BG,BP] at h;have row:∀m,m<=n->Ll G a (B6 tab a m 0) m 0->∀p,p<=a.length->Ll G a (B6 tab a m p) m p:=by
  intro m x h0 p
  induction p with
  | zero=>intro _;exact h0
  | succ p q =>
    intro y;have t:=q AA;have hi:a[p]? = some (a[p]' AA):=AN AA;have e:a.getD p 0=a[p]' AA:=by rw[AP,hi];rfl
    have r:=Nat.eq_of_beq_eq_true (h m AA p AA);rw[e,t.next v f hi] at r;have s:=t.put hi (tab m (a[p]' AA)) r.symm;have u:U6 (B6 tab a m p) m (a[p]' AA) (tab m (a[p]' AA))=B6 tab a m (p+1):=by
     funext k j;unfold U6 B6;have o:a.take (p+1)=a.take p++[a[p]' AA]:=by rw[CX,hi];rfl
     by_cases c:k<m
     ·rw[if_neg AA,if_pos c,if_pos c]
     rw[if_neg c,if_neg c];by_cases d:k=m
     ·subst d;by_cases l:j=a[p]' AA
      ·subst l;rw[if_pos ⟨rfl,rfl⟩,if_pos ⟨rfl,by rw[List.contains_iff_mem,o];exact List.mem_append_right _ (BU.2 rfl)⟩]
      rw[if_neg λb=>l b.2];by_cases g:(a.take p).contains j=true
      ·rw[if_pos ⟨rfl,g⟩,if_pos ⟨rfl,by rw[List.contains_iff_mem] at g ⊢;rw[o];exact List.mem_append_left _ g⟩]
      rw[if_neg λb=>g b.2,if_neg λb=>g ?_];have:=b.2;rw[List.contains_iff_mem,o,DE,BU] at this;rw[List.contains_iff_mem];exact this.resolve_right l
     rw[if_neg λb=>d b.1,if_neg λb=>d b.1,if_neg λb=>d b.1]
    rw[u] at s;exact s
 have all:∀m,m<=n->Ll G a (B6 tab a m 0) m 0:=by
  intro m
  induction m with
  | zero=>intro _;rw[cut_zero];exact Ll.start G a
  | succ m q =>
    intro x;have h1:=row m AA (q AA) a.length (AJ _);refine⟨λk c i hi=>?_,λi hi=>by simp at hi,λi _=>?_⟩
    ·rcases (AA:k<m\/k=m) with d | rfl
     ·have:=h1.low k d i hi;unfold B6 at this ⊢;rw[if_pos d] at this;rw[if_pos AA];exact this
     have:=h1.now i (by rw[List.take_length];exact f.all i hi);unfold B6 at this ⊢;rw[if_neg AA,if_pos ⟨rfl,by simpa using f.all i hi⟩] at this;rw[if_pos AA];exact this
    unfold B6;rw[if_neg AA,if_neg];rintro⟨_,h⟩;simp at h
 intro k c i hi;have h1:=row k c (all k c) a.length (AJ _);have:=h1.now i (by rw[List.take_length];exact f.all i hi);unfold B6 at this;rw[if_neg AA,if_pos ⟨rfl,by simpa using f.all i hi⟩] at this;exact this
theorem tr_reach(g n i:Nat)(S:List Nat)(w:World)(r:V0 w g S)(hn:S.length=n)(av:n<=1000)(hi:i<n)(u:We S)(q:InS S)(C:Q2 w):
 Calls prog 89 #[.slice (some ⟨g,0,none⟩) n n,.int .i64 (i:Int)] w λe w'=>e = .returned (.int .u32 (((Xu S).getD i 0:Nat):Int))/\Below w w w':=by
 subst hn;have aa:=r.at hi;have J:=LH r;have l:=LH u;have j:=LH q;have O:=LH C;have v:=LH (J5.start u q hi);have hd:=j.out;have T:=LH λR (h:J5 S i R) (he:Qd S R (Wy R)=R)=>J5.done j hi h he;generalize S.getD i 0=v0 at aa v;generalize (Xu S).getD i 0=cl at *;clear r u q C hd;go_enter func89,ntmps89;go_wp2_with fail;go_loopw [5] (λa wr=>∃R:Nat,a = .int .u32 (R:Int)/\Hid (J5 S i R)/\Hid (Below w w wr)) (λa _=>4294967296-(intOf a).toNat)
 case atStart=>exact⟨v0,rfl,v,LH (AL _ _)⟩
 obtain⟨R,rfl,b,x⟩:=hrel;have F:=b.1;have z:=set_members R wr F (O.below x);have I:=LH z;have V:=LH (Zt7 R);clear z;go_wp2_with (go_at_call 148;refine I.out.mono ?_;rintro e w2⟨A,c,rfl,G,E⟩);have f:=LH (Zz x E);have X:=LH G;have N:Hid (V0 w2 g S):=Blk.ext J f;have y:=LH (J5.next l j hi b);have U:=LH (moreN_le S (Wy R) R);clear E G F;have t:(Z6 (Wy R)).length=(Wy R).length:=Mv _;have W:=LH t;have aq:(Z6 (Wy R)).length<=32:=by rw[t];exact V
 generalize B:(Z6 (Wy R)).length=L at *;have HL:=LH B;clear B t;go_wp2_with fail;go_loop [6,17] (λm k=>∃p:Nat,p<=L/\k = .int .i64 (p:Int)/\m = .int .u32 ((Qd S R ((Wy R).take p):Nat):Int)) (λm k=>L-(intOf k).toNat)
 case atStart=>exact⟨0,AV _,rfl,by simp[Qd]⟩
 obtain⟨p,hp,rfl,rfl⟩:=hrel;by_cases ah:p<L
 case neg =>
  obtain rfl:p=L:=AA
  have D:Qd S R ((Wy R).take p)=Qd S R (Wy R):=by rw[AR (by rw[<-W];exact AJ _)]
  rw[D];have o:=T R b;have au:=y.1;clear D;generalize Qd S R (Wy R)=M at *;by_cases ae:M=R
  ·subst ae;have ab:=o (by trivial);clear o;go_wp2_with fail;go_ret;exact⟨by rw[<-ab];rfl,f⟩
  have aw:((M:Int)==(R:Int))=false:=by rw[AQ];omega
  have ar:=U.out;clear o;go_wp2_with fail;go_roundw
  case rel=>exact⟨M,rfl,y,f⟩
  simp[intOf];omega
 obtain⟨bb,a0,s,rfl,hb,Z,q0⟩:=X.get ah;obtain⟨k,rfl,d⟩:=mems_get Z;have af:k<S.length:=((b.2.2 k ((Zwo R k).1 (AM d)).2)).1;have ao:=N.at af;have H:Qd S R ((Wy R).take (p+1))=Qd S R ((Wy R).take p) ||| S.getD k 0:=by rw[Ya d,moreN_snoc]
 have ax:=or32 (Qd S R ((Wy R).take p)) (S.getD k 0) (Zxv l _ b.1) (l.get k);generalize Qd S R ((Wy R).take p)=m0 at *;generalize S.getD k 0=vk at *;have Y:=LH H;have Hk:=LH d;clear H d;go_wp2_with fail;go_round
 case rel=>exact⟨p+1,AA,AF,by rw[Y]⟩
 simp[intOf];omega
theorem Yo.cells{a w:World}{k:CH}{h:GH}{G:Gr}(C:Yo a k h G S w):k.c<w.heap.size/\k.n<w.heap.size/\w.cell? ⟨k.c,2,none⟩=some (.slice h.a3 h.n3 h.c3)/\w.cell? ⟨k.c,4,none⟩=some (.slice (some ⟨k.n,0,none⟩) h.n2 h.n2)/\w.cell? ⟨k.c,5,none⟩=some (.map (some k.t))/\w.cell? ⟨k.c,6,none⟩=some (.map (some k.f)) :=
 ⟨C.box.lt,Blk.lt C.nul,C.box.cell 2,C.box.cell 4,C.box.cell 5,C.box.cell 6⟩
theorem Zta{A:World}{k:CH}{h:GH}{G:Gr}(Al:Option Addr)(p n:Nat)(l:List Int)(w:World)(C:Yo A k h G S w)(f:Za .i64 w Al n p l)(t:(Zj G).length=h.n2)(u:∀s∈l,-(h.n2:Int)<=s/\s<=1000)(r:h.n2<=1000)(W:n<=1000):
 Calls prog 154 #[.pointer (some ⟨k.c,0,none⟩),.slice Al n p] w λe w'=>e = .returned (.int .i64 (Uy (Zj G) l:Int))/\w=w':=by
 obtain rfl:=f.len;have T:=f.cap;obtain⟨gc,M,O,gf⟩:=k;obtain⟨a1,n1,c1,a2,n2,c2,a3,n3,c3⟩:=h;obtain⟨H,I,_,J,_,_⟩:=C.cells;have m:=LH C.nul;have y:=LH u;have g:=LH t;simp only[] at H I J r m g;clear u t C;go_enter func154,ntmps154;go_wp2_with fail;go_loop [4,9] (λv i=>∃q:Nat,q<=l.length/\i = .int .i64 (q:Int)/\v = .int .i64 (Uy (Zj G) (l.take q):Int)) (λ_ i=>l.length-(intOf i).toNat)
 case atStart=>exact⟨0,AV _,rfl,rfl⟩
 obtain⟨q,X,rfl,rfl⟩:=hrel;by_cases E:q<l.length
 case pos =>
  obtain⟨L,Z,s,rfl,R,o,q0⟩:=f.get E;obtain⟨F,s2⟩:=y.out s (AM o.out);have a:=lowN_take (N:=Zj G) o.out;have U:=Ztr (Zj G) (l.take q);have V:(l.take q).length<=q:=by rw[BY];omega
  generalize Uy (Zj G) (l.take q)=c at *;by_cases h0:0<=s
  ·have b:Xg (Zj G) s=false:=by unfold Xg;rw[Ej AA];rfl
   rw[b] at a;have d:=LH a;clear a b;go_wp2_with fail;go_roundw
   case rel=>exact⟨q+1,AA,AF,by rw[d.out];go_num⟩
   simp[intOf];omega
  obtain⟨j,B,D,Y⟩:=Vy (s:=s) (n:=n2) AA F r;have P:=m.out.at (i:=j) (by rw[g.out];exact B);have b:Xg (Zj G) s=(Zj G).getD j false:=by unfold Xg;rw[Eg (AA:s<0),Bool.true_and,D]
  rw[b] at a;have d:=LH a;clear a b;generalize (Zj G).getD j false=z at *;rcases (by cases z <;> simp:z=false\/z=true) with rfl | rfl;all_goals
   go_wp2_with fail;go_roundw
   case rel=>exact⟨q+1,AA,AF,by rw[d.out];go_num⟩
   simp[intOf];omega
 obtain rfl:q=l.length:=AA
 have x:Hid (Uy (Zj G) (l.take l.length)=Uy (Zj G) l):=LH (by rw[List.take_length]);generalize Uy (Zj G) (l.take l.length)=c at *;go_wp2_with fail;go_ret;exact⟨by rw[<-x.out];rfl,rfl⟩
open Go.Lib Go.Sort in
theorem tr_Del(B f g a n:Nat)(N:List Bool)(ss:List Int)(v:Value)(w:World)(O:w.ownsRow B 3 1 v n (ints .i64 ss))(z:Zwl w f g a N)(W:f<B)(U:g<B)(C:B<=w.heap.size)(y:a<=1000)(P:∀s∈ss,-(a:Int)<=s/\s<=1000):
 Calls prog 146 #[v,.func (.func 147) #[] #[.pointer (some ⟨f,0,none⟩)]] w λe w'=>(∃A c,e = .returned (.slice A (Vo N ss).length c)/\Za .i64 w' A (Vo N ss).length c (Vo N ss))/\Below B w w':=by
 obtain⟨r,⟨rfl,rfl⟩ | ⟨b,cap,o,rfl,E,I,T,u,X,S⟩⟩:=O
 ·have R:ss=[]:=by
   rw[Y9] at r;exact List.length_eq_zero_iff.1 AA
  subst R;refine (tr_Del_nil _ w).mono ?_;rintro e w'⟨rfl,rfl⟩;exact⟨⟨none,0,rfl,Za.nil _ _ _ _ AC⟩,AL _ _⟩
 obtain⟨ds,l⟩:=sb_list ss P;have h:Blk w b 3 o:=I;have t:ds.length=n:=by
  rw[Y9] at r;rw[<-BF (λs:Sb a=>s.1),l];omega
 have p:Holds (encB a) w b 0 ds.toArray:=λj d=>by
  have J:j<ds.length:=by simpa using d
  refine⟨?_,Blk.frozen h _⟩;rw[BH,Blk.cell h j];have h1:o[j]? = (ints .i64 ss)[j]? := by
   rw[<-S,Ep,List.getElem?_take_of_lt AA,Array.getElem?_toList]
  rw[h1,<-l];rw[getElem!_pos ds.toArray j d];simp[ints,encB,J]
 have M:ds.toArray.size=n:=by simpa using t
 have m:=bare_map N ds;rw[l] at m;have k:=Tryz.slices_DeleteFunc (encB a) (λ_=>rfl) (λs=>Xg N s.1) 147 #[.pointer (some ⟨f,0,none⟩)] enters_bare (⟨0,AA,AA⟩:Sb a) (λw=>AB) b 0 cap ds.toArray w
  (pred_bare z AA AA y) (over_bare z AA AA y 0 ds.toArray.size AA AA) p (by simp[maxLen] at u;omega) AA
 rw[M] at k;refine k.mono ?_;clear k;have D:(Vo N ss).length=(ds.filter λx=>!Xg N x.1).length:=by rw[<-m,BF]
 have V:(ds.filter λx=>!Xg N x.1).length<=n:=by rw[<-t];exact List.length_filter_le _ _
 have G:=h.lt;simp only[List.toList_toArray];rw[D,<-m];generalize (ds.filter λx=>!Xg N x.1)=F at *;rintro e w'⟨rfl,q,rfl⟩;refine⟨⟨_,_,rfl,?_⟩,Zn (put_grown w q b 0 _) C E⟩;have H:=holds_putRow (encB a) (Sort.ahead w q) b 0 ds.toArray (F++List.replicate (n-F.length) (⟨0,AA,AA⟩:Sb a)).toArray p AG;refine⟨by simp[ints],AA,by simp[maxLen] at u;omega,λ_=>⟨b,0,rfl,by simpa using G,λj d=>?_⟩⟩;have L:j<F.length:=by simpa [ints] using d
 rw[(H j AG).1];rw[getElem!_pos _ j AG];simp[ints,encB,L]
theorem markd_sl(w:World)(t:TypeId)(b:Nat × Nat)(a:List Value)(n:Nat)(arr:Array Value)(h:arr=a.toArray)(c:a.length=n)(f:n<=1000000):Sl (w.alloc (.cells arr t b)) (some ⟨w,0,none⟩) n n a:=by
 subst h;refine⟨c,AJ _,AA,λ_=>⟨_,_,rfl,?_,λj d=>?_⟩⟩
 ·show w.heap.size<(w.heap.push _).size;simp
 rw[BH,World.cell?_alloc_mark];simp
theorem UnL.lt{G:Gr}(b:Xq G){r:Nat}(h:UnL G l n r t)(a:InG G l):r<Zx (Zv G) l n:=by
 induction h with
 | nil=>exact Nat.one_pos
 | @term s l n r t h0 _ j =>
   have h1:=j a.tail;rw[<-Jn];refine AK ?_ (Wz (Zv G) s l (n+1) (k:=2) AA);rw[Xy,Xb G h0];show r<_+K0 1*_;unfold K0;rw[if_pos rfl,Nat.one_mul];exact AK h1 (Nat.le_add_left _ _)
 | @non s l n k i q r x p u h0 c g _ _ m o =>
   have h1:=m (InG.at b.fits c);have d:=o a.tail;have f:Z0 (Zv G) G.rules (Zp s) i k+q<Zv G s k:=by
    rw[Uu b h0 (a s (AX ..) h0)];refine AK (Nat.add_lt_add_left h1 _) ?_;have:=Y3 (Zv G) c (Zp s) k;rw[if_pos g] at this;rw[<-this];exact Kj _ _ _ _ _
   rw[<-Jn,Ea];refine AK (Nat.add_lt_add_left (Lc f d) _) ?_;have e:=Xy (Zv G) s l (k+n) k;rw[Nat.add_sub_cancel_left] at e;rw[<-e];exact Wz _ _ _ _ AA
theorem UnT.lt{G:Gr}(a:Xq G)(h0:s<0)(c:Zp s<G.nons.length){r:Nat}(h:UnT G (Zp s) n r t):r<Zv G s n:=by
 obtain⟨i,x,q,g,b,f,d,rfl,_⟩:=h;rw[Uu a h0 c];refine AK (Nat.add_lt_add_left (d.lt a (InG.at a.fits b)) _) ?_;have:=Y3 (Zv G) b (Zp s) n;rw[if_pos f] at this;rw[<-this];exact Kj _ _ _ _ _
theorem UnL.one{G:Gr}(a:Xq G){r:Nat}(h:UnL G l n r t)(f:InG G l):∀{c:Nat} {o:List Nat},UnL G l n c o->r=c->t=o:=by
 induction h with
 | nil=>intro c o b _;cases b;rfl
 | @term s l n r t h0 _ L =>
   intro c o b d;generalize y:n+1=m at b;cases b with
   | term _ F =>
     obtain rfl:=Nat.succ.inj y;exact L f.tail F d
   | non h1=>exact absurd h1 AA
 | @non s l n k i q r x R U h0 g z u1 u2 M N =>
   intro c o b d;generalize y:k+n=m at b d;cases b with
   | term h1=>exact absurd h1 AA
   | @non _ _ p B J O c T S V _ j A u C =>
     have v:=f s (AX ..) h0;have a1:=u2.lt a f.tail;have a2:=C.lt a f.tail;have D:=UnT.lt a h0 v ⟨i,x,q,R,g,z,u1,rfl,rfl⟩;have E:=UnT.lt a h0 v ⟨J,T,O,S,j,A,u,rfl,rfl⟩;have c1:=Lc D a1;have c2:=Lc E a2;rw[Ea,Ea] at d;obtain⟨rfl,I⟩:=ahead_one (n:=B+p) (by rw[show B+p-k=n by omega];exact c1) (by rw[Nat.add_sub_cancel_left];exact c2) d;obtain rfl:n=p:=AA
     obtain⟨H,rfl⟩:=quo_one a1 a2 I;obtain⟨rfl,rfl⟩:=Zso g j z A (u1.lt a (InG.at a.fits g)) (u.lt a (InG.at a.fits j)) H;rw[g] at j;obtain rfl:=BI j;rw[M (InG.at a.fits g) u rfl,N f.tail C rfl]
theorem UnT.one{G:Gr}(b:Xq G){a r:Nat}{j:List Nat}(h:UnT G a n r t)(k:UnT G a n r j):t=j:=by
 obtain⟨i,x,q,u,c,m,f,rfl,rfl⟩:=h;obtain⟨p,y,s,v,d,o,g,l,rfl⟩:=k;obtain⟨rfl,rfl⟩:=Zso c d m o (f.lt b (InG.at b.fits c)) (g.lt b (InG.at b.fits d)) l;rw[c] at d;obtain rfl:=BI d;rw[f.one b (InG.at b.fits c) g rfl]
theorem M4.blk{w:World}{base:Nat}{c:Nat}(h:M4 w base A n c xs)(a:(Value.slice A n c).ownBlock=some g):base<=g/\g<w.heap.size/\∃cs,Blk w g 3 cs:=by
 refine⟨(h.1.lt g a).1,(h.1.lt g a).2,?_⟩;rcases h.1.2 with ⟨e,_⟩ | ⟨f,cap,b,e,_,d,_⟩
 ·rw[e] at a;cases a
 rw[e] at a;injection a with a;subst a;exact⟨b,d⟩
theorem UnL.parts{G:Gr}(d:Xq G){r:Nat}(h:UnL G (s::l) n r t)(f:InG G (s::l)):∃k q g a b,k<=n/\r=Yv (Zv G) s l n k+(q*Zx (Zv G) l (n-k)+g)/\g<Zx (Zv G) l (n-k)/\q<Zv G s k/\UnL G l (n-k) g b/\t=a++b/\(0<=s->a=[]/\q=0/\k=1)/\(s<0->UnT G (Zp s) k q a):=by
 cases h with
 | @term _ _ n r t h0 h1 =>
   refine⟨1,0,r,[],t,AA,?_,?_,?_,h1,rfl,λ_=>⟨rfl,rfl,rfl⟩,λh=>AA⟩
   ·rw[Xy,Ug,Xb G h0];simp[K0]
   ·exact h1.lt d f.tail
   ·rw[Xb G h0];simp[K0]
 | @non _ _ n k i q r x a b h0 m o u1 u2 =>
   have j:UnT G (Zp s) k (Z0 (Zv G) G.rules (Zp s) i k+q) (i::a):=⟨i,x,q,a,m,o,u1,rfl,rfl⟩;refine⟨k,Z0 (Zv G) G.rules (Zp s) i k+q,r,i::a,b,AA,?_,?_,?_,?_,rfl,λh=>AA,λ_=>j⟩
   ·rw[Nat.add_sub_cancel_left,Ea]
   ·rw[Nat.add_sub_cancel_left];exact u2.lt d f.tail
   ·exact j.lt d h0 (f s (AX ..) h0)
   rw[Nat.add_sub_cancel_left];exact u2
section
variable {G:Gr}
theorem Ztf(a:G.Fits)(b:r∈Yh G)(c:s∈r.right):(Xd (Ze G) s<0↔s<0)/\(s<0->Zp (Xd (Ze G) s)=sig G (Zp s)):=by
 refine⟨Mk s (Qz a b c),λh0=>?_⟩;have h1:=G8 h0 (Qz a b c h0);have d:=(C8 (Qz a b c h0)).1;omega
theorem Zub(a:G.Fits)(c:r∈G.rules)(d:r.left.toNat∈Ze G)(b:Xj true (Zt G) r.right=true):r∈Yh G :=
 Fq.2 ⟨c,((N0 a).1 d).2,b⟩
theorem Zxa(c:G.Fits)(m:(Zi G).Fits)(hi:i∈Ze G):(Zt (Zi G)).getD (sig G i) false=true:=by
 have:=Zz2 (b:=true) (G:=G) (λi=>(Zt G).getD i false=true/\(i∈Ze G->(Zt (Zi G)).getD (sig G i) false=true)) (λr g f=>?_) ((N0 c).1 hi).1
 ·exact this.2 hi
 have h:Xj true (Zt G) r.right=true:=U8.2 λs a=>⟨(f s a).1,λh0=>((f s a).2 h0).1⟩;have n:=c.left r g;refine⟨Ue (b:=true) g AA h,λj=>?_⟩;have d:=Zub c g j h;rw[<-Zyb d];refine Ue (b:=true) (G:=Zi G) (Zs8.2 ⟨r,d,rfl⟩) ?_ (U8.2 λo l=>⟨λ_=>rfl,λk=>?_⟩)
 ·rw[Zsw,Zyb d];exact (C8 j).2.1
 obtain⟨s,a,rfl⟩:=CV.1 l;have h1:=Ztf c d a;have h0:=h1.1.1 k;rw[h1.2 h0];exact ((f s a).2 h0).2 (Qz c d a h0)
theorem red_reach(a:G.Fits)(d:(Zi G).Fits)(j:(Zt G).getD G.start.toNat false=true)(hi:i∈Ze G):(Z5 (Zi G)).getD (sig G i) false=true:=by
 have:=reach_least (G:=G) (λi=>i∈Ze G/\(Z5 (Zi G)).getD (sig G i) false=true) ⟨Jm a j,by have:=Zz1 d;rwa [Zuo a j] at this⟩ (λr m h l s f h0=>?_) ((N0 a).1 hi).2
 ·exact this.2
 have b:=Zub a m h.1 l;have h1:=Ztf a b f;refine⟨Qz a b f h0,?_⟩;rw[<-h1.2 h0];refine C9 d (Zs8.2 ⟨r,b,rfl⟩) (by rw[Zyb b];exact h.2) (U8.2 λo n=>⟨λ_=>rfl,λg=>?_⟩) (CV.2 ⟨s,f,rfl⟩) (h1.1.2 h0);obtain⟨q,k,rfl⟩:=CV.1 n;have c:=Ztf a b k;rw[c.2 (c.1.1 g)];exact Zxa a d (Qz a b k (c.1.1 g))
end
section
open Go.Maps (Keyed IsMap Tidy)
theorem tr_CloneT(A:Option Addr)(n c:Nat)(ts:List Trm)(w:World)(h:N8 w A n c ts)(y:n<=1000):
 Calls prog 107 #[.slice A n c] w λe w'=>Below w.heap.size w w'/\∃g m,e = .returned (.slice g n m)/\w'.ownsRow w.heap.size 91 3 (.slice g n m) n (V8 ts):=by
 have d:=h.len;have x:=h.cap;have j:Hid ((prog.info? 91).map (λi=>(i.zero,i.size,i.bytes))=some (some (.agg #[.string ByteArray.empty,.int .i64 0,.int .i64 0]),3,32)):=LH AB;have l:Hid ((w.alloc (.cells #[] 91)).ownsRow w.heap.size 91 3 (.slice (some ⟨w.heap.size,0,none⟩) 0 0) 0 []):=LH (World.ownsRow_made w #[] 0 (AJ _) (AV _) rfl);have b:=LH (Zy w (.cells #[] 91));have f:=LH (D4 (h.below b.out));have k:Hid ((V8 ts).length=n*3):=LH (by rw[Ff,d]);have u:(w.alloc (.cells #[] 91)).heap.size=w.heap.size+1:=Zl _ _;rcases A with _ | a
 ·obtain rfl:n=0:=(D4 h).1 rfl;have v:ts=[]:=BL d;subst v;clear f k l b j u h d;go_enter func107,ntmps107;have t:∀w:World,(binOp .eql 22 (.slice none 0 c) (.slice none 0 0)).run prog w = .ok (.bool true) w:=λ_=>rfl;go_wp2_with fail;go_ret;exact⟨AL _ _,none,0,rfl,BJ _ _ _ _⟩
 clear h d;go_enter func107,ntmps107;have t:∀w:World,(binOp .eql 22 (.slice (some a) n c) (.slice none 0 0)).run prog w = .ok (.bool false) w:=λ_=>rfl;go_wp2_with (at_builtin;refine Zz6 rfl _ _ 22 rfl w.heap.size 91 _ 3 32 underlying22 j.out AC AC (some ⟨w.heap.size,0,none⟩) 0 0 [] rfl l.out (some a) n c (V8 ts) k.out rfl f.out.1 f.out.2 (Zuz _) AA AA AA ?_;intro q r z p o s;simp only[BH,DD] at p o s);go_ret;exact⟨b.out.trans (Zn o b.out.size (AJ _)),q,r,rfl,p⟩
end
section
variable {P:Program} {M:World->Prop} {R:World->World->Prop}
theorem Xh{id:Nat}{a:Act}{w:World}{l:List Oper}{t:Oper}(M:World->Prop)(R:World->World->Prop)(F:(Nat->Value)->Act)(u0:List Value)(D:List (Value->World->Prop))(fin:(Nat->Value)->World->Prop)(N:P.follows .mixedOrders=true)(r:Zvw (l++[t]).toArray=true)(f:Zti (l++[t]) l.length=true)(V:t.guard=none)(I:a=F λi=>u0.getD i undef)(H:M w.drew)(E:Zwm R D)(T:Zk P M R F (atL D) 0 l)(U:∀(Q:Exit->Act->World->Prop) u X,M X->(∀i,i<l.length->atL D i (u i) X)->∀K:Act->World->Prop,(∀g k,fin g k->K (F g) k)->t.wp P (F u) X K Q)(s:∀u X,fin u X->Q .normal (F u) X):(Code.region id (l++[t]).toArray true).wp P Q a w:=by
 have ab:(l++[t]).length=l.length+1:=AE
 refine H6 (JF (l++[t]) l.length M F (atL D) fin) N r ⟨_,I,AE,λi o _ h=>?_,λi _ h _=>?_,λ_=>H,λh=>?_⟩ ?_ λlisted a X m q=>?_
 ·simp[Array.getD] at h
 ·simp[Array.getD] at h
 ·simp[Array.getD] at h
 ·refine Zk.steps (l:=l++[t]) (n:=l.length) (fin:=fin) E.at f AA l 0 (λj c=>by rw[BH,DI c]) (BH _) T [t] ?_;refine Xc.cons V (λQ listed a X m Y S K G=>?_) Xc.nil;obtain⟨u,rfl,C,J,hd,Z,y⟩:=m;obtain⟨b,z⟩:=Zu4 Y;have O:∀p,onB t p=true->listed.getD p false=true:=λp d=>by
   obtain⟨e,s,r,rfl⟩:=Zyf.1 d;exact S e s r
  have W:(l++[t])[l.length]? = some t:=by rw[BW (AJ _),Nat.sub_self];rfl
  have x:∀i o,(l++[t])[i]? = some o->(listed.setIfInBounds l.length true).getD i false=true->∀p,onB o p=true->(listed.setIfInBounds l.length true).getD p false=true:=λj oj v c p d=>by
   rw[Uj b] at c ⊢;by_cases B:p=l.length
   ·rw[if_pos B]
   rw[if_neg B];by_cases A:j=l.length
   ·subst A;rw[W] at v;obtain rfl:=BI v;exact O p d
   rw[if_neg A] at c;exact J j oj v c p d
  have q:∀i,i<l.length->listed.getD i false=true:=λi hi=>by
   unfold Zti at f;rw[BX,BB] at f;rcases f with h | h
   ·omega
   have:=D9 x _ _ _ (BG.1 h i (BP.2 hi)) (by rw[Uj b,if_pos rfl]);rwa [Uj b,if_neg AA] at this
  refine U Q u X (Z z) (λi hi=>hd i AA (q i hi) z) K λg k L=>?_;refine G _ _ ⟨g,rfl,by simpa using C,x,λj _ _ h=>?_,λh=>?_,λ_=>L⟩
  ·rw[Uj b,if_pos rfl] at h;cases h
  rw[Uj b,if_pos rfl] at h;cases h
 obtain⟨u,rfl,C,_,_,_,y⟩:=m;refine s u X (y ?_);have h1:=q l.length AA;have b:l.length<listed.size:=AA
 simp only[Array.getD,dif_pos b] at h1 ⊢;exact h1
end
section
variable {P:Program}
theorem G5{w:World}(c:w.heap[g]? = some (.cells cs e a))(h:∀u∈cs.toList,∀k z,u≠Value.int k z):Qf w g:=by
 intro o k z b;rw[cell_of_row w g o cs e a c] at b;have d:Value.int k z∈cs.toList:=by
  refine AM (i:=o) ?_;simpa using b
 exact h _ d k z rfl
theorem noInt_mem{w:World}(c:w.heap[g]? = some (.cells cs e a))(h:Qf w g):∀u∈cs.toList,∀k z,u≠Value.int k z:=by
 intro u f k z b;subst b;obtain⟨o,d⟩:=BT f;refine h o k z ?_;rw[cell_of_row w g o cs e a c];simpa using d
theorem Zxt{z:Value}(f:∀u∈z.cells.toList,∀k x,u≠Value.int k x)(q:Nat):∀u∈(Builtin.zeroCells z.cells q).toList,∀k x,u≠Value.int k x:=by
 intro u b k x a;subst a;unfold Builtin.zeroCells at b;simp only[Array.toList_map,CV,Array.toList_range,BP] at b;obtain⟨i,hi,a⟩:=b;have d:0<z.cells.size:=by
  rcases DJ z.cells.size with h | h
  ·rw[h] at hi;omega
  exact h
 have c:=Nat.mod_lt i d;rw[getElem!_pos z.cells (i % z.cells.size) c] at a;exact f _ AE k x a
theorem append_noInt(w:World)(base:Nat)(t ty e:TypeId)(i:TypeInfo)(z:Value)(B:P.underlying t=some (.slice e))(hi:P.info? e=some i)(G:i.zero=some z)(A:Option Addr)(n c:Nat)(xs:List Value)(y:w.ownsRow base e i.size (.slice A n c) n xs)(a:Addr)(m c2:Nat)(M:0<m)(f:List Value)(q:f.length=m*i.size)(v:∀j u,f[j]? = some u->w.cell? (a.add j)=some u)(h1:∀u∈f,u.oneCell'=true)(R:n+m<=9223372036854775807)(D:(n+m)*i.bytes<=140737488355328)(N:∀g,(Value.slice A n c).ownBlock=some g->Qf w g)(s:∀u∈f,∀k x,u≠Value.int k x)(O:∀u∈xs,∀k x,u≠Value.int k x)(H:∀u∈z.cells.toList,∀k x,u≠Value.int k x){I:Value}{w':World}(h:(Builtin.append_ #[t,t] ty #[.slice A n c,.slice (some a) m c2]).run P w = .ok I w'):∀g,I.ownBlock=some g->Qf w' g:=by
 rcases y.2 with ⟨C,U⟩ | ⟨g,cap,r,C,S,o,V,T,J,W⟩
 ·injection C with e1 e2 e3;subst e1 e2 e3;have p:=run_append_nil (P:=P) w t ty e i z B hi G a m c2 f q v M AA (by have l:=D;simp only[BH] at l;omega);rw[p] at h;injection h with r1 r2;subst r1 r2;intro g o;have:w.heap.size=g:=by simpa [Value.ownBlock] using o
  subst this;refine G5 (heap_alloc_new w.drew _) λu d=>?_;rw[Array.toList_append,DE] at d;rcases d with d | d
  ·exact s u (by simpa using d)
  exact Zxt H _ u d
 injection C with e1 e2 e3;subst e1 e3;by_cases F:n+m<=c
 ·have L:n*i.size+f.length<=r.size:=by rw[q,J,<-Nat.add_mul];exact Eu _ F
  have p:=run_append_room (P:=P) w t ty e i B hi g n c r o a m c2 f q v h1 F L;rw[p] at h;injection h with r1 r2;subst r1 r2;intro b l;have:g=b:=by simpa [Value.ownBlock] using l
  subst this;have E:=noInt_mem o (N g rfl);refine G5 (setRow_heap w g r _ e _ o) λu d=>?_;rw[List.toList_toArray,DE,DE] at d;rcases d with (d | d) | d
  ·exact E u (List.mem_of_mem_take d)
  ·exact s u d
  exact E u (List.mem_of_mem_drop d)
 have holds:∀j u,xs[j]? = some u->w.cell? ((⟨g,0,none⟩:Addr).add j)=some u:=y.cells (g:=g) rfl;have p:=run_append_grow (P:=P) w t ty e i z B hi G ⟨g,0,none⟩ n c xs y.1 holds a m c2 f q v AA AA (growslice_fits AA D);rw[p] at h;injection h with r1 r2;subst r1 r2;intro b l;have:w.heap.size=b:=by simpa [Value.ownBlock] using l
 subst this;refine G5 (heap_alloc_new w.drew _) λu d=>?_;rw[Array.toList_append,Array.toList_append,DE,DE] at d;rcases d with (d | d) | d
 ·exact O u (by simpa using d)
 ·exact s u (by simpa using d)
 exact Zxt H _ u d
theorem wpl_appendV{w:World}{o:Oper}{a:Act}(V:o.guard=none)(s x:Operand)(t:TypeId)(Y:o.op = .call { callee := .builtin .append,args:=#[s,x],argTypes:=#[t,t] })(base:Nat)(e:TypeId)(z:Value)(bytes:Nat)(J:P.underlying t=some (.slice e))(hi:(P.info? e).map (λi=>(i.zero,i.size,i.bytes))=some (some z,1,bytes))(af:z.cells.size=1)(ag:∀u∈z.cells.toList,∀k x,u≠Value.int k x)(A:Option Addr)(n c:Nat)(xs:List Value)(Z:a.eval s = .slice A n c)(H:w.ownsRow base e 1 (.slice A n c) n xs)(X:∀g,(Value.slice A n c).ownBlock=some g->Qf w g)(ae:∀u∈xs,∀k x,u≠Value.int k x)(f:Addr)(c2:Nat)(u:Value)(hx:a.eval x = .slice (some f) 1 c2)(U:w.cell? f=some u)(h1:u.oneCell'=true)(hu:∀k x,u≠Value.int k x)(C:n+1<=9223372036854775807)(E:(n+1)*bytes<=140737488355328)(T:base<=w.heap.size)(h:∀d l w',w'.ownsRow base e 1 (.slice d (n+1) l) (n+1) (xs++[u])->w.grownBy w' (Value.slice A n c).ownBlock->(∀b,(Value.slice d (n+1) l).ownBlock=some b->b<w.heap.size->(Value.slice A n c).ownBlock=some b)->
   (∀b,(Value.slice d (n+1) l).ownBlock=some b->Qf w' b)->wpList P ops Q rest (a.put o.dst (.slice d (n+1) l)) w'):wpList P ops Q (o::rest) a w:=by
 obtain⟨i,G,L,r,D⟩:=info_parts hi;have F:∀j v,[u][j]? = some v->w.cell? (f.add j)=some v:=by
  intro j v m;have W:j=0:=by have:=(AO.1 m).1;simp at this;omega
  subst W;obtain rfl:u=v:=by simpa using m
  have M:f.add 0=f:=by unfold Addr.add;simp
  rw[M];exact U
 have y:∀v∈[u],v.oneCell'=true:=λv m=>by rw[BU.1 m];exact h1
 obtain⟨v',w',I,B,N,_,p⟩:=run_append_own_at (P:=P) w base t o.type e i z 1 bytes J G L r D af AC _ n xs H f 1 c2 [u] rfl F y (by simpa [maxLen] using C) E T;have R:=append_noInt (P:=P) w base t o.type e i z J G L A n c xs (by rw[r];exact H) f 1 c2 AC [u] (by rw[r];rfl) F y C (by rw[D];exact E) X (λv m=>by rw[BU.1 m];exact hu) ae ag I;obtain⟨d,l,rfl⟩:=M3 B;have O:∀b,(Value.slice d (n+1) l).ownBlock=some b->b<w.heap.size->(Value.slice A n c).ownBlock=some b:=by
  intro b q ah;rcases p with p | p
  ·rw[<-p];exact q
  rw[p] at q;injection q with q;omega
 refine wpList_plain V λK S=>?_;unfold Oper.wp execOp;simp only[Y,resolve,invoke,builtin,Sem.run_bind,Sem.run_pure,Result.andThen_ok,List.map_toArray,CJ,List.map_nil,Z,hx,I];exact S _ _ (h d l w' B N O R)
end
section
open Ieee
theorem Wr.cells{w:World}{h:GH}{g:Int}{c b:Option Addr}{cr f d:Nat}{a:WSt}(k:Wr w0 w p h g Ar cr c f b d a):p<w.heap.size/\w.cell? ⟨p,2,none⟩=some (.slice h.a3 h.n3 h.c3)/\w.cell? ⟨p,4,none⟩=some (.slice Ar a.rest.length cr)/\w.cell? ⟨p,5,none⟩=some (.slice c a.word.length f)/\w.cell? ⟨p,6,none⟩=some (.slice b a.posts.length d) /\
 w.frozen? ⟨p,4,none⟩=false/\w.frozen? ⟨p,5,none⟩=false/\w.frozen? ⟨p,6,none⟩=false :=
 ⟨k.blk.lt,k.blk.cell 2,k.blk.cell 4,k.blk.cell 5,k.blk.cell 6,k.blk.frozen 4,k.blk.frozen 5,k.blk.frozen 6⟩
theorem Wr.next{w:World}{h:GH}{m:Int}{g f:Option Addr}{cr l j:Nat}{o:WSt}(k:Wr w0 w p h m Ar cr g l f j o){rest:List Int}{a:Option Addr}{c:Nat}(q:Za .i64 w0 a rest.length c rest):
 Wr w0 (w.setCell ⟨p,4,none⟩ (.slice a rest.length c)) p h m a c g l f j { o with rest:=rest }/\Below p w (w.setCell ⟨p,4,none⟩ (.slice a rest.length c)):=by
 have n:∀b,b≠p->(w.setCell ⟨p,4,none⟩ (.slice a rest.length c)).heap[b]? = w.heap[b]? := λb d=>Ed w ⟨p,4,none⟩ _ b d;refine⟨⟨k.blk.set 4 _,q,Yq k.word λb d _ _=>n b AA,Yq k.posts λb d _ _=>n b AA,k.apart⟩,Zn (Zd _ _ _ _) (DN k.lt) (AJ _)⟩
end
section
open Go.Maps (Keyed IsMap Tidy)
theorem Zs6(h1:l.length<=100)(j:n<=1000):∃q,keyOf prog 223 (kB l n)=some q:=by
 have a:prog.keyType 223=true:=AB
 have b:prog.cellsOf 223=2:=AB
 have c:prog.cellsOf 3=1:=AB
 have d:prog.cellsOf 9=1:=AB
 have w1:(str (Vr l)).size<=100:=by rw[Zs1];unfold Vr;rw[BF];exact h1
 have g:(Lit.int .i64 (n:Int)).wf=true:=Mb AA AA;have h:(str (Vr l)).size<=maxLen:=by unfold maxLen;omega
 obtain⟨m,f⟩:=Zy5 Tryz.rowKB AC;unfold keyOf kB;rw[f];simp[underlying223,a,Value.formed,b,Program.keyLits,Value.cells,c,d,underlying3,underlying9,g,h]
end
section
open Go.Maps (Keyed IsMap Tidy)
open Go.Maps (Keyed IsMap Tidy)
variable {W0:World} {k:BkH} {h:GH} {G:Gr} {S':Nat->Prop} {w:World} {gR:Nat} {b:Nat->Bool} {u:Nat->Value} {X:World}
variable {P:Program} {w:World}
theorem run_appendR(base:Nat)(t ty:TypeId)(bytes:Nat)(L:P.underlying t=some (.slice 3))(hi:(P.info? 3).map (λi=>(i.zero,i.size,i.bytes))=some (some (.int .i64 0),1,bytes))(A:Option Addr)(n c:Nat)(xs:List Int)(s:M4 w base A n c xs)(a:Addr)(m c2:Nat)(k:List Int)(hl:k.length=m)(hm:0<m)(I:∀j u,(ints .i64 k)[j]? = some u->w.cell? (a.add j)=some u)(U:n+m<=maxLen)(S:(n+m)*bytes<=140737488355328)(Z:base<=w.heap.size):
 ∃M N w',(Builtin.append_ #[t,t] ty #[.slice A n c,.slice (some a) m c2]).run P w = .ok (.slice M (n+m) N) w'/\M4 w' base M (n+m) N (xs++k)/\w.grownBy w' (Value.slice A n c).ownBlock /\
  (∀b,(Value.slice M (n+m) N).ownBlock=some b->b<w.heap.size->(Value.slice A n c).ownBlock=some b):=by
 obtain⟨i,J,T,y,R⟩:=info_parts hi;have D:(ints .i64 k).length=m*1:=by rw[Y9,hl,Ep]
 have h1:∀u∈ints .i64 k,u.oneCell'=true:=Gu _ _;have al:n+m<=9223372036854775807:=by simp only[maxLen] at U;omega
 have H:ints .i64 (xs++k)=ints .i64 xs++ints .i64 k:=by simp[ints]
 obtain⟨v',w',x,G,O,ah⟩:=run_append_own (P:=P) w base t ty 3 i (.int .i64 0) 1 bytes L J T y R rfl AC _ n _ s.1 a m c2 _ D I h1 U S Z;have X:∀(cs:List Int) (q:Nat) (o:Nat) (v:Value),((ints .i64 cs).toArray++Builtin.zeroCells (Value.int .i64 0).cells q)[o]? = some v->∃z,v = .int .i64 z:=by
  intro cs q o v h;rw[Array.getElem?_append] at h;split at h
  ·rw[DS] at h;exact Zsj h
  have d:=Array.mem_of_getElem? h;have:v = .int .i64 0:=by
   simp[Builtin.zeroCells,Value.cells] at d;obtain⟨p,_,e⟩:=d;rw[Nat.mod_one] at e;exact e.symm
  exact⟨0,this⟩
 rcases s.1.2 with ⟨e,rfl⟩ | ⟨g,cap,F,e,ai,r,ak,aj,aa,am⟩
 ·injection e with e1 _ e2;subst e1 e2;have hx:xs=[]:=BL (by have:=s.1.1;rw[Y9] at this;omega);subst hx;have l:=run_append_nil (P:=P) w t ty 3 i (.int .i64 0) L J T a m c2 _ (by rw[D,y]) I hm AA (by rw[R];rw[BH] at S;omega);rw[l] at x;injection x with hv hw;subst hv hw;simp only[BH] at G ⊢;refine⟨_,_,_,l,⟨by rw[H];exact G,λg r o v f=>?_⟩,O,λb B ae=>?_⟩
  ·simp[Value.ownBlock] at r;subst r;rw[cell_of_row _ w _ _ _ _ (heap_alloc_new w.drew _)] at f;exact X _ _ _ _ f
  simp[Value.ownBlock] at B;omega
 injection e with e1 _ e2;subst e1 e2;have V:∀(o:Nat) (v:Value),F[o]? = some v->∃z,v = .int .i64 z:=λo v h=>s.2 g rfl o v (by rw[cell_of_row _ _ _ _ _ _ r];exact h);by_cases W:n+m<=c
 ·have ab:n*i.size+(ints .i64 k).length<=F.size:=by rw[D,aa,y,<-Nat.add_mul];exact Eu _ W
  have l:=run_append_room (P:=P) w t ty 3 i L J g n c F r a m c2 _ (by rw[D,y]) I h1 W ab;rw[l] at x;injection x with hv hw;subst hv hw;refine⟨_,_,_,l,⟨by rw[H];exact G,λY C o v f=>?_⟩,O,λb B _=>B⟩;simp[Value.ownBlock] at C;subst C;rw[cell_of_row _ _ _ _ _ _ (setRow_heap w g F _ _ _ r)] at f;rw[DS] at f;have d:=AM f;rw[DE,DE] at d;rcases d with (d | d) | d
  ·obtain⟨q,E⟩:=List.mem_iff_getElem?.1 (List.mem_of_mem_take d);exact V q v (by simpa using E)
  ·obtain⟨q,E⟩:=List.mem_iff_getElem?.1 d;exact Zsj E
  obtain⟨q,E⟩:=List.mem_iff_getElem?.1 (List.mem_of_mem_drop d);exact V q v (by simpa using E)
 have holds:∀j u,(ints .i64 xs)[j]? = some u->w.cell? ((⟨g,0,none⟩:Addr).add j)=some u:=s.1.cells (g:=g) rfl;have l:=run_append_grow (P:=P) w t ty 3 i (.int .i64 0) L J T ⟨g,0,none⟩ n c _ (by rw[y];exact s.1.1) holds a m c2 _ (by rw[D,y]) I AA AA (by rw[R];exact growslice_fits AA S);rw[l] at x;injection x with hv hw;subst hv hw;refine⟨_,_,_,l,⟨by rw[H];exact G,λY C o v f=>?_⟩,O,λb B ae=>?_⟩
 ·simp[Value.ownBlock] at C;subst C;rw[cell_of_row _ w _ _ _ _ (heap_alloc_new w.drew _)] at f;refine X (xs++k) (grownCap w (n+m) c 3-(n+m)) o v ?_;rw[H];simpa using f
 simp[Value.ownBlock] at B;omega
end
theorem run_make_cap{P:Program}(t e:TypeId)(k:IntKind)(bytes:Nat)(g:P.underlying t=some (.slice e))(hi:(P.info? e).map (λi=>(i.zero,i.size,i.bytes))=some (some (.int k 0),1,bytes))(n:Nat)(l:bytes*n<=281474976710656)(m:n<=9223372036854775807)(w:World):
 (Instr.makeSlice t (.int .i64 0) (.int .i64 (n:Int))).run P w = .ok (.slice (some ⟨w,0,none⟩) 0 n) (w.alloc (.cells (nums k (List.replicate n 0)).toArray e)):=by
 obtain⟨i,d,j,f,c⟩:=info_parts hi;have b:(i.bytes:Int)*(n:Int)<=281474976710656:=by
  rw[c];have h:((bytes*n:Nat):Int)<=281474976710656:=AA
  rwa [Int.natCast_mul] at h
 have a:=run_make (P:=P) w t e i (.int k 0) g d j .i64 .i64 0 n AA AA b AA;simp only[DC] at a;have h0:Int.toNat 0=0:=rfl;rw[a,f,Ep,h0];simp only[Value.cells,Zui]
theorem own_cap(w:World)(e:TypeId)(k:IntKind)(n:Nat)(a:List Nat)(c:a.length=n)(b:n<=9223372036854775807):
 (w.alloc (.cells (nums k a).toArray e)).ownsRow w e 1 (.slice (some ⟨w,0,none⟩) 0 n) 0 [] :=
 World.ownsRow_made w _ n (AJ _) (by simpa [maxLen] using b) (by simp[nums,c])
section
open Go.Shelf
open Go.ChangeShapes Go.WideShapes Go.ChangeAt Go.RowKit
open Go.ChangeShapes Go.WideShapes Go.ChangeAt Go.RowKit
open Go.ChangeShapes Go.WideShapes Go.ChangeAt Go.RowKit Go.Lib Go.Deep
open Go.ChangeShapes Go.WideShapes Go.ChangeAt Go.RowKit Go.Lib Go.Deep
theorem Zzv(n:Nat)(h:n<=1000)(w:World):
 (Instr.makeSlice 89 (.int .i64 (n:Int)) (.int .i64 (n:Int))).run prog w = .ok (.slice (some ⟨w,0,none⟩) n n) (w.alloc (.cells (zeroCells n) 46)):=by
 obtain⟨i,d,g,f,c⟩:=info_parts Tryz.infoVal;have b:(i.bytes:Int)*(n:Int)<=281474976710656:=by rw[c];omega
 have a:=run_make (P:=prog) w 89 46 i (.agg #[.slice none 0 0,.bool false]) underlying89 d g .i64 .i64 n n AA AA b AA;simp only[DC] at a;rw[a,f];simp only[Value.cells,made_vals]
end
