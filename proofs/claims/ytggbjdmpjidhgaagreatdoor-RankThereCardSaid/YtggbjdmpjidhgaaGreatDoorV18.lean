/- nullable: the reference's, walked. -/
import Derived.Test.YtggbjdmpjidhgaaGreatDoorV13
import Derived.Test.YtggbjdmpjidhgaaGreatDoorV14
import Derived.Test.YtggbjdmpjidhgaaGreatDoorV15
set_option linter.all false
set_option maxHeartbeats 1500000
set_option maxRecDepth 100000
namespace Go.Proofs.YtggbjdmpjidhgaaGreatDoor
open Go.RowKit Go.Proofs.Tryz
variable{w:World}{g n i:Nat}{N:List Bool}{A:Option Addr}{c r:List ((Nat × Nat × Nat) × Nat)}{G:Gr}{S:Nat->Prop}{ts:List ((Int × Nat) × Nat)}{x:Rul}
theorem Zzh(h:GH)(G:Gr)(w:World)(d:Yf w h G)(S:∀t∈G.terms,t.name.size<=maxLen)(F:h.n1<=100)(H:h.n2<=100)(I:h.n3<=100):
 Calls prog 91 #[GV h G.start] w λe w'=>Below w w w' /\
  ((G.right=false/\e = .returned (.slice none 0 0))\/(G.right=true/\∃g,w.heap.size<=g/\e = .returned (.slice (some ⟨g,0,none⟩) h.n2 h.n2)/\Z8 w' g (Zj G))):=by
 obtain⟨a1,n1,c1,a2,n2,c2,a3,n3,c3⟩:=h;have m:G.nons.length=n2:=d.nons.len;have T:=d.nons.cap;simp only[] at F H I T;have p:=Zy w (.cells #[.slice a1 n1 c1,.slice a2 n2 c2,.slice a3 n3 c3,.int .i64 G.start] 26);have x:=Y1.new w 26 ⟨a1,n1,c1,a2,n2,c2,a3,n3,c3⟩ G.start;have P:=Nt n2 AA;go_enter func91,ntmps91;have⟨z5,z0,z1,z2,z3⟩:=x;simp only[] at z0 z1 z2 z3;go_wp2_with fail;generalize w.alloc (.cells #[.slice a1 n1 c1,.slice a2 n2 c2,.slice a3 n3 c3,.int .i64 G.start] 26)=E at *;(with_reducible refine (J4 ⟨a1,n1,c1,a2,n2,c2,a3,n3,c3⟩ G E (d.below p) S (by simp only[];omega) (by simp only[];omega)).mono ?_);rintro e b⟨rfl,v⟩;have j:=Zz p v;have M:=x.below v;have⟨y5,y0,y1,y2,y3⟩:=M;simp only[] at y0 y1 y2 y3;rcases l:G.right with _ | _
 ·go_wp2_with fail;go_ret;exact⟨j,.inl ⟨l,rfl⟩⟩
 have k:=Gr.fits l;have D:=LH l;have V:=LH k;have u:=Z8.new b (List.replicate n2 false);have a:=Zy b (.cells (Qk (List.replicate n2 false)).toArray 4);have z:=d.below j;have B:=λW c J=>Zte ⟨a1,n1,c1,a2,n2,c2,a3,n3,c3⟩ G 151 #[] enters_null1 Bd b n2 (List.replicate n2 false) b W z J (AI _) AA c AE (by simp only[];omega)
  (λr n N q s f=>by
    unfold Bd at f;split at f
    ·rw[BV] at f;subst f;have:=k.left r n;rw[m] at this;exact this
    cases f)
  (λr n Ar cr N w' _ R q O=>tr_null1 r Ar cr b n2 N w' R q O AA (by have:=k.symB n;rwa [m] at this))
 have o:=LH B;clear l k B d z;go_wp2_with fail;go_region_with (go_at_call 150;(with_reducible refine (o.out _ ?_ ?_).mono ?_);exact u;exact⟨a.os,a.tape,a.output,a.size,a.block⟩;rintro e U⟨rfl,A,c⟩)
 all_goals
  have L:Below b b U:=by
   refine Below.trans ?_ (Zn A a.size (AI _));exact⟨a.os,a.tape,a.output,a.size,a.block⟩
  have y:Zj G=Z3 (Yy Bd G.rules) n2 (List.replicate n2 false):=by rw[Zx9];unfold Zj;rw[m];rfl
  rw[<-y] at c;have C:=LH c;clear c y A o u a P y0 y1 y2 y3 z0 z1 z2 z3;go_wp2_with fail;go_ret;exact⟨Zz j L,.inr ⟨D.out,b.heap.size,j.size,rfl,C.out⟩⟩
theorem N4(h:GH)(G:Gr)(w:World)(d:Yf w h G)(S:∀t∈G.terms,t.name.size<=maxLen)(F:h.n1<=100)(H:h.n2<=100)(I:h.n3<=100):
 Calls prog 105 #[GV h G.start] w λe w'=>Below w w w' /\
  ((G.right=false/\e = .returned (.slice none 0 0))\/(G.right=true/\∃g,w.heap.size<=g/\e = .returned (.slice (some ⟨g,0,none⟩) h.n2 h.n2)/\Z8 w' g (Zt G))):=by
 obtain⟨a1,n1,c1,a2,n2,c2,a3,n3,c3⟩:=h;have m:G.nons.length=n2:=d.nons.len;have T:=d.nons.cap;simp only[] at F H I T;have p:=Zy w (.cells #[.slice a1 n1 c1,.slice a2 n2 c2,.slice a3 n3 c3,.int .i64 G.start] 26);have x:=Y1.new w 26 ⟨a1,n1,c1,a2,n2,c2,a3,n3,c3⟩ G.start;have P:=Nt n2 AA;go_enter func105,ntmps105;have⟨z5,z0,z1,z2,z3⟩:=x;simp only[] at z0 z1 z2 z3;go_wp2_with fail;generalize w.alloc (.cells #[.slice a1 n1 c1,.slice a2 n2 c2,.slice a3 n3 c3,.int .i64 G.start] 26)=E at *;(with_reducible refine (J4 ⟨a1,n1,c1,a2,n2,c2,a3,n3,c3⟩ G E (d.below p) S (by simp only[];omega) (by simp only[];omega)).mono ?_);rintro e b⟨rfl,v⟩;have j:=Zz p v;have M:=x.below v;have⟨y5,y0,y1,y2,y3⟩:=M;simp only[] at y0 y1 y2 y3;rcases l:G.right with _ | _
 ·go_wp2_with fail;go_ret;exact⟨j,.inl ⟨l,rfl⟩⟩
 have k:=Gr.fits l;have D:=LH l;have V:=LH k;have u:=Z8.new b (List.replicate n2 false);have a:=Zy b (.cells (Qk (List.replicate n2 false)).toArray 4);have z:=d.below j;have B:=λW c J=>Zte ⟨a1,n1,c1,a2,n2,c2,a3,n3,c3⟩ G 168 #[] enters_prod1 Bn b n2 (List.replicate n2 false) b W z J (AI _) AA c AE (by simp only[];omega)
  (λr n N q s f=>by
    unfold Bn at f;split at f
    ·rw[BV] at f;subst f;have:=k.left r n;rw[m] at this;exact this
    cases f)
  (λr n Ar cr N w' _ R q O=>tr_prod1 r Ar cr b n2 N w' R q O AA (by have:=k.symB n;rwa [m] at this))
 have o:=LH B;clear l k B d z;go_wp2_with fail;go_region_with (go_at_call 150;(with_reducible refine (o.out _ ?_ ?_).mono ?_);exact u;exact⟨a.os,a.tape,a.output,a.size,a.block⟩;rintro e U⟨rfl,A,c⟩)
 all_goals
  have L:Below b b U:=by
   refine Below.trans ?_ (Zn A a.size (AI _));exact⟨a.os,a.tape,a.output,a.size,a.block⟩
  have y:Zt G=Z3 (Yy Bn G.rules) n2 (List.replicate n2 false):=by rw[Zy0];unfold Zt U5;rw[m]
  rw[<-y] at c;have C:=LH c;clear c y A o u a P y0 y1 y2 y3 z0 z1 z2 z3;go_wp2_with fail;go_ret;exact⟨Zz j L,.inr ⟨D.out,b.heap.size,j.size,rfl,C.out⟩⟩
theorem tr_Reachable(h:GH)(G:Gr)(w:World)(v:Yf w h G)(hs:∀t∈G.terms,t.name.size<=maxLen)(C:h.n1<=100)(Y:h.n2<=100)(h3:h.n3<=100):
 Calls prog 106 #[GV h G.start] w λe w'=>Below w w w' /\
  ((G.right=false/\e = .returned (.slice none 0 0))\/(G.right=true/\∃g,w.heap.size<=g/\e = .returned (.slice (some ⟨g,0,none⟩) h.n2 h.n2)/\Z8 w' g (Z5 G))):=by
 obtain⟨a1,n1,c1,a2,n2,c2,a3,n3,c3⟩:=h;have j:G.nons.length=n2:=v.nons.len;have k2:=v.nons.cap;simp only[] at C Y h3 k2;have Z:=Zy w (.cells #[.slice a1 n1 c1,.slice a2 n2 c2,.slice a3 n3 c3,.int .i64 G.start] 26);have J:=Y1.new w 26 ⟨a1,n1,c1,a2,n2,c2,a3,n3,c3⟩ G.start;have bj:=Nt n2 AA;have B:=LH v;have W:=LH hs;clear v hs;go_enter func106,ntmps106;have⟨z5,z0,z1,z2,z3⟩:=J;simp only[] at z0 z1 z2 z3;go_wp2_with fail;generalize w.alloc (.cells #[.slice a1 n1 c1,.slice a2 n2 c2,.slice a3 n3 c3,.int .i64 G.start] 26)=W0 at *;(with_reducible refine (J4 ⟨a1,n1,c1,a2,n2,c2,a3,n3,c3⟩ G W0 (B.out.below Z) W.out (by simp only[];omega) (by simp only[];omega)).mono ?_);rintro e W1⟨rfl,aj⟩;have D:=Zz Z aj;have L:=J.below aj;clear z0 z1 z2 z3 z5 J;have⟨y5,y0,y1,y2,y3⟩:=L;simp only[] at y0 y1 y2 y3;rcases z:G.right with _ | _
 ·go_wp2_with fail;go_ret;exact⟨D,.inl ⟨z,rfl⟩⟩
 have R:=Gr.fits z;have bs:=R.st;have V:=LH z;have p:=LH R;obtain⟨b,aq⟩:∃b:Nat,G.start=(b:Int):=⟨G.start.toNat,AA⟩;have bh:b<n2:=AA
 have U:=LH aq;clear aq;have X:=(N4 ⟨a1,n1,c1,a2,n2,c2,a3,n3,c3⟩ G W1 (B.out.below D) W.out (by simp only[];omega) (by simp only[];omega) (by simp only[];omega)).mono λe w' hh=>And.intro hh.1 (hh.2.resolve_left λhc=>by rw[V.out] at hc;cases hc.1).2;have CP:=LH X;clear z R X;go_wp2_with fail;(with_reducible refine CP.out.mono ?_);rintro e d⟨ak,c,bq,rfl,E⟩;have aa:=Zz D ak;have M:=L.below ak;have br:c<d.heap.size:=E.lt;have u:=Zy d (.cells #[.slice (some ⟨c,0,none⟩) n2 n2] 97);have ae:=Blk.new d 97 #[.slice (some ⟨c,0,none⟩) n2 n2];have ai:Z8 (d.alloc (.cells #[.slice (some ⟨c,0,none⟩) n2 n2] 97)) c (Zt G):=Blk.ext E u;have O:=M.below u;have bm:=Zl d (.cells #[.slice (some ⟨c,0,none⟩) n2 n2] 97);clear y0 y1 y2 y3 y5 L;go_upto_region 4 with fail;generalize d.alloc (.cells #[.slice (some ⟨c,0,none⟩) n2 n2] 97)=k at *;generalize y:d.heap.size=a at *;have q:=Z8.new k (List.replicate n2 false);have l:=Zy k (.cells (Qk (List.replicate n2 false)).toArray 4);have ab:=ae.ext l;have ag:Z8 (k.alloc (.cells (Qk (List.replicate n2 false)).toArray 4)) c (Zt G):=Blk.ext ai l;have al:=O.below l;have⟨y5,y0,y1,y2,y3⟩:=O;simp only[] at y0 y1 y2 y3;have H:=u.trans (l.mono AA);go_upto_region 5 with fail;generalize k.alloc (.cells (Qk (List.replicate n2 false)).toArray 4)=W3 at *;generalize bp:k.heap.size=gI at *;obtain rfl:gI=a+1:=bm;clear y0 y1 y2 y3 y5;have⟨y5,y0,y1,y2,y3⟩:=al;simp only[] at y0 y1 y2 y3;rw[U.out] at y3;have bd:=Blk.frozen q b;have bc:=q.at (i:=b) (by simpa using bh);have S:=q.put b true;have av:Xv G=(List.replicate n2 false).set b true:=by unfold Xv;rw[j,U.out];rfl
 rw[<-av] at S;have bl:(Xv G).length=n2:=by unfold Xv;simp[j]
 have ad:=ab.other (a+1) b (.bool true) AA;have ah:Z8 (W3.setCell ⟨(a+1),b,none⟩ (.bool true)) c (Zt G):=Blk.other ag (a+1) b (.bool true) AA;have I:=H.trans (Zn (Zd W3 (a+1) b (.bool true)) (by have:=H.size;omega) AA);have am:Y1 (W3.setCell ⟨(a+1),b,none⟩ (.bool true)) w ⟨a1,n1,c1,a2,n2,c2,a3,n3,c3⟩ G.start:=M.below (by rw[y];exact I);have a6:=LH S;have ay:=LH ad;have az:=LH ah;have A:=LH I;have a5:=LH am;have f:=LH aa;have be:(a+1)≠a:=AA
 have bf:(a+1)≠c:=AA
 clear S al ab ag O q l ae ai u H bj ad ah I am aa M av E;go_upto_region 6 with fail;generalize W3.setCell ⟨(a+1),b,none⟩ (.bool true)=W4 at *;clear y0 y1 y2 y3 y5 bd bc;have⟨y5,y0,y1,y2,y3⟩:=a5.out;simp only[] at y0 y1 y2 y3;have hq:=Zte ⟨a1,n1,c1,a2,n2,c2,a3,n3,c3⟩ G 169 #[.pointer (some ⟨a,0,none⟩)] enters_reach1 (Yp (Zt G)) (a+1) n2 (Xv G) d W4 (B.out.below f.out) (by rw[y];exact A.out) AA AA a6.out bl (by simp only[];omega)
  (λr n N hN s o=>by
    unfold Yp at o;split at o
    ·unfold Uq at o;obtain⟨x,T,rfl⟩:=CW.1 o;rw[List.mem_filter] at T;have C:=p.out.sym r n x T.1;have Y:x<0:=by simpa using T.2
     rw[j] at C;omega
    cases o)
  (λr n Ar cr N w' m bk hN hl=>tr_reach1 r Ar cr (a+1) c a n2 N (Zt G) w' bk hN (Blk.grown az.out m (by intro e;injection e with e;exact bf e.symm)) ((ay.out.grown m (by intro e;injection e with e;exact be e.symm)).cell 0) hl (by rw[Vx];exact j) AA (by have:=p.out.left r n;rw[j] at this;exact this) (by have:=p.out.symB n;rwa [j] at this) (by have:=p.out.len r n;omega))
 have HQ:=LH hq;clear hq;go_wp2_with fail;(with_reducible refine HQ.out.mono ?_);rintro e W5⟨rfl,m,F⟩;have ao:Z5 G=Z3 (Yy (Yp (Zt G)) G.rules) n2 (Xv G):=by unfold Z5;rw[j]
 rw[<-ao] at F;have HT:=LH F;have ax:=LH ((f.out.trans (A.out.mono (by rw[<-y];exact f.out.size))).trans (Zn m (f.out.trans (A.out.mono (by rw[<-y];exact f.out.size))).size (by have:=f.out.size;omega)));have bg:w.heap.size<=(a+1):=by have:=f.out.size;omega
 clear F ao m y0 y1 y2 y3 y5;go_wp2_with fail;go_ret;exact⟨ax.out,.inr ⟨V.out,(a+1),bg,rfl,HT.out⟩⟩
def Zyo(G:Gr)(w:World)(e:Ending)(w':World):Prop:=Below w.heap.size w w' /\
 ((Xp G=false/\∃d:Int,d≠0/\e = .returned (.tuple #[GV noH 0,.slice none 0 0,.int .i64 d])) \/
  (Xp G=true/\∃a b f c,e = .returned (.tuple #[GV a (Zi G).start,.slice b f c,.int .i64 0])/\Yf w' a (Zi G)/\a.n1<=24/\a.n2<=16/\a.n3<=40/\Za .i64 w' b f c (Z6 (ksN G G.rules.length))))
theorem pred_bare{a:Nat}(h:Zwl w a g n N)(f:a<w.heap.size)(c:g<w.heap.size)(d:n<=1000):
 PredAt prog 147 #[.pointer (some ⟨a,0,none⟩)] (encB n) (λs=>Xg N s.1) w :=
 λW x b=>Zsz a g n N x.1 W (h.ext f c b) d x.2.1 x.2.2
theorem tr_exactly(n:Nat)(w:World)(J:n<=1000):Calls prog 200 #[.int .i64 (n:Int)] w (RetV w (K0 n)):=by
 have h:=Zy w (.cells #[.slice none 0 0,.bool false] 77);have b:=Blk.new w 77 #[.slice none 0 0,.bool false];go_enter func200,ntmps200;go_upto_region 1 with fail;generalize w.alloc (.cells #[.slice none 0 0,.bool false] 77)=W at *;have c0:W.cell? ⟨w,0,none⟩=some (.slice none 0 0):=b.cell 0;have c1:W.cell? ⟨w,1,none⟩=some (.bool false):=b.cell 1;have z:=b.frozen 0;have A:=b.frozen 1;have C:=b.lt;by_cases m:n=1
 ·subst m;have k:Hid (K0 1=1):=rfl;have y:=LH b;have t:=LH h;clear b h;have s:Calls prog 153 #[.int .u64 1] W (Bq W (limbs 1)):=nat_of 1 W AA;go_wp2_with fail;(with_reducible refine s.mono ?_);rintro e c⟨a,c3,rfl,j,l⟩;have r:limbs 1=[1]:=rfl;rw[r] at j;simp only[r,CV] at j ⊢;have d:=y.out.ext l;have o:=LH (Zz t.out l);have x:=LH j;have D:c.cell? ⟨w,0,none⟩=some (.slice none 0 0):=d.cell 0;have E:c.cell? ⟨w,1,none⟩=some (.bool false):=d.cell 1;have g0:=d.frozen 0;have H:=d.frozen 1;have N:=d.lt;have g:=d.set 0 (.slice a 1 c3);have u:=LH (o.out.trans (Zn (Zd c w 0 (.slice a 1 c3)) o.out.size (AI _)));have F:((c.setCell ⟨w,0,none⟩ (.slice a 1 c3)).cell? ⟨w,0,none⟩)=some (.slice a 1 c3):=g.cell 0;have G:((c.setCell ⟨w,0,none⟩ (.slice a 1 c3)).cell? ⟨w,1,none⟩)=some (.bool false):=g.cell 1;have v:Hid (Zf c (c.setCell ⟨w,0,none⟩ (.slice a 1 c3))):=LH (Zf.of_off (Off.of_set c w 0 (.slice a 1 c3)) λq B=>by rw[B];exact Jk d);have f:=LH (Uc (A0:=a) (n0:=1) (c0:=c3) (b0:=false) g u.out (AI _) a 1 c3 false);have L:=g.frozen 0;have M:=g.frozen 1;have O:=g.lt;clear c0 c1 z A C j l d;go_wp2_with fail;refine AV (By (p:=2) AB _ _ w 77 #[.slice a 1 c3,.bool false] (0,0) _ rfl f.out.2.1 underlying77 rfl AB) rfl ?_;refine⟨f.out.1,_,_,_,_,rfl,?_⟩;rw[k.out];unfold Z1;rw[Zw2];exact⟨rfl,(x.out.kept v.out).kept f.out.2.2⟩
 have I:((n:Int)==1)=false:=by rw[AP];omega
 have k:Hid (K0 n=0):=LH (by unfold K0;rw[if_neg m]);have f:=LH (Uc b h (AI _) none 0 0 false);clear b h m;go_wp2_with fail;refine AV (By (p:=2) AB _ _ w 77 #[.slice none 0 0,.bool false] (0,0) _ rfl f.out.2.1 underlying77 rfl AB) rfl ?_;refine⟨f.out.1,_,_,_,_,rfl,?_⟩;rw[k.out];exact Z1.zero _ _ _ AA
theorem D6{W:World}{c:Nat}{d:List Int}(h:Za .i64 W A n c d)(hi:i<=n):∃At:Option Addr,
 (∀w:World,(Instr.sliceAt 27 (.slice A n c) (some (.int .i64 (i:Int))) none none).run prog w = .ok (.slice At (n-i) (c-i)) w)/\Za .i64 W At (n-i) (c-i) (d.drop i):=by
 have g:=h.len;have r:=h.cap;rcases DM n with rfl | l
 ·obtain rfl:i=0:=AA
  have m:d=[]:=BL g;subst m;refine⟨A,λw=>?_,Za.nil _ _ _ _ AA⟩;rcases A with _ | a
  ·go_simp
  by_cases p:c=0
  ·go_simp
  have q:¬((c:Int)<0):=AA
  go_simp
 obtain⟨b,k,s,rfl,o,_,_⟩:=h.get (j:=0) l;refine⟨if c=i then some ⟨b,k,none⟩ else some ⟨b,k+i,none⟩,λw=>?_,?_⟩
 ·have t:¬((n:Int)<(i:Int)):=AA
  go_simp
 by_cases f:c=i
 ·rw[if_pos f];obtain rfl:i=n:=AA
  rw[Nat.sub_self,<-g,List.drop_length];exact Za.nil _ _ _ _ AA
 rw[if_neg f];have:=h.part i (n-i) (c-i) AA AA AA;rwa [AQ (by rw[DC];omega)] at this
theorem Cy(w:World)(a c f:TypeId)(b d g:Array Value):Below w w (((w.alloc (.cells b a)).alloc (.cells d c)).alloc (.cells g f))/\Blk (((w.alloc (.cells b a)).alloc (.cells d c)).alloc (.cells g f)) w a b /\
 Blk (((w.alloc (.cells b a)).alloc (.cells d c)).alloc (.cells g f)) (w.heap.size+1) c d/\Blk (((w.alloc (.cells b a)).alloc (.cells d c)).alloc (.cells g f)) (w.heap.size+2) f g:=by
 have p:=Zy w (.cells b a);have m:=Zy (w.alloc (.cells b a)) (.cells d c);have h:=Zy ((w.alloc (.cells b a)).alloc (.cells d c)) (.cells g f);have h1:=Blk.new w a b;have o:=Blk.new (w.alloc (.cells b a)) c d;have l:=Blk.new ((w.alloc (.cells b a)).alloc (.cells d c)) f g;have j:(w.alloc (.cells b a)).heap.size=w.heap.size+1:=Zl _ _;have n:((w.alloc (.cells b a)).alloc (.cells d c)).heap.size=w.heap.size+2:=by rw[Zl,j]
 have k:=Blk.ext o h;rw[j] at k;rw[n] at l;exact⟨Zz (Zz p m) h,Blk.ext (Blk.ext h1 m) h,k,l⟩
open Go.Lib Go.Sort in
theorem tr_Del(B f g a n:Nat)(N:List Bool)(ss:List Int)(v:Value)(w:World)(O:w.ownsRow B 3 1 v n (ints .i64 ss))(z:Zwl w f g a N)(W:f<B)(U:g<B)(C:B<=w.heap.size)(y:a<=1000)(P:∀s∈ss,-(a:Int)<=s/\s<=1000):
 Calls prog 146 #[v,.func (.func 147) #[] #[.pointer (some ⟨f,0,none⟩)]] w λe w'=>(∃A c,e = .returned (.slice A (Vo N ss).length c)/\Za .i64 w' A (Vo N ss).length c (Vo N ss))/\Below B w w':=by
 obtain⟨r,⟨rfl,rfl⟩ | ⟨b,cap,o,rfl,E,I,T,u,X,S⟩⟩:=O
 ·have R:ss=[]:=by
   rw[Y9] at r;exact List.length_eq_zero_iff.1 AA
  subst R;refine (tr_Del_nil _ w).mono ?_;rintro e w'⟨rfl,rfl⟩;exact⟨⟨none,0,rfl,Za.nil _ _ _ _ AC⟩,AK _ _⟩
 obtain⟨ds,l⟩:=sb_list ss P;have h:Blk w b 3 o:=I;have t:ds.length=n:=by
  rw[Y9] at r;rw[<-BF (λs:Sb a=>s.1),l];omega
 have p:Holds (encB a) w b 0 ds.toArray:=λj d=>by
  have J:j<ds.length:=by simpa using d
  refine⟨?_,Blk.frozen h _⟩;rw[BH,Blk.cell h j];have h1:o[j]? = (ints .i64 ss)[j]? := by
   rw[<-S,Ep,List.getElem?_take_of_lt AA,Array.getElem?_toList]
  rw[h1,<-l];rw[getElem!_pos ds.toArray j d];simp[ints,encB,J]
 have M:ds.toArray.size=n:=by simpa using t
 have m:=bare_map N ds;rw[l] at m;have k:=Tryz.slices_DeleteFunc (encB a) (λ_=>rfl) (λs=>Xg N s.1) 147 #[.pointer (some ⟨f,0,none⟩)] enters_bare (⟨0,AA,AA⟩:Sb a) (λw=>AB) b 0 cap ds.toArray w
  (pred_bare z AA AA y) (over_bare z AA AA y 0 ds.toArray.size AA AA) p (by simp[maxLen] at u;omega) AA
 rw[M] at k;refine k.mono ?_;clear k;have D:(Vo N ss).length=(ds.filter λx=>!Xg N x.1).length:=by rw[<-m,BF]
 have V:(ds.filter λx=>!Xg N x.1).length<=n:=by rw[<-t];exact List.length_filter_le _ _
 have G:=h.lt;simp only[List.toList_toArray];rw[D,<-m];generalize (ds.filter λx=>!Xg N x.1)=F at *;rintro e w'⟨rfl,q,rfl⟩;refine⟨⟨_,_,rfl,?_⟩,Zn (put_grown w q b 0 _) C E⟩;have H:=holds_putRow (encB a) (Sort.ahead w q) b 0 ds.toArray (F++List.replicate (n-F.length) (⟨0,AA,AA⟩:Sb a)).toArray p AG;refine⟨by simp[ints],AA,by simp[maxLen] at u;omega,λ_=>⟨b,0,rfl,by simpa using G,λj d=>?_⟩⟩;have L:j<F.length:=by simpa [ints] using d
 rw[(H j AG).1];rw[getElem!_pos _ j AG];simp[ints,encB,L]
theorem tr_Steps(h:GH)(G:Gr)(w:World)(hg:Yf w h G)(hs:∀t∈G.terms,t.name.size<=maxLen)(h1:h.n1<=100)(h2:h.n2<=100)(h3:h.n3<=100):
 Calls prog 88 #[GV h G.start] w λe w'=>Below w.heap.size w w' /\
  ((G.right=false/\e = .returned (.slice none 0 0))\/(G.right=true/\∃g,w.heap.size<=g/\e = .returned (.slice (some ⟨g,0,none⟩) h.n2 h.n2)/\V0 w' g (Yz G))):=by
 obtain⟨a1,n1,c1,a2,n2,c2,a3,n3,c3⟩:=h;have e2:G.nons.length=n2:=hg.nons.len;have e3:G.rules.length=n3:=hg.rules.len;have k3:=hg.rules.cap;have k2:=hg.nons.cap;simp only[] at h1 h2 h3 k3 k2;have Hg:=LH hg;have Hs:=LH hs;have cm:=Zy w (.cells #[.slice a1 n1 c1,.slice a2 n2 c2,.slice a3 n3 c3,.int .i64 G.start] 26);have ct:=Y1.new w 26 ⟨a1,n1,c1,a2,n2,c2,a3,n3,c3⟩ G.start;have gf:=Zvx n2 AA;clear hg hs;go_enter func88,ntmps88;have⟨z5,z0,z1,z2,z3⟩:=ct;simp only[] at z0 z1 z2 z3;go_wp2_with fail;generalize w.alloc (.cells #[.slice a1 n1 c1,.slice a2 n2 c2,.slice a3 n3 c3,.int .i64 G.start] 26)=W0 at *;(with_reducible refine (J4 ⟨a1,n1,c1,a2,n2,c2,a3,n3,c3⟩ G W0 (Hg.out.below cm) Hs.out (by simp only[];omega) (by simp only[];omega)).mono ?_);rintro e W⟨rfl,cq⟩;have a4:=Zz cm cq;have cu:=ct.below cq;clear z0 z1 z2 z3 z5 ct;have⟨y5,y0,y1,y2,y3⟩:=cu;simp only[] at y0 y1 y2 y3;rcases bs:G.right with _ | _
 ·go_wp2_with fail;go_ret;exact⟨a4,.inl ⟨bs,rfl⟩⟩
 have du:=Gr.fits bs;have cg:=LH bs;have ca:=LH du;have CN:=LH λX (L:Below W.heap.size W X)=>(Zzh ⟨a1,n1,c1,a2,n2,c2,a3,n3,c3⟩ G X ((Hg.out.below a4).below L) Hs.out (by simp only[];omega) (by simp only[];omega) (by simp only[];omega)).mono λe w' c=>And.intro (Zz L c.1) (And.intro (LH c.1) (c.2.resolve_left λhc=>by rw[cg.out] at hc;cases hc.1).2);have CP:=LH λX (L:Below W.heap.size W X)=>(N4 ⟨a1,n1,c1,a2,n2,c2,a3,n3,c3⟩ G X ((Hg.out.below a4).below L) Hs.out (by simp only[];omega) (by simp only[];omega) (by simp only[];omega)).mono λe w' c=>And.intro (Zz L c.1) (And.intro (LH c.1) (c.2.resolve_left λhc=>by rw[cg.out] at hc;cases hc.1).2);have HS:Hid (∀W',Below W.heap.size W W'->W'.cell? ⟨w.heap.size,0,none⟩=some (.slice a1 n1 c1)/\W'.cell? ⟨w.heap.size,1,none⟩=some (.slice a2 n2 c2)/\W'.cell? ⟨w.heap.size,2,none⟩=some (.slice a3 n3 c3)/\W'.cell? ⟨w.heap.size,3,none⟩=some (.int .i64 G.start)/\Below W.heap.size W W'):=LH λW' L=>⟨by rw[L.cell (by exact y5)];exact y0,by rw[L.cell (by exact y5)];exact y1,by rw[L.cell (by exact y5)];exact y2,by rw[L.cell (by exact y5)];exact y3,L⟩;have fa:=LH a4;have fk:=LH cu;clear bs du a4 cu cm cq;go_upto_region 3 with fail;refine Dq (λlisted a X=>∃b0 u F y A B H:Bool,∃u3 u4 u14 u15 u16 u17:Value,listed=#[b0,u,F,y,A,B,H]/\a=(⟨(GV ⟨a1,n1,c1,a2,n2,c2,a3,n3,c3⟩ G.start::Value.pointer (some ⟨w.heap.size,0,none⟩)::Value.slice none 0 0::u3::u4::undef::undef::undef::undef::undef::undef::Value.agg #[Value.slice a1 n1 c1,Value.slice a2 n2 c2,Value.slice a3 n3 c3,Value.int .i64 G.start]::Value.bool true::Value.bool false::u14::u15::u16::u17::undef::undef::undef::undef::undef::undef::undef::undef::undef::undef::undef::undef::undef::undef::undef::undef::undef::undef::undef::undef::undef::undef::undef::undef::undef::undef::undef::undef::undef::undef::undef::undef::undef::undef::undef::undef::undef::undef::undef::undef::undef::undef::undef::undef::undef::undef::undef::undef::undef::undef::undef::undef::undef::undef::undef::undef::undef::undef::undef::undef::undef::undef::[]).toArray,[]⟩:Act)/\Below W.heap.size W X /\
  (b0=true->u14=Value.agg #[Value.slice a1 n1 c1,Value.slice a2 n2 c2,Value.slice a3 n3 c3,Value.int .i64 G.start])/\(F=true->u16=Value.agg #[Value.slice a1 n1 c1,Value.slice a2 n2 c2,Value.slice a3 n3 c3,Value.int .i64 G.start]) /\
  (u=true->∃C,W.heap.size<=C/\u15=Value.slice (some ⟨C,0,none⟩) n2 n2/\Z8 X C (Zj G)) /\
  (y=true->∃I,W.heap.size<=I/\u17=Value.slice (some ⟨I,0,none⟩) n2 n2/\Z8 X I (Zt G)) /\
  (A=true->∃q v,W.heap.size<=q/\u3=Value.pointer (some ⟨q,0,none⟩)/\Blk X q 97 #[v]/\(B=true->v=u15))/\(B=true->u=true/\A=true)/\(H=true->u4=u17/\y=true)) AB AB ?_ ?_ ?_
 ·exact⟨false,false,false,false,false,false,false,undef,undef,undef,undef,undef,undef,rfl,rfl,(AK _ _).drew,nofun,nofun,nofun,nofun,nofun,nofun,nofun⟩
 ·refine Xw.cons (λlisted a X Y M E K Z=>?_) ?_
  ·obtain⟨b0,u,F,y,A,B,H,u3,u4,u14,u15,u16,u17,rfl,rfl,D,N,P,O,R,S,U,T⟩:=Y;obtain⟨q0,q1,q2,q3,_⟩:=HS.out X D;clear M E;go_simp;exact Z _ _ ⟨true,u,F,y,A,B,H,u3,u4,_,u15,u16,u17,rfl,rfl,D,λ_=>rfl,P,O,R,S,U,T⟩
  refine Xw.cons (λlisted a X Y M E K Z=>?_) ?_
  ·obtain⟨b0,u,F,y,A,B,H,u3,u4,u14,u15,u16,u17,rfl,rfl,D,N,P,O,R,S,U,T⟩:=Y;have p0:b0=true:=E ⟨0,.data⟩ AE rfl;obtain rfl:=N p0;have n1:u=false:=M;have n5:B=true->False:=λh=>by have:=(U h).1;rw[n1] at this;cases this
   clear M E;go_simp;(with_reducible refine (CN.out _ D).mono ?_);rintro e w2⟨cn,a0,C,ar,rfl,an⟩;go_simp;exact Z _ _ ⟨b0,true,F,y,A,B,H,u3,u4,_,_,u16,u17,rfl,rfl,cn,λ_=>rfl,P,λ_=>⟨C,BC D.size ar,rfl,an⟩,λh=>(R h).imp λI c=>⟨c.1,c.2.1,Blk.ext c.2.2 a0.out⟩,λh=>(S h).imp λq c=>c.imp λv hv=>⟨hv.1,hv.2.1,Blk.ext hv.2.2.1 a0.out,λh5=>absurd h5 n5⟩,λh=>absurd h n5,T⟩
  refine Xw.cons (λlisted a X Y M E K Z=>?_) ?_
  ·obtain⟨b0,u,F,y,A,B,H,u3,u4,u14,u15,u16,u17,rfl,rfl,D,N,P,O,R,S,U,T⟩:=Y;obtain⟨q0,q1,q2,q3,_⟩:=HS.out X D;clear M E;go_simp;exact Z _ _ ⟨b0,u,true,y,A,B,H,u3,u4,u14,u15,_,u17,rfl,rfl,D,N,λ_=>rfl,O,R,S,U,T⟩
  refine Xw.cons (λlisted a X Y M E K Z=>?_) ?_
  ·obtain⟨b0,u,F,y,A,B,H,u3,u4,u14,u15,u16,u17,rfl,rfl,D,N,P,O,R,S,U,T⟩:=Y;have p2:F=true:=E ⟨2,.data⟩ AE rfl;obtain rfl:=P p2;have gq:y=false:=M;have n6:H=true->False:=λh=>by have:=(T h).2;rw[gq] at this;cases this
   clear M E;go_simp;(with_reducible refine (CP.out _ D).mono ?_);rintro e w2⟨cn,a0,I,a6,rfl,ax⟩;go_simp;exact Z _ _ ⟨b0,u,F,true,A,B,H,u3,u4,u14,u15,_,_,rfl,rfl,cn,N,λ_=>rfl,λh=>(O h).imp λC c=>⟨c.1,c.2.1,Blk.ext c.2.2 a0.out⟩,λ_=>⟨I,BC D.size a6,rfl,ax⟩,λh=>(S h).imp λq c=>c.imp λv hv=>⟨hv.1,hv.2.1,Blk.ext hv.2.2.1 a0.out,hv.2.2.2⟩,U,λh=>absurd h n6⟩
  refine Xw.cons (λlisted a X Y M E K Z=>?_) ?_
  ·obtain⟨b0,u,F,y,A,B,H,u3,u4,u14,u15,u16,u17,rfl,rfl,D,N,P,O,R,S,U,T⟩:=Y;have n4:A=false:=M;have n5:B=true->False:=λh=>by have:=(U h).2;rw[n4] at this;cases this
   clear M E;go_simp;exact Z _ _ ⟨b0,u,F,y,true,B,H,_,u4,u14,u15,u16,u17,rfl,rfl,Zo D _,N,P,λh=>(O h).imp λC c=>⟨c.1,c.2.1,Blk.ext c.2.2 (Zy _ _)⟩,λh=>(R h).imp λI c=>⟨c.1,c.2.1,Blk.ext c.2.2 (Zy _ _)⟩,λ_=>⟨_,_,D.size,rfl,Blk.new _ _ _,λh5=>absurd h5 n5⟩,λh=>absurd h n5,T⟩
  refine Xw.cons (λlisted a X Y M E K Z=>?_) ?_
  ·obtain⟨b0,u,F,y,A,B,H,u3,u4,u14,u15,u16,u17,rfl,rfl,D,N,P,O,R,S,U,T⟩:=Y;have p1:u=true:=E ⟨1,.data⟩ AE rfl;have p4:A=true:=E ⟨4,.data⟩ AE rfl;obtain⟨C,ar,rfl,an⟩:=O p1;obtain⟨q,v,br,rfl,HK,_⟩:=S p4;have cy:C≠q:=by
    rintro rfl;have h4:=an.symm.trans HK;simp at h4
   have gg:∀I,Z8 X I (Zt G)->I≠q:=by
    rintro I ax rfl;have h4:=ax.symm.trans HK;simp at h4
   have he:X.cell? ⟨q,0,none⟩=some v:=HK.cell 0;have bo:=HK.frozen 0;have hq:=HK.lt;clear M E;go_simp;exact Z _ _ ⟨b0,u,F,y,A,true,H,_,u4,u14,_,u16,u17,rfl,rfl,Zg D q 0 _ br,N,P,λ_=>⟨C,ar,rfl,Blk.other an q 0 _ cy⟩,λh=>(R h).imp λI c=>⟨c.1,c.2.1,Blk.other c.2.2 q 0 _ (gg I c.2.2)⟩,λ_=>⟨q,_,br,rfl,Blk.set HK 0 _,λ_=>rfl⟩,λ_=>⟨p1,p4⟩,T⟩
  refine Xw.cons (λlisted a X Y M E K Z=>?_) ?_
  ·obtain⟨b0,u,F,y,A,B,H,u3,u4,u14,u15,u16,u17,rfl,rfl,D,N,P,O,R,S,U,T⟩:=Y;have p3:y=true:=E ⟨3,.data⟩ AE rfl;clear M E;go_simp;exact Z _ _ ⟨b0,u,F,y,A,B,true,u3,_,u14,u15,u16,u17,rfl,rfl,D,N,P,O,R,S,U,λ_=>⟨rfl,p3⟩⟩
  exact Xw.nil
 rintro listed a w3⟨b0,u,F,y,A,B,H,u3,u4,u14,u15,u16,u17,rfl,rfl,co,N,P,O,R,S,U,T⟩ aj;obtain⟨C,ar,rfl,an⟩:=O (aj 1 AC);obtain⟨I,a6,rfl,ax⟩:=R (aj 3 AC);obtain⟨q,v,br,rfl,de,hv⟩:=S (aj 4 AC);obtain rfl:=hv (aj 5 AC);obtain⟨rfl,_⟩:=T (aj 6 AC);obtain rfl:=N (aj 0 AC);obtain rfl:=P (aj 2 AC);have db:Hid (Z8 w3 C (Zj G)):=LH an;have dc:Hid (Z8 w3 I (Zt G)):=LH ax;have da:Hid (Blk w3 q 97 #[Value.slice (some ⟨C,0,none⟩) n2 n2]):=LH de;have am:=LH (Zz fa.out co);have b9:=LH (fk.out.below co);clear N P O R S U T aj ar a6 br an ax de hv co CN CP HS y0 y1 y2 y3 y5;have⟨y5,y0,y1,y2,y3⟩:=b9.out;simp only[] at y0 y1 y2 y3;go_upto_region 5 with fail;have dl:=V0.new w3 (List.replicate n2 0);have cp:=Zy w3 (.cells (nums .u32 (List.replicate n2 0)).toArray 49);generalize w3.alloc (.cells (nums .u32 (List.replicate n2 0)).toArray 49)=W4 at *;generalize dv:w3.heap.size=f at *;have ah:=LH dv;have fi:=LH dl;have fb:=LH cp;have dr:=b9.out.below (by rw[ah.out];exact cp);clear dv dl cp y0 y1 y2 y3 y5 gf;have⟨y5,y0,y1,y2,y3⟩:=dr;simp only[] at y0 y1 y2 y3;clear dr;go_wp2_with fail;clear y0 y1 y2 y3 y5;go_loopw [25] (λi wr=>∃j:Nat,j<=n3/\i = .int .i64 (j:Int)/\Hid (Below f w3 wr)/\Hid (V0 wr f (Wo (Zj G) (Zt G) (G.rules.take j) (List.replicate n2 0)))) (λi _=>n3-(intOf i).toNat)
 case atStart=>exact⟨0,AU _,rfl,fb,LH (by simpa [Wo] using fi.out)⟩
 obtain⟨j,hj,rfl,HB,V⟩:=hrel;have cv:w3.heap.size=f:=ah.out;have be:=LH (am.out.trans (HB.out.mono (by rw[<-cv];exact am.out.size)));have fw:=b9.out.below (by rw[cv];exact HB.out);clear cv fw;by_cases f8:j<n3
 case neg =>
  obtain rfl:j=n3:=AA
  have Hf:Hid (V0 wr f (Yz G)):=LH (by have:=V.out;rw[AQ AA] at this;unfold Yz;rw[e2];exact this);go_wp2_with fail;go_ret;exact⟨be.out,.inr ⟨cg.out,f,by rw[<-ah.out];exact am.out.size,rfl,Hf.out⟩⟩
 obtain⟨bb,hy,r,Ar,cr,rfl,dn,Hr,q0,q1,q2,d0⟩:=Hg.out.rules.get f8;rw[<-be.out.cell (by exact dn)] at q0 q1 q2;have L:bb<wr.heap.size:=AJ dn be.out.size;have cf:=LH d0;have bp:=AL Hr.out;have fo:Hid (Wo (Zj G) (Zt G) (G.rules.take (j+1)) (List.replicate n2 0)=Y2 (Zj G) (Zt G) r r.right.length (Wo (Zj G) (Zt G) (G.rules.take j) (List.replicate n2 0))):=LH (by rw[Ya Hr.out,Zz0]);have ds:(Wo (Zj G) (Zt G) (G.rules.take j) (List.replicate n2 0)).length=n2:=by rw[De];simp
 have dt:=Lm (Zj G) (Zt G) (G.rules.take j) (We.zero n2);generalize Wo (Zj G) (Zt G) (G.rules.take j) (List.replicate n2 0)=l at *;obtain⟨l1,l2⟩:=ca.out.left r bp;obtain⟨d,dx⟩:∃d:Nat,r.left=(d:Int):=⟨r.left.toNat,AA⟩;have f9:d<n2:=AA
 have fn:Hid (r.left.toNat=d):=LH AA;have hp:=ca.out.len r bp;have c5:=ca.out.symB bp;rw[e2] at c5;rw[dx] at q0;have dh:=LH c5;have fl:=LH ds;have fm:=LH dt;have cs:=Zy wr (.cells #[.int .i64 (d:Int),.slice Ar r.right.length cr,.int .i64 r.prec] 52);have dk:=Blk.new wr 52 #[.int .i64 (d:Int),.slice Ar r.right.length cr,.int .i64 r.prec];have au:f<wr.heap.size:=V.out.lt;clear d0 c5 ds dt l1 l2 dx bp;go_upto_region 8 with fail;have dd:Hid (V0 (wr.alloc (.cells #[.int .i64 (d:Int),.slice Ar r.right.length cr,.int .i64 r.prec] 52)) f l):=LH (Blk.ext V.out cs);have bd:=LH (HB.out.trans (cs.mono (DP au)));have bg:=LH dk;have hl:f<wr.heap.size:=au;generalize wr.alloc (.cells #[.int .i64 (d:Int),.slice Ar r.right.length cr,.int .i64 r.prec] 52)=WA at *;generalize wr.heap.size=gR at *;clear cs dk q0 q1 q2 V HB be L;have gd:f<WA.heap.size:=dd.out.lt;have fu:=bg.out.lt;have r0:WA.cell? ⟨gR,0,none⟩=some (.int .i64 (d:Int)):=bg.out.cell 0;have r1:WA.cell? ⟨gR,1,none⟩=some (.slice Ar r.right.length cr):=bg.out.cell 1;have fc:=LH (am.out.trans (bd.out.mono (by rw[<-ah.out];exact am.out.size)));have ar:C<f:=by have:=db.out.lt;rw[ah.out] at this;exact this
 have a6:I<f:=by have:=dc.out.lt;rw[ah.out] at this;exact this
 have f7:q<f:=by have:=da.out.lt;rw[ah.out] at this;exact this
 have CC:=LH (Zxu Ar r.right.length cr r.right WA (cf.out.below fc.out) AA);have ff:Hid ((Zj G).length=n2):=LH (by rw[Qe,Qq];exact e2);have CD:=LH λX v' (hB:Below WA.heap.size WA X) (bq:X.ownsRow WA.heap.size 3 1 v' r.right.length (ints .i64 r.right))=>(tr_Del WA.heap.size q C n2 r.right.length (Zj G) r.right v' X bq
  ⟨by rw[(hB.cell (p:=⟨q,0,none⟩) (by show q<_;omega)).trans ((bd.out.cell (p:=⟨q,0,none⟩) f7))];exact da.out.cell 0,λi hi=>by rw[(hB.cell (p:=⟨C,i,none⟩) (by show C<_;omega)).trans ((bd.out.cell (p:=⟨C,i,none⟩) ar))];exact db.out.at (by rw[ff.out];exact hi)⟩ AA AA hB.size AA dh.out).mono λe w' c=>And.intro c.1 (hB.trans c.2)
 go_wp2_with (first
  | (go_at_call 70;(with_reducible refine CC.out.mono ?_);rintro e wc⟨v',rfl,bq,di⟩)
  | (go_at_call 146;(with_reducible refine (CD.out _ _ di bq).mono ?_);rintro e wd⟨⟨Ab,cb,rfl,dp⟩,a5⟩;have gy:=(a5.cell (p:=⟨gR,1,none⟩) fu).trans r1))
 have fd:=LH (bd.out.trans (a5.mono (DP gd)));have fh:=LH (Blk.ext bg.out a5);have b7:Hid (V0 wd f l):=LH (Blk.ext dd.out a5);have b8:=LH dp;have ge:f<wd.heap.size:=b7.out.lt;have hd:=cf.out.cap;clear bq di a5 dp gy r0 r1 CC CD;go_loopw [37] (λi wz=>∃kk:Nat,kk<=r.right.length/\i = .int .i64 (kk:Int)/\Hid (V0 wz f (Y2 (Zj G) (Zt G) r kk l))/\Hid (wd.grownBy wz (some f))) (λi _=>r.right.length-(intOf i).toNat)
 case atStart=>exact⟨0,AU _,rfl,b7,LH (Jl _ _)⟩
 obtain⟨kk,ho,rfl,V,ad⟩:=hrel;have fv:gR≠f:=AA
 have bn:=fh.out.grown ad.out (by intro e;injection e with e;exact fv e);have r0:wr.cell? ⟨gR,0,none⟩=some (.int .i64 (d:Int)):=bn.cell 0;have g9:gR<wr.heap.size:=bn.lt;have bx:=LH (fd.out.trans (Zn ad.out (DP ge) (AI _)));have fe:=LH (am.out.trans (bx.out.mono (by rw[<-ah.out];exact am.out.size)));have al:(Y2 (Zj G) (Zt G) r kk l).length=n2:=by rw[Kb];exact fl.out
 have af:=N1 (Zj G) (Zt G) r fm.out kk;have fp:=LH (cf.out.below fe.out);have au:f<wr.heap.size:=V.out.lt;by_cases gc:kk<r.right.length
 case neg =>
  obtain rfl:kk=r.right.length:=AA
  clear al af bn;go_wp2_with fail;go_roundw
  case rel=>exact⟨j+1,AA,AF,bx,LH (by rw[fo.out];exact V.out)⟩
  simp[intOf];omega
 obtain⟨sb,so,s,rfl,hr,Hs,qs⟩:=fp.out.get gc;have gj:=dh.out s (AL Hs.out);have dz:=Uk (Zj G) (Zt G) r kk l;have dw:Um (Zj G) (Zt G) r kk (Y2 (Zj G) (Zt G) r kk l)=if Xk (Zj G) (Zt G) r.right kk s then addAt d (Y6 (-1-s)) (Y2 (Zj G) (Zt G) r kk l) else Y2 (Zj G) (Zt G) r kk l:=by unfold Um;rw[Hs.out];simp only[fn.out]
 have cd:=LH (dz.trans dw);have dm:=V.out.at (i:=d) (by rw[al];exact f9);have dj:Z8 wr I (Zt G):=Blk.below dc.out bx.out a6;have fg:Hid ((Zt G).length=n2):=LH (by rw[Vx];exact e2);have c4:=(stands_eq (null_prod G) Hs.out).symm;unfold Zyn at c4;have dq:∀k,k<(Vo (Zj G) r.right).length->∃b o x,Ab=some ⟨b,o,none⟩/\b<wr.heap.size/\Hid ((Vo (Zj G) r.right)[k]? = some x)/\wr.cell? ⟨b,o+k,none⟩=some (.int .i64 x):=λk hk=>by
  obtain⟨b,o,x,e,L,Hx,hc⟩:=b8.out.get hk;have cy:b≠f:=by
   rintro rfl;have h2:=b7.out.cell (o+k);rw[hc] at h2;have h3:((nums .u32 l).toArray)[o+k]? = some (Value.int .i64 x):=h2.symm;simp[nums] at h3
  exact⟨b,o,x,e,AJ L ad.out.size,Hx,(Kx ad.out L cy).trans hc⟩
 have ha:=b8.out.cap;have aa:=LH c4;have fj:=LH dq;clear dz dw c4 bn dq b8;generalize Vo (Zj G) r.right=lb at *;have bi:Hid (Xk (Zj G) (Zt G) r.right kk s=false->Hid (V0 wr f (Y2 (Zj G) (Zt G) r (kk+1) l))):=LH λhf=>LH (by rw[cd.out,hf];exact V.out);by_cases h0:0<=s
 ·have Hf:=bi.out (by rw[aa.out,show decide (s<0)=false by rw[AY];omega];rfl);clear al af;go_wp2_with fail;go_roundw
  case rel=>exact⟨kk+1,AA,AF,Hf,ad⟩
  simp[intOf];omega
 have gh:decide (s<0)=true:=by rw[BB];omega
 obtain⟨J,ga,dy,hw⟩:=Vy (s:=s) (n:=n2) AA gj.1 AA;have c0:=Z8.at dj (i:=J) (by rw[fg.out];exact ga);have cc:=LH dy;have dg:Hid (Xk (Zj G) (Zt G) r.right kk s=((true&&(Zt G).getD J false)&&(decide (lb.length=0) || (decide (lb.length=1)&&decide (lb[0]? = some s))))):=LH (by rw[aa.out,gh,cc.out]);clear dy dj aa;have aa:=dg;clear dg;generalize (Zt G).getD J false=pv at *;rcases pv with _ | _
 ·have Hf:=bi.out (by rw[aa.out];rfl);clear al af;go_wp2_with fail;go_roundw
  case rel=>exact⟨kk+1,AA,AF,Hf,ad⟩
  simp[intOf];omega
 rcases (AA:lb.length=0\/lb.length=1\/2<=lb.length) with hm | hm | hm
 ·have Hm:=LH hm;rw[hm] at aa;generalize lb.length=m at *;subst hm;have a7:Xk (Zj G) (Zt G) r.right kk s=true:=by rw[aa.out];rfl
  have ao:Hid (Y2 (Zj G) (Zt G) r (kk+1) l=addAt d (Y6 (-1-s)) (Y2 (Zj G) (Zt G) r kk l)):=LH (by rw[cd.out,a7];rfl);have cz:-1-s=(J:Int):=by have:=cc.out;unfold Zp at this;omega
  rw[cz] at ao;have cx:=af.get d;have cw:=Ua (J:Int);have gi:=or32 ((Y2 (Zj G) (Zt G) r kk l).getD d 0) (Y6 (J:Int)) cx cw;have ce:=LH λx:Ext wr=>V0.put (Blk.ext V.out (Zr wr x):V0 (bl wr x) f (Y2 (Zj G) (Zt G) r kk l)) d ((Y2 (Zj G) (Zt G) r kk l).getD d 0 ||| Y6 (J:Int));have bo:=Blk.frozen V.out d;have CB:=LH λx:Ext wr=>tr_one (J:Int) (bl wr x);unfold addAt at ao;generalize (Y2 (Zj G) (Zt G) r kk l).getD d 0 ||| Y6 (J:Int)=z at *
  generalize (Y2 (Zj G) (Zt G) r kk l).getD d 0=gt at *;generalize Y6 (J:Int)=bv at *;have bc:=Yt wr;have bf:=Kh wr;clear a7 al af;go_upto_region 13 with fail;refine Yx 10 AB AB ?_;simp only[List.take_succ_cons,List.take_zero,List.drop_succ_cons,Eg];repeat (go_big_quiet_step ((go_at_call 90;with_reducible exact Ve (CB.out _))))
  refine BK ?_;rintro _⟨x,rfl⟩;have fx:=(bc x f d au).trans dm;have fz:=(bf x f d au).trans bo;have gk:=Lb wr x;go_wp2_with fail;go_roundw
  case rel=>exact⟨kk+1,AA,AF,LH (by rw[ao.out];exact ce.out x),LH (Zc (Zc ad.out (Xz _ (Zr wr x))) (Zd _ _ _ _))⟩
  simp[intOf];omega
 ·obtain⟨xb,xo,x,rfl,hx,Hx,qx⟩:=fj.out 0 AA;have fq:Hid (decide (lb[0]? = some s)=decide (x=s)):=LH (by rw[Hx.out];simp);rw[hm,fq.out] at aa;have hu:wr.cell? ⟨xb,xo,none⟩=some (.int .i64 x):=qx;generalize lb.length=m at *;subst hm;clear qx;by_cases d2:x=s
  ·subst d2;have a7:Xk (Zj G) (Zt G) r.right kk x=true:=by rw[aa.out];simp
   have ao:Hid (Y2 (Zj G) (Zt G) r (kk+1) l=addAt d (Y6 (-1-x)) (Y2 (Zj G) (Zt G) r kk l)):=LH (by rw[cd.out,a7];rfl);have cz:-1-x=(J:Int):=by have:=cc.out;unfold Zp at this;omega
   rw[cz] at ao;have cx:=af.get d;have cw:=Ua (J:Int);have gi:=or32 ((Y2 (Zj G) (Zt G) r kk l).getD d 0) (Y6 (J:Int)) cx cw;have ce:=LH λx:Ext wr=>V0.put (Blk.ext V.out (Zr wr x):V0 (bl wr x) f (Y2 (Zj G) (Zt G) r kk l)) d ((Y2 (Zj G) (Zt G) r kk l).getD d 0 ||| Y6 (J:Int));have bo:=Blk.frozen V.out d;have CB:=LH λx:Ext wr=>tr_one (J:Int) (bl wr x);unfold addAt at ao;generalize (Y2 (Zj G) (Zt G) r kk l).getD d 0 ||| Y6 (J:Int)=z at *
   generalize (Y2 (Zj G) (Zt G) r kk l).getD d 0=gt at *;generalize Y6 (J:Int)=bv at *;have bc:=Yt wr;have bf:=Kh wr;clear a7 al af;go_upto_region 13 with fail;refine Yx 10 AB AB ?_;simp only[List.take_succ_cons,List.take_zero,List.drop_succ_cons,Eg];repeat (go_big_quiet_step ((go_at_call 90;with_reducible exact Ve (CB.out _))))
   refine BK ?_;rintro _⟨x,rfl⟩;have fx:=(bc x f d au).trans dm;have fz:=(bf x f d au).trans bo;have gk:=Lb wr x;go_wp2_with fail;go_roundw
   case rel=>exact⟨kk+1,AA,AF,LH (by rw[ao.out];exact ce.out x),LH (Zc (Zc ad.out (Xz _ (Zr wr x))) (Zd _ _ _ _))⟩
   simp[intOf];omega
  have Hf:=bi.out (by rw[aa.out,show decide (x=s)=false by rw[AY];exact d2];rfl);clear al af;go_wp2_with fail;go_roundw
  case rel=>exact⟨kk+1,AA,AF,Hf,ad⟩
  simp[intOf];omega
 have Hf:=bi.out (by rw[aa.out,show decide (lb.length=0)=false by rw[AY];omega,show decide (lb.length=1)=false by rw[AY];omega];rfl);have g0:¬((lb.length:Int)=0):=AA
 have g1:¬((lb.length:Int)=1):=AA
 generalize lb.length=m at *;clear al af;go_wp2_with fail;go_roundw
 case rel=>exact⟨kk+1,AA,AF,Hf,ad⟩
 simp[intOf];omega
section
open Go.Maps (Keyed IsMap Tidy)
theorem tr_CloneT(A:Option Addr)(n c:Nat)(ts:List Trm)(w:World)(h:N8 w A n c ts)(y:n<=1000):
 Calls prog 107 #[.slice A n c] w λe w'=>Below w.heap.size w w'/\∃g m,e = .returned (.slice g n m)/\w'.ownsRow w.heap.size 91 3 (.slice g n m) n (V8 ts):=by
 have d:=h.len;have x:=h.cap;have j:Hid ((prog.info? 91).map (λi=>(i.zero,i.size,i.bytes))=some (some (.agg #[.string ByteArray.empty,.int .i64 0,.int .i64 0]),3,32)):=LH AB;have l:Hid ((w.alloc (.cells #[] 91)).ownsRow w.heap.size 91 3 (.slice (some ⟨w.heap.size,0,none⟩) 0 0) 0 []):=LH (World.ownsRow_made w #[] 0 (AI _) (AU _) rfl);have b:=LH (Zy w (.cells #[] 91));have f:=LH (D4 (h.below b.out));have k:Hid ((V8 ts).length=n*3):=LH (by rw[Ff,d]);have u:(w.alloc (.cells #[] 91)).heap.size=w.heap.size+1:=Zl _ _;rcases A with _ | a
 ·obtain rfl:n=0:=(D4 h).1 rfl;have v:ts=[]:=BL d;subst v;clear f k l b j u h d;go_enter func107,ntmps107;have t:∀w:World,(binOp .eql 22 (.slice none 0 c) (.slice none 0 0)).run prog w = .ok (.bool true) w:=λ_=>rfl;go_wp2_with fail;go_ret;exact⟨AK _ _,none,0,rfl,BJ _ _ _ _⟩
 clear h d;go_enter func107,ntmps107;have t:∀w:World,(binOp .eql 22 (.slice (some a) n c) (.slice none 0 0)).run prog w = .ok (.bool false) w:=λ_=>rfl;go_wp2_with (at_builtin;refine Zz6 rfl _ _ 22 rfl w.heap.size 91 _ 3 32 underlying22 j.out AC AC (some ⟨w.heap.size,0,none⟩) 0 0 [] rfl l.out (some a) n c (V8 ts) k.out rfl f.out.1 f.out.2 (Zuz _) AA AA AA ?_;intro q r z p o s;simp only[BH,DG] at p o s);go_ret;exact⟨b.out.trans (Zn o b.out.size (AI _)),q,r,rfl,p⟩
end
section
open Go.Maps (Keyed IsMap Tidy)
open Go.Maps (Keyed IsMap Tidy)
theorem Yo.putT{v w':World}{k:CH}{h:GH}(C:Yo v k h G S w)(j:Zzo w k.t G S ts){s:Int}(H:s<0)(I:Zp s<100)(u:n<=100)(l:H8 w g (Zv G s n))(D:¬S g)(a:Vv prog 247 w' k.t ((kT s n,g)::ts.map λp=>(kT p.1.1 p.1.2,p.2)))(E:w.grownBy w' (some k.t)):Yo v k h G S w'/\Off k.maps w w':=by
 have b:Off (λq=>some k.t=some q) w w':=Off.of_grown E;have F:Zf w w':=Zf.of_off b λq f=>by injection f with f;rw[<-f];exact j.map.noInt
 have o:∀{q:Nat} {t:TypeId} {cs:Array Value},Blk w q t cs->Blk w' q t cs:=λy=>b.blk y λe=>by injection e with e;exact j.map.ne_blk y e.symm
 have r:∀{q x:Nat},H8 w q x->H8 w' q x:=λ{q x} l=>by
  obtain⟨A,n,c,d,h1,B⟩:=l;exact⟨A,n,c,d,o h1,B.kept F⟩
 refine⟨⟨C.base.trans (b.is_below C.base.size λq f=>by injection f with f;rw[<-f];exact C.low.1),o C.box,o C.nul,C.low,C.ne,⟨((s,n),g)::ts,by simpa using a,λp a=>?_,λp a=>?_⟩,?_⟩,⟨b.os,b.tape,b.output,b.size,λq f u=>b.keep q f λe=>u (by injection e with e;exact .inl e.symm)⟩⟩
 ·rcases BW.1 a with e | a
  ·rw[e];exact⟨H,I,u⟩
  exact j.key p a
 ·rcases BW.1 a with e | a
  ·rw[e];exact⟨r l,D⟩
  exact⟨r (j.val p a).1,(j.val p a).2⟩
 obtain⟨z,m⟩:=C.forts;refine⟨z,m.map.block (b.keep _ m.map.lt λe=>by injection e with e;exact C.ne e),m.key,λp a=>?_⟩;obtain⟨x,J,l,h1⟩:=m.val p a;exact⟨x,J,r l,h1⟩
theorem Yo.putF{z w':World}{k:CH}{h:GH}(C:Yo z k h G S w)(o:Zue w k.f G S r){d:Nat}(I:G.rules[i]? = some x)(hi:i<=100)(hd:d<=100)(v:n<=100)(m:H8 w g (Zx (Zv G) (x.right.drop d) n))(E:¬S g)(a:Vv prog 251 w' k.f ((kF i d n,g)::r.map λp=>(kF p.1.1 p.1.2.1 p.1.2.2,p.2)))(F:w.grownBy w' (some k.f)):Yo z k h G S w'/\Off k.maps w w':=by
 have b:Off (λq=>some k.f=some q) w w':=Off.of_grown F;have H:Zf w w':=Zf.of_off b λq j=>by injection j with j;rw[<-j];exact o.map.noInt
 have s:∀{q:Nat} {t:TypeId} {cs:Array Value},Blk w q t cs->Blk w' q t cs:=λB=>b.blk B λe=>by injection e with e;exact o.map.ne_blk B e.symm
 have u:∀{q x:Nat},H8 w q x->H8 w' q x:=λ{q x} m=>by
  obtain⟨A,n,c,d,h1,D⟩:=m;exact⟨A,n,c,d,s h1,D.kept H⟩
 refine⟨⟨C.base.trans (b.is_below C.base.size λq j=>by injection j with j;rw[<-j];exact C.low.2),s C.box,s C.nul,C.low,C.ne,?_,⟨((i,d,n),g)::r,by simpa using a,λp a=>?_,λp a=>?_⟩⟩,⟨b.os,b.tape,b.output,b.size,λq j v=>b.keep q j λe=>v (by injection e with e;exact .inr e.symm)⟩⟩
 ·obtain⟨ts,l⟩:=C.trees;exact⟨ts,l.map.block (b.keep _ l.map.lt λe=>by injection e with e;exact C.ne e.symm),l.key,λp a=>⟨u (l.val p a).1,(l.val p a).2⟩⟩
 ·rcases BW.1 a with e | a
  ·rw[e];exact⟨hi,hd,v⟩
  exact o.key p a
 rcases BW.1 a with e | a
 ·rw[e];exact⟨x,I,u m,E⟩
 obtain⟨y,J,m,h1⟩:=o.val p a;exact⟨y,J,u m,h1⟩
theorem Zzo.look(h:Zzo w g G S ts)(s:Int)(n:Nat)(v:s<0)(t:Zp s<100)(u:n<=100):
 (∃b,(∀x:Ext w,(Instr.lookup 138 (.map (some g)) (kT s n) false).run prog (bl w x) = .ok (.pointer (some ⟨b,0,none⟩)) (bl w x))/\H8 w b (Zv G s n)) \/
 (∀x:Ext w,(Instr.lookup 138 (.map (some g)) (kT s n) false).run prog (bl w x) = .ok (.pointer none) (bl w x)):=by
 have j:∀w,(zeroValue 248).run prog w = .ok (.pointer none) w:=λw=>AB
 have q:U4 prog 247 (kT s n):=Zww (by unfold Zp at t;omega) AA AA;by_cases d:kT s n∈(ts.map λp=>(kT p.1.1 p.1.2,p.2)).map (·.1)
 ·left;obtain⟨b,c,o⟩:=h.map.look Tryz.keyKT d;obtain⟨p,r,a⟩:=CW.1 c;injection a with a hpb;obtain⟨l,m⟩:=kT_inj a;have f:=(h.val p r).1;rw[l,m,hpb] at f;exact⟨b,λx=>(h.map.below (Zr w x)).look_at Tryz.keyKT underlying138 (j _) c o,f⟩
 exact .inr λx=>(h.map.below (Zr w x)).look_none Tryz.keyKT underlying138 (j _) q d
theorem Zue.look(h:Zue w g G S c){d:Nat}(A:G.rules[i]? = some x)(hi:i<=100)(hd:d<=100)(B:n<=100):
 (∃b,(∀y:Ext w,(Instr.lookup 139 (.map (some g)) (kF i d n) false).run prog (bl w y) = .ok (.pointer (some ⟨b,0,none⟩)) (bl w y))/\H8 w b (Zx (Zv G) (x.right.drop d) n)) \/
 (∀y:Ext w,(Instr.lookup 139 (.map (some g)) (kF i d n) false).run prog (bl w y) = .ok (.pointer none) (bl w y)):=by
 have o:∀w,(zeroValue 248).run prog w = .ok (.pointer none) w:=λw=>AB
 have u:U4 prog 251 (kF i d n):=Zsn AA AA AA;by_cases j:kF i d n∈(c.map λp=>(kF p.1.1 p.1.2.1 p.1.2.2,p.2)).map (·.1)
 ·left;obtain⟨b,f,t⟩:=h.map.look Tryz.keyKF j;obtain⟨p,v,a⟩:=CW.1 f;injection a with a hpb;obtain⟨q,r,s⟩:=kF_inj a;obtain⟨y,m,l,_⟩:=h.val p v;rw[q,A] at m;obtain rfl:=BI m;rw[r,s,hpb] at l;exact⟨b,λz=>(h.map.below (Zr w z)).look_at Tryz.keyKF underlying139 (o _) f t,l⟩
 exact .inr λz=>(h.map.below (Zr w z)).look_none Tryz.keyKF underlying139 (o _) u j
end
section
open Go.Maps (Keyed IsMap Tidy)
theorem NumM.look{b:List Nat}(h:NumM w g b)(f:b.Nodup)(hi:i∈b)(d:i<=1000):(Instr.lookup 154 (.map (some g)) (.int .i64 (i:Int)) false).run prog w = .ok (.int .i64 (toI b i)) w:=by
 obtain⟨c,j,a,_⟩:=World.ownsMap.lookup_int h keyInt underlying154 underlying3 (zeroInt w) (key_num i d);rw[at_numD _ i b f hi] at a;injection a with a;injection a with _ a;rw[j,a]
end
end Go.Proofs.YtggbjdmpjidhgaaGreatDoor
