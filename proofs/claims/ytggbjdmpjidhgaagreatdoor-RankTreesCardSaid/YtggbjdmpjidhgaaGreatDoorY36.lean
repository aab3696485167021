/- ranks: the reference's forest (walked). -/
import Derived.Test.YtggbjdmpjidhgaaGreatDoorY25
import Derived.Test.YtggbjdmpjidhgaaGreatDoorY28
import Derived.Test.YtggbjdmpjidhgaaGreatDoorY34
import Derived.Test.YtggbjdmpjidhgaaGreatDoorY35
set_option linter.all false
set_option maxHeartbeats 1500000
set_option maxRecDepth 100000
namespace Go.Proofs.YtggbjdmpjidhgaaGreatDoor
open Go.RowKit Go.Proofs.Tryz
variable{At:Option Addr}{tab:Nat->Nat->Nat}
theorem Zt5{a:World}{h:GH}{G:Gr}{f b:Nat}(d:TbG a h G At f b tab)(c:Xq G):∀m,WTC a h G At f b m/\WFC a h G At f b m
 | 0=>by
   have h0:WTC a h G At f b 0:=by
    intro p cs s n r t Ar cr w j h0 l g;obtain⟨i,x,q,o,_,_,_,_,rfl⟩:=g;rw[AZ] at j;omega
   exact⟨h0,Zwp d c 0 h0⟩
 | m+1=>by
   have k:=Zt5 d c m;have h1:=rf_wtree d c m k.2;exact⟨h1,Zwp d c (m+1) h1⟩
theorem rf_Unrank(h:GH)(G:Gr)(n:Int)(A:Option Addr)(c:Nat)(d:List Nat)(w:World)(hg:Yf w h G)(h1:h.n1<=100)(R:h.n2<=100)(V:h.n3<=100)(N:Zq .u32 w A d.length c d)(lr:Lim d):
 Calls prog 39 #[GV h G.start,.int .i64 n,.slice A d.length c] w (Qp G n d w):=by
 obtain⟨a1,n1,c1,a2,n2,c2,a3,n3,c3⟩:=h;simp only[] at h1 R V;have Hg:=LH hg;have bg:=Zy w (.cells #[.slice a1 n1 c1,.slice a2 n2 c2,.slice a3 n3 c3,.int .i64 G.start] 26);have bk:=Y1.new w 26 ⟨a1,n1,c1,a2,n2,c2,a3,n3,c3⟩ G.start;have HR:=LH N;have b5:=LH lr;have CR:=LH (Z4 A d.length c d _ (N.below bg));have a7:=LH bg;have b9:=LH bk;clear hg N lr;go_enter func39,ntmps39;have⟨z5,z0,z1,z2,z3⟩:=bk;simp only[] at z0 z1 z2 z3;clear bg bk;cases aj:Zm d
 case false =>
  have Hb:Hid (V9 G n d [] 1):=LH (.inl ⟨.inr (.inr (.inr aj)),rfl,rfl⟩);rw[aj] at CR;clear aj;go_wp2_with (go_at_call 78;refine CR.out.mono ?_;rintro e D⟨rfl,rfl⟩);go_ret2;exact Qp.no a7 Hb
 rw[aj] at CR;have av:=LH aj;clear aj;go_upto_region 3 with (go_at_call 78;refine CR.out.mono ?_;rintro e D⟨rfl,rfl⟩);generalize w.alloc (.cells #[.slice a1 n1 c1,.slice a2 n2 c2,.slice a3 n3 c3,.int .i64 G.start] 26)=W0 at *;have CC:=Lj ⟨a1,n1,c1,a2,n2,c2,a3,n3,c3⟩ G n W0 (Hg.below a7) h1 R V;have bn:=Kg G n;have bj:G.right=false\/n<0\/10<n->Z2 G n=([],1):=λh=>by unfold Z2;rw[if_pos h]
 obtain⟨cn,bo⟩:∃cn,Z2 G n=cn:=⟨_,rfl⟩;obtain⟨L,er⟩:=cn;rw[bo] at CC bn bj;have CC:=LH CC;have O:=LH bo;have ca:=LH bn;have b8:=LH bj;clear bo bn bj CR;go_upto_region 4 with (first
  | (go_at_call 20
     refine CC.out.mono ?_;rintro e W3⟨A3,fo,rfl,de,bh⟩))
 have ap:=LH (Zz a7 bh);have d6:=LH de;have fc:=LH (b9.below bh);clear de bh CC z0 z1 z2 z3 z5 b9;by_cases ay:er=0
 case neg =>
  have gh:((er:Int) != 0)=true:=by rw[BM];omega
  have Hb:Hid (V9 G n d [] er):=LH (by
   by_cases bl:badU G n d
   ·refine .inl ⟨bl,rfl,?_⟩;have h9:G.right=false\/n<0\/10<n:=by
     rcases bl with h | h | h | h
     ·exact .inl h
     ·exact .inr (.inl h)
     ·exact .inr (.inr h)
     rw[av] at h;cases h
    have:=b8 h9;injection this
   exact .inr (.inl ⟨bl,by rw[O];exact ay,rfl,by rw[O]⟩))
  clear ay;go_wp2_with fail;go_ret2;exact Qp.no ap Hb
 subst ay;have ad:¬(G.right=false\/n<0\/10<n):=λh=>by
  have:=b8 h;injection this with _ R;cases R
 have bc:Hid (¬badU G n d):=LH (by
  rintro (h | h | h | h)
  ·exact ad (.inl h)
  ·exact ad (.inr (.inl h))
  ·exact ad (.inr (.inr h))
  rw[av] at h;cases h)
 have N:G.right=true:=by
  cases N:G.right
  ·exact absurd (.inl N) ad
  rfl
 have ft:0<=n:=Int.not_lt.1 λh=>ad (.inr (.inl h));have fu:n<=10:=Int.not_lt.1 λh=>ad (.inr (.inr h));have Hr:=LH N;clear ad N;have dk:Zm L=true:=ca.2 rfl;have S:=Le A d.length c d A3 L.length fo L W3 (HR.below ap) d6 b5 ca.1;have c4:Vq d L=Vm (val d) (val L):=by
  unfold Vq;rw[av,dk];rfl
 rw[c4] at S;unfold Quiet at S;have S:=LH S;clear dk c4;by_cases bp:val L<=val d
 case pos =>
  have hc:(0:Int)<=Vm (val d) (val L):=by
   have:=mt (Q5 (a:=val d) (b:=val L)).1 AA;omega
  have Hb:Hid (V9 G n d [] 11):=LH (.inr (.inr (.inl ⟨bc,by rw[O],by rw[O];exact bp,rfl,rfl⟩)));clear bp;go_wp2_with (first
   | (go_at_call 36
      refine S.out.mono ?_;rintro e W4⟨rfl,an⟩;have aq:=LH (Zz ap (an.below _))))
  go_ret2;exact Qp.no aq Hb
 have hc:¬(0:Int)<=Vm (val d) (val L):=by
  have:=(Q5 (a:=val d) (b:=val L)).2 AA;omega
 have fw:=Bb Hr ⟨ft,fu⟩ (by rw[O]) (by rw[O];show 0<val L;omega);obtain⟨br,cv,fq,dh,bv,_⟩:=fw;obtain⟨hP,hO⟩:=Dx Hr br cv.cyc;rw[O] at bv;have dd:val d<Zv (Zi G) (-1-(Zi G).start) n.toNat:=by
  have h9:val L=_:=bv;omega
 have fi:=LH dd;have cg:Hid (val d<val L):=LH AA;have HP:=LH hP;have HO:=LH hO;have fl:=LH dh;have fk:=LH br;obtain⟨m,rfl⟩:∃m:Nat,n=(m:Int):=⟨n.toNat,AA⟩;have gg:m<=10:=AA
 clear dd cv hP fq hO dh bv br bp;go_upto_region 8 with (first
  | (go_at_call 36
     refine S.out.mono ?_;rintro e W4⟨rfl,an⟩;have aq:=LH (Zz ap (an.below _));obtain⟨y5,y0,y1,y2,y3⟩:=fc.below (an.below _);simp only[] at y0 y1 y2 y3))
 have bx:=LH (Dk ⟨a1,n1,c1,a2,n2,c2,a3,n3,c3⟩ G W4 (Hg.below aq) h1 R V);clear S an;go_upto_region 9 with (first
  | (go_at_call 58
     refine bx.out.mono ?_;rintro e W5⟨cz,⟨df,er,ay,rfl⟩ | ⟨_,⟨s,f,z,u,l,B,v,r,C⟩,Ak,nk,ck,rfl,c7,m1,m2,m3,db⟩⟩
     ·rw[fk] at df;cases df
     have bz:=LH (Zz aq cz);have cc:=LH c7;have ce:=LH db;clear cz c7 db))
 have m1:f<=24:=m1;have m2:l<=16:=m2;have m3:r<=40:=m3;have M:=Zy W5 (.cells #[.slice s f z,.slice u l B,.slice v r C,.int .i64 (Zi G).start] 26);have ab:=Blk.new W5 26 #[.slice s f z,.slice u l B,.slice v r C,.int .i64 (Zi G).start];have b0:=LH (Zz bz M);have cd:=LH (cc.below M);have bb:=LH (ce.below M);clear bz cc ce M y0 y1 y2 y3 y5 bx;generalize W5.alloc (.cells #[.slice s f z,.slice u l B,.slice v r C,.int .i64 (Zi G).start] 26)=H at *;generalize W5.heap.size=E at *;have ga:=LH ab;have x0:H.cell? ⟨E,0,none⟩=some (.slice s f z):=ab.cell 0;have x1:H.cell? ⟨E,1,none⟩=some (.slice u l B):=ab.cell 1;have x2:H.cell? ⟨E,2,none⟩=some (.slice v r C):=ab.cell 2;have x3:H.cell? ⟨E,3,none⟩=some (.int .i64 (Zi G).start):=ab.cell 3;have Z:=ab.lt;have S:Hid (∀X,Below H H X->Calls prog 54 #[.agg #[.slice s f z,.slice u l B,.slice v r C,.int .i64 (Zi G).start],.int .i64 (m:Int)] X λe w'=>Below H H w'/\∃A c tab,e = .returned (.slice A (m+1) c)/\Hid (Zyq w' A (m+1) c (Zi G).nons.length tab)/\Hid (∀k,k<=m->∀i,i<(Zi G).nons.length->tab k i=Zv (Zi G) (-1-(i:Int)) k)):=LH λX W=>(Ztz ⟨s,f,z,u,l,B,v,r,C⟩ (Zi G) m X (cd.below W) (by show f<=100;omega) (by show l<=100;omega) (by show r<=100;omega) HP HO AA).mono λe w' ⟨h1,A,c,tab,R,V,F⟩=>⟨Zz W h1,A,c,tab,R,LH V,LH F⟩;have HS:Hid (∀I,Below H H I->I.cell? ⟨E,0,none⟩=some (.slice s f z)/\I.cell? ⟨E,1,none⟩=some (.slice u l B)/\I.cell? ⟨E,2,none⟩=some (.slice v r C)/\I.cell? ⟨E,3,none⟩=some (.int .i64 (Zi G).start)/\Below H H I):=LH λI W=>⟨by rw[W.cell (by exact Z)];exact x0,by rw[W.cell (by exact Z)];exact x1,by rw[W.cell (by exact Z)];exact x2,by rw[W.cell (by exact Z)];exact x3,W⟩;clear ab;go_region_held3 (λI=>I.cell? ⟨E,0,none⟩=some (.slice s f z)/\I.cell? ⟨E,1,none⟩=some (.slice u l B)/\I.cell? ⟨E,2,none⟩=some (.slice v r C)/\I.cell? ⟨E,3,none⟩=some (.int .i64 (Zi G).start)/\Below H H I)
  ((refine HS _ ?_;(repeat (first | assumption | exact AL _ _ | refine Below.drew ?_ | refine Zo ?_ _));done))
  (first
    | (go_at_call 54;refine (S.out _ (by (repeat (first | assumption | exact AL _ _ | refine Below.drew ?_)))).mono ?_;rintro e D⟨ah,At,J,tab,rfl,d9,fb⟩))
 have M:=Zy D (.cells #[.slice s f z,.slice u l B,.slice v r C,.int .i64 (Zi G).start,.slice At (m+1) J,.slice none 0 0,.bool false] 122);have cy:=Blk.new D 122 #[.slice s f z,.slice u l B,.slice v r C,.int .i64 (Zi G).start,.slice At (m+1) J,.slice none 0 0,.bool false];have cw:TbG D ⟨s,f,z,u,l,B,v,r,C⟩ (Zi G) At (m+1) J tab:=⟨cd.below ah,d9,λk hk i hi=>fb k AA i hi,AA,by show f<=100;omega,by show l<=100;omega,by show r<=100;omega⟩;have cx:Bp D ⟨s,f,z,u,l,B,v,r,C⟩ (Zi G) At (m+1) J D [] false none 0 (D.alloc (.cells #[.slice s f z,.slice u l B,.slice v r C,.int .i64 (Zi G).start,.slice At (m+1) J,.slice none 0 0,.bool false] 122)):=⟨M,cy,⟨BJ _ _ _ _,λg hg=>by cases hg⟩,AJ _,AV _⟩;have gi:=HP.fits.st;have a0:Zp (-1-(Zi G).start)=(Zi G).start.toNat:=by unfold Zp;omega
 obtain⟨t,ht⟩:=UnT.ex HP _ m (-1-(Zi G).start) AA (by rw[a0];omega) rfl (val d) fi;have a9:Hid (UnT (Zi G) (Zi G).start.toNat m (val d) t):=LH (by rw[<-a0];exact ht);obtain⟨bf,fx⟩:=Ul d b5 av;have bm:Below w w D:=b0.trans (ah.mono b0.size);have d4:=LH (Zz bm M);have CT:Calls prog 81 #[.pointer (some ⟨D,0,none⟩),.int .i64 (Zi G).start,.int .i64 (m:Int),.slice A d.length c] (D.alloc (.cells #[.slice s f z,.slice u l B,.slice v r C,.int .i64 (Zi G).start,.slice At (m+1) J,.slice none 0 0,.bool false] 122)) (WkRet D ⟨s,f,z,u,l,B,v,r,C⟩ (Zi G) At (m+1) J D [] t (D.alloc (.cells #[.slice s f z,.slice u l B,.slice v r C,.int .i64 (Zi G).start,.slice At (m+1) J,.slice none 0 0,.bool false] 122))):=by
  have h1:=(Zt5 cw HP t.length).1 D [] (-1-(Zi G).start) m (val d) t A c _ (AJ _) AA (by rw[a0];omega) ht fl AA (by rw[<-bf];exact HR.below d4) ⟨_,_,cx⟩;rw[<-bf,show ((Zp (-1-(Zi G).start):Nat):Int)=(Zi G).start by rw[a0];omega] at h1;exact h1
 have CT:=LH CT;have z3:(D.alloc (.cells #[.slice s f z,.slice u l B,.slice v r C,.int .i64 (Zi G).start,.slice At (m+1) J,.slice none 0 0,.bool false] 122)).cell? ⟨E,3,none⟩=some (.int .i64 (Zi G).start):=(M.cell (p:=⟨E,3,none⟩) (AK Z ah.size)).trans ((ah.cell (p:=⟨E,3,none⟩) Z).trans x3);have zl:E<(D.alloc (.cells #[.slice s f z,.slice u l B,.slice v r C,.int .i64 (Zi G).start,.slice At (m+1) J,.slice none 0 0,.bool false] 122)).heap.size:=AK Z (BD ah.size M.size);have ar:=LH bm;have fg:=LH (bb.below ah);clear x0 x1 x2 x3 Z cy cw cx ht bf fx bm M S HS;generalize D.alloc (.cells #[.slice s f z,.slice u l B,.slice v r C,.int .i64 (Zi G).start,.slice At (m+1) J,.slice none 0 0,.bool false] 122)=W8 at *;generalize dj:D.heap.size=Y at *;have gb:=LH dj;clear dj;by_cases az:t.length<=300
 case neg =>
  have ao:Hid (Calls prog 81 #[.pointer (some ⟨Y,0,none⟩),.int .i64 (Zi G).start,.int .i64 (m:Int),.slice A d.length c] W8 λe w'=>e = .returned (.tuple #[])/\∃cp,WkAt D ⟨s,f,z,u,l,B,v,r,C⟩ (Zi G) At (m+1) J Y cp true w'):=LH (CT.mono λe w' N=>by
   obtain⟨h1,_,⟨R,_⟩ | ⟨_,V⟩⟩:=N
   ·rw[DR] at R;omega
   exact⟨h1,V⟩)
  have Hb:Hid (V9 G (m:Int) d [] 13):=LH (.inr (.inr (.inr ⟨bc,by rw[O],by rw[O];exact cg,t,by rw[DC];exact a9,.inl ⟨AA,rfl,rfl⟩⟩)));clear CT az;go_upto_region 11 with (first
   | (go_at_call 81
      refine ao.out.mono ?_;rintro e P⟨rfl,cp,A9,c9,am⟩;have T:=LH am;clear am))
  have p6:P.cell? ⟨Y,6,none⟩=some (.bool true):=T.box.cell 6;have pl:=T.box.lt;go_wp2_with fail;go_ret2;exact Qp.no (ar.trans (T.base.mono ar.size)) Hb
 have ao:Hid (Calls prog 81 #[.pointer (some ⟨Y,0,none⟩),.int .i64 (Zi G).start,.int .i64 (m:Int),.slice A d.length c] W8 λe w'=>e = .returned (.tuple #[])/\WkAt D ⟨s,f,z,u,l,B,v,r,C⟩ (Zi G) At (m+1) J Y t false w'):=LH (CT.mono λe w' N=>by
  obtain⟨h1,_,⟨_,V⟩ | ⟨R,_⟩⟩:=N
  ·exact⟨h1,V⟩
  rw[DR] at R;omega)
 have ba:=LH az;clear CT az;go_upto_region 11 with (first
  | (go_at_call 81
     refine ao.out.mono ?_;rintro e P⟨rfl,A9,c9,am⟩;have T:=LH am;clear am))
 have p6:P.cell? ⟨Y,6,none⟩=some (.bool false):=T.box.cell 6;have p5:P.cell? ⟨Y,5,none⟩=some (.slice A9 t.length c9):=T.box.cell 5;have pl:=T.box.lt;have da:=a9.inside;have ff:=LH da.2;have bu:Za .i64 P A9 t.length c9 (t.map λi:Nat=>(i:Int)):=Yl T.row.1;have fa:=LH bu;have fh:=LH (fg.below T.base);have b4:=LH (ar.trans (T.base.mono ar.size));have fe:Hid ((prog.info? 3).map (λi=>(i.zero,i.size,i.bytes))=some (some (.int .i64 0),1,8)):=LH AB;have gj:=bu.cap;clear da bu z3 zl ao;go_upto_region 15 with fail;go_loopw [14,15] (λo i wr=>∃(j:Nat) (Ao:Option Addr) (co:Nat),i = .int .i64 (j:Int)/\j<=t.length/\o = .slice Ao j co/\Hid (M4 wr P Ao j co (((t.take j).map (Yr G)).map λi:Nat=>(i:Int)))/\Hid (Below P P wr)) (λ_ i _=>t.length-(intOf i).toNat)
 case atStart=>exact⟨0,none,0,rfl,AV _,rfl,LH ⟨BJ _ _ _ _,λg hg=>by cases hg⟩,LH (AL _ _)⟩
 obtain⟨j,Ao,co,rfl,hj,rfl,a8,U⟩:=hrel;have q5:=(U.cell (p:=⟨Y,5,none⟩) pl).trans p5;have ql:=AK pl U.size;clear p6 p5 pl;by_cases bq:j<t.length
 case neg =>
  obtain rfl:j=t.length:=AA
  have c6:Za .i64 wr Ao t.length co ((t.map (Yr G)).map λi:Nat=>(i:Int)):=by
   have h1:=Yl a8.1;rw[List.take_length] at h1;exact h1
  have fd:=LH c6;clear c6 bq;go_wp2_with fail;go_ret2;exact⟨b4.trans (U.mono b4.size),t.map (Yr G),0,Ao,co,by rw[BF];rfl,by rw[BF];exact fd,.inr (.inr (.inr ⟨bc,by rw[O],by rw[O];exact cg,t,by rw[DC];exact a9,.inr ⟨ba,rfl,rfl⟩⟩))⟩
 obtain⟨x,hx⟩:∃x,t[j]? = some x:=⟨_,AN bq⟩;obtain⟨tb,tO,tv,rfl,di,ci,cq⟩:=fa.get bq;obtain rfl:(x:Int)=tv:=by
  have F:=ci.out;rw[By,hx] at F;exact BI F
 have t0:=(U.cell (p:=⟨tb,tO+j,none⟩) di).trans cq;have tl:=AK di U.size;have fy:x<nk:=by
  have F:=ff x (AM hx);rw[Fu] at F;have h5:=bb.len;unfold Z6 at h5;rw[BF] at h5;omega
 obtain⟨kb,ko,kv,rfl,dc,cf,cm⟩:=fh.get fy;obtain rfl:((Yr G x:Nat):Int)=kv:=by
  have F:=cf.out;unfold Z6 at F;rw[By] at F;unfold Yr;cases h5:(ksN G G.rules.length)[x]? with
  | none=>rw[h5] at F;cases F
  | some y =>
    rw[h5] at F;injection F with F;rw[<-F,AP,h5];rfl
 have k0:=(U.cell (p:=⟨kb,ko+x,none⟩) dc).trans cm;have kl:=AK dc U.size;have dg:((t.take j).map (Yr G)).map (λi:Nat=>(i:Int))++[((Yr G x:Nat):Int)]=((t.take (j+1)).map (Yr G)).map λi:Nat=>(i:Int):=by
  rw[Ya hx];simp
 have fj:=LH dg;have fs:j+1<=maxLen:=by have:=ba.out;unfold maxLen;omega
 have az:=ba.out;have c0:=U.size;have gf:=bb.cap;clear hx ci cq cf cm dg;go_wp2_with (first
  | (at_builtin;refine Nk rfl _ _ 27 rfl P 8 underlying27 fe Ao j co (((t.take j).map (Yr G)).map λi:Nat=>(i:Int)) rfl a8 ((Yr G x:Nat):Int) rfl fs AA c0 ?_;intro A5 c5 w5 bs c8 M
     have bi:=Zy wr (.cells #[.int .i64 ((Yr G x:Nat):Int)] 3);have d5:Hid (Below P P w5):=LH ((Zz U bi).trans ((Off.of_grown c8).is_below (BD c0 bi.size) λq hq=>(a8.blk hq).1));rw[fj] at bs;have d8:=LH bs;clear bs c8 M bi))
 go_roundw
 case rel=>exact⟨j+1,A5,c5,AF,AA,rfl,d8,d5⟩
 simp[intOf] <;> omega
theorem rankTrees_walk(h:GH)(G:Gr)(x:Int)(Ar:Option Addr)(R cr:Nat)(zs:List Int)(w:World)(ah:GrIn w h G)(hx:(Lit.int .i64 x).wf=true)(O:Nj .u32 w Ar R cr zs)(H:Q2 w):
 Calls prog 10 #[GV h G.start,.int .i64 x,.slice Ar R cr] w λe w'=>e = .returned (.bool true)/\Below w w w':=by
 obtain⟨xs,d,N⟩:=O.limbs;obtain rfl:=d.len;have av:=d.cap;obtain⟨c,P,ai⟩:=ah;obtain⟨a1,n1,c1,a2,n2,c2,a3,n3,c3⟩:=h;have A:G.terms.length=n1:=c.terms.len;have B:G.nons.length=n2:=c.nons.len;have C:G.rules.length=n3:=c.rules.len;have k:=Zy w (.cells #[.slice a1 n1 c1,.slice a2 n2 c2,.slice a3 n3 c3,.int .i64 G.start] 26);have L:=Y1.new w 26 ⟨a1,n1,c1,a2,n2,c2,a3,n3,c3⟩ G.start;have CA:=LH Zyk;have j:=LH c;have Z:=LH P;have y:=LH d;have t:=LH H;have v:=LH N;clear ai c P O d H hx N;go_enter func10,ntmps10;go_wp2_with fail;generalize w.alloc (.cells #[.slice a1 n1 c1,.slice a2 n2 c2,.slice a3 n3 c3,.int .i64 G.start] 26)=W0 at *;refine (CA.out W0 (t.out.below k)).mono ?_;rintro e W1⟨rfl,m⟩;have l:=Zz k m;have q:=L.below m;have⟨y5,y0,y1,y2,y3⟩:=q;simp only[] at y0 y1 y2 y3;go_wp2_with fail;refine (Cu ⟨a1,n1,c1,a2,n2,c2,a3,n3,c3⟩ G W1 (j.out.below l)).mono ?_;rintro e W2⟨rfl,n⟩;have D:=Zz l n;have M:=q.below n;have a:=LH D;have u:=LH M;clear y0 y1 y2 y3 y5 L q m n k l D M;have⟨y5,y0,y1,y2,y3⟩:=u.out;simp only[] at y0 y1 y2 y3;rcases r:G.great with _ | _
 case true =>
  clear r;go_wp2_with fail;go_ret;exact⟨rfl,a⟩
 obtain⟨l1,l2,l3,_⟩:=Kv r;rw[A] at l1;rw[B] at l2;rw[C] at l3;clear r A B C;by_cases au:(40:Int)<(xs.length:Int)
 case pos =>
  go_wp2_with fail;go_ret;exact⟨rfl,a⟩
 go_wp2_with fail;have b:=Ki ⟨a1,n1,c1,a2,n2,c2,a3,n3,c3⟩ G x Ar cr xs W2 (j.below a) Z (t.below a) (by simp only[];omega) (by simp only[];omega) (by simp only[];omega) (y.below a) v;refine b.mono ?_;rintro e W3⟨o,f,er,S,k3,rfl,E,I⟩;have g:=LH (Zz a o);have Y:=LH (u.below o);have s:=LH E;have X:=LH I;clear y0 y1 y2 y3 y5 b o E I;have⟨y5,y0,y1,y2,y3⟩:=Y.out;simp only[] at y0 y1 y2 y3;go_wp2_with fail;have b:=rf_Unrank ⟨a1,n1,c1,a2,n2,c2,a3,n3,c3⟩ G x Ar cr xs W3 (j.below g) (by simp only[];omega) (by simp only[];omega) (by simp only[];omega) (y.below g) v;refine b.mono ?_;rintro e W4⟨p,aw,er',T,k4,rfl,F,J⟩;obtain⟨rfl,rfl⟩:=X.one J;have U:=LH (Zz g p);have V:=LH (s.below p);have W:=LH F;clear y0 y1 y2 y3 y5 b p F J s;go_wp2_with fail;have z:=Mr S f.length k3 (f.map λi:Nat=>(i:Int)) T f.length k4 (f.map λi:Nat=>(i:Int)) W4 V W;rw[beq_self_eq_true] at z;refine z.mono ?_;rintro e W5⟨rfl,hS⟩;go_wp2_with fail;go_ret;exact⟨AE,Zz U (hS.below _)⟩
