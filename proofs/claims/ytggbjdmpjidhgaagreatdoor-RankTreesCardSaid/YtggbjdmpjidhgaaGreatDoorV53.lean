/- ranks: the reference's forest (walked). -/
import Derived.Test.YtggbjdmpjidhgaaGreatDoorV36
import Derived.Test.YtggbjdmpjidhgaaGreatDoorV43
import Derived.Test.YtggbjdmpjidhgaaGreatDoorV52
set_option linter.all false
set_option maxHeartbeats 1500000
set_option maxRecDepth 100000
namespace Go.Proofs.YtggbjdmpjidhgaaGreatDoor
open Go.RowKit Go.Proofs.Tryz
variable{At:Option Addr}{tab:Nat->Nat->Nat}
theorem Zt5{a:World}{h:GH}{G:Gr}{f b:Nat}(d:TbG a h G At f b tab)(c:Xq G):∀m,WTC a h G At f b m/\WFC a h G At f b m
 | 0=>by
   have h0:WTC a h G At f b 0:=by
    intro p cs s n r t Ar cr w j h0 l g;obtain⟨i,x,q,o,_,_,_,_,rfl⟩:=g;rw[AW] at j;omega
   exact⟨h0,Zwp d c 0 h0⟩
 | m+1=>by
   have k:=Zt5 d c m;have h1:=rf_wtree d c m k.2;exact⟨h1,Zwp d c (m+1) h1⟩
theorem rf_Unrank(h:GH)(G:Gr)(n:Int)(A:Option Addr)(c:Nat)(d:List Nat)(w:World)(hg:Yf w h G)(h1:h.n1<=100)(R:h.n2<=100)(V:h.n3<=100)(N:Zq .u32 w A d.length c d)(lr:Lim d):
 Calls prog 39 #[GV h G.start,.int .i64 n,.slice A d.length c] w (Qp G n d w):=by
 obtain⟨a1,n1,c1,a2,n2,c2,a3,n3,c3⟩:=h;simp only[] at h1 R V;have Hg:=LH hg;have bg:=Zy w (.cells #[.slice a1 n1 c1,.slice a2 n2 c2,.slice a3 n3 c3,.int .i64 G.start] 26);have bk:=Y1.new w 26 ⟨a1,n1,c1,a2,n2,c2,a3,n3,c3⟩ G.start;have HR:=LH N;have b5:=LH lr;have CR:=LH (Z4 A d.length c d _ (N.below bg));have a7:=LH bg;have b9:=LH bk;clear hg N lr;go_enter func39,ntmps39;have⟨z5,z0,z1,z2,z3⟩:=bk;simp only[] at z0 z1 z2 z3;clear bg bk;cases aj:Zm d
 case false =>
  have Hb:Hid (V9 G n d [] 1):=LH (.inl ⟨.inr (.inr (.inr aj)),rfl,rfl⟩);rw[aj] at CR;clear aj;go_wp2_with (go_at_call 78;(with_reducible refine CR.out.mono ?_);rintro e D⟨rfl,rfl⟩);go_ret2;exact Qp.no a7.out Hb.out
 rw[aj] at CR;have av:=LH aj;clear aj;go_upto_region 3 with (go_at_call 78;(with_reducible refine CR.out.mono ?_);rintro e D⟨rfl,rfl⟩);generalize w.alloc (.cells #[.slice a1 n1 c1,.slice a2 n2 c2,.slice a3 n3 c3,.int .i64 G.start] 26)=W0 at *;have CC:=Lj ⟨a1,n1,c1,a2,n2,c2,a3,n3,c3⟩ G n W0 (Hg.out.below a7.out) h1 R V;have bn:=Kg G n;have bj:G.right=false\/n<0\/10<n->Z2 G n=([],1):=λh=>by unfold Z2;rw[if_pos h]
 obtain⟨cn,bo⟩:∃cn,Z2 G n=cn:=⟨_,rfl⟩;obtain⟨L,er⟩:=cn;rw[bo] at CC bn bj;have CC:=LH CC;have O:=LH bo;have ca:=LH bn;have b8:=LH bj;clear bo bn bj CR;go_upto_region 4 with (first
  | (go_at_call 20
     (with_reducible refine CC.out.mono ?_);rintro e W3⟨A3,fo,rfl,de,bh⟩))
 have ap:=LH (Zz a7.out bh);have d6:=LH de;have fc:=LH (b9.out.below bh);clear de bh CC z0 z1 z2 z3 z5 b9;by_cases ay:er=0
 case neg =>
  have gh:((er:Int) != 0)=true:=by rw[BN];omega
  have Hb:Hid (V9 G n d [] er):=LH (by
   by_cases bl:badU G n d
   ·refine .inl ⟨bl,rfl,?_⟩;have h9:G.right=false\/n<0\/10<n:=by
     rcases bl with h | h | h | h
     ·exact .inl h
     ·exact .inr (.inl h)
     ·exact .inr (.inr h)
     rw[av.out] at h;cases h
    have:=b8.out h9;injection this
   exact .inr (.inl ⟨bl,by rw[O.out];exact ay,rfl,by rw[O.out]⟩))
  clear ay;go_wp2_with fail;go_ret2;exact Qp.no ap.out Hb.out
 subst ay;have ad:¬(G.right=false\/n<0\/10<n):=λh=>by
  have:=b8.out h;injection this with _ R;cases R
 have bc:Hid (¬badU G n d):=LH (by
  rintro (h | h | h | h)
  ·exact ad (.inl h)
  ·exact ad (.inr (.inl h))
  ·exact ad (.inr (.inr h))
  rw[av.out] at h;cases h)
 have N:G.right=true:=by
  cases N:G.right
  ·exact absurd (.inl N) ad
  rfl
 have ft:0<=n:=Int.not_lt.1 λh=>ad (.inr (.inl h));have fu:n<=10:=Int.not_lt.1 λh=>ad (.inr (.inr h));have Hr:=LH N;clear ad N;have dk:Zm L=true:=ca.out.2 rfl;have S:=Le A d.length c d A3 L.length fo L W3 (HR.out.below ap.out) d6.out b5.out ca.out.1;have c4:Vq d L=Vm (val d) (val L):=by
  unfold Vq;rw[av.out,dk];rfl
 rw[c4] at S;unfold Quiet at S;have S:=LH S;clear dk c4;by_cases bp:val L<=val d
 case pos =>
  have hc:(0:Int)<=Vm (val d) (val L):=by
   have:=mt (Q5 (a:=val d) (b:=val L)).1 AA;omega
  have Hb:Hid (V9 G n d [] 11):=LH (.inr (.inr (.inl ⟨bc.out,by rw[O.out],by rw[O.out];exact bp,rfl,rfl⟩)));clear bp;go_wp2_with (first
   | (go_at_call 36
      (with_reducible refine S.out.mono ?_);rintro e W4⟨rfl,an⟩;have aq:=LH (Zz ap.out (an.below _))))
  go_ret2;exact Qp.no aq.out Hb.out
 have hc:¬(0:Int)<=Vm (val d) (val L):=by
  have:=(Q5 (a:=val d) (b:=val L)).2 AA;omega
 have fw:=Bb Hr.out ⟨ft,fu⟩ (by rw[O.out]) (by rw[O.out];show 0<val L;omega);obtain⟨br,cv,fq,dh,bv,_⟩:=fw;obtain⟨hP,hO⟩:=Dx Hr.out br cv.cyc;rw[O.out] at bv;have dd:val d<Zv (Zi G) (-1-(Zi G).start) n.toNat:=by
  have h9:val L=_:=bv;omega
 have fi:=LH dd;have cg:Hid (val d<val L):=LH AA;have HP:=LH hP;have HO:=LH hO;have fl:=LH dh;have fk:=LH br;obtain⟨m,rfl⟩:∃m:Nat,n=(m:Int):=⟨n.toNat,AA⟩;have gg:m<=10:=AA
 clear dd cv hP fq hO dh bv br bp;go_upto_region 8 with (first
  | (go_at_call 36
     (with_reducible refine S.out.mono ?_);rintro e W4⟨rfl,an⟩;have aq:=LH (Zz ap.out (an.below _));obtain⟨y5,y0,y1,y2,y3⟩:=fc.out.below (an.below _);simp only[] at y0 y1 y2 y3))
 have bx:=LH (Dk ⟨a1,n1,c1,a2,n2,c2,a3,n3,c3⟩ G W4 (Hg.out.below aq.out) h1 R V);clear S an;go_upto_region 9 with (first
  | (go_at_call 58
     (with_reducible refine bx.out.mono ?_);rintro e W5⟨cz,⟨df,er,ay,rfl⟩ | ⟨_,⟨s,f,z,u,l,B,v,r,C⟩,Ak,nk,ck,rfl,c7,m1,m2,m3,db⟩⟩
     ·rw[fk.out] at df;cases df
     have bz:=LH (Zz aq.out cz);have cc:=LH c7;have ce:=LH db;clear cz c7 db))
 have m1:f<=24:=m1;have m2:l<=16:=m2;have m3:r<=40:=m3;have M:=Zy W5 (.cells #[.slice s f z,.slice u l B,.slice v r C,.int .i64 (Zi G).start] 26);have ab:=Blk.new W5 26 #[.slice s f z,.slice u l B,.slice v r C,.int .i64 (Zi G).start];have b0:=LH (Zz bz.out M);have cd:=LH (cc.out.below M);have bb:=LH (ce.out.below M);clear bz cc ce M y0 y1 y2 y3 y5 bx;generalize W5.alloc (.cells #[.slice s f z,.slice u l B,.slice v r C,.int .i64 (Zi G).start] 26)=H at *;generalize W5.heap.size=E at *;have ga:=LH ab;have x0:H.cell? ⟨E,0,none⟩=some (.slice s f z):=ab.cell 0;have x1:H.cell? ⟨E,1,none⟩=some (.slice u l B):=ab.cell 1;have x2:H.cell? ⟨E,2,none⟩=some (.slice v r C):=ab.cell 2;have x3:H.cell? ⟨E,3,none⟩=some (.int .i64 (Zi G).start):=ab.cell 3;have Z:=ab.lt;have S:Hid (∀X,Below H.heap.size H X->Calls prog 54 #[.agg #[.slice s f z,.slice u l B,.slice v r C,.int .i64 (Zi G).start],.int .i64 (m:Int)] X λe w'=>Below H.heap.size H w'/\∃A c tab,e = .returned (.slice A (m+1) c)/\Hid (Zyq w' A (m+1) c (Zi G).nons.length tab)/\Hid (∀k,k<=m->∀i,i<(Zi G).nons.length->tab k i=Zv (Zi G) (-1-(i:Int)) k)):=LH λX W=>(Ztz ⟨s,f,z,u,l,B,v,r,C⟩ (Zi G) m X (cd.out.below W) (by show f<=100;omega) (by show l<=100;omega) (by show r<=100;omega) HP.out HO.out AA).mono λe w' ⟨h1,A,c,tab,R,V,F⟩=>⟨Zz W h1,A,c,tab,R,LH V,LH F⟩;have HS:Hid (∀I,Below H.heap.size H I->I.cell? ⟨E,0,none⟩=some (.slice s f z)/\I.cell? ⟨E,1,none⟩=some (.slice u l B)/\I.cell? ⟨E,2,none⟩=some (.slice v r C)/\I.cell? ⟨E,3,none⟩=some (.int .i64 (Zi G).start)/\Below H.heap.size H I):=LH λI W=>⟨by rw[W.cell (by exact Z)];exact x0,by rw[W.cell (by exact Z)];exact x1,by rw[W.cell (by exact Z)];exact x2,by rw[W.cell (by exact Z)];exact x3,W⟩;clear ab;go_region_held3 (λI=>I.cell? ⟨E,0,none⟩=some (.slice s f z)/\I.cell? ⟨E,1,none⟩=some (.slice u l B)/\I.cell? ⟨E,2,none⟩=some (.slice v r C)/\I.cell? ⟨E,3,none⟩=some (.int .i64 (Zi G).start)/\Below H.heap.size H I)
  ((refine HS.out _ ?_;(repeat (first | assumption | exact AK _ _ | refine Below.drew ?_ | refine Zo ?_ _));done))
  (first
    | (go_at_call 54;with_reducible refine (S.out _ (by (repeat (first | assumption | exact AK _ _ | refine Below.drew ?_)))).mono ?_;rintro e D⟨ah,At,J,tab,rfl,d9,fb⟩))
 have M:=Zy D (.cells #[.slice s f z,.slice u l B,.slice v r C,.int .i64 (Zi G).start,.slice At (m+1) J,.slice none 0 0,.bool false] 122);have cy:=Blk.new D 122 #[.slice s f z,.slice u l B,.slice v r C,.int .i64 (Zi G).start,.slice At (m+1) J,.slice none 0 0,.bool false];have cw:TbG D ⟨s,f,z,u,l,B,v,r,C⟩ (Zi G) At (m+1) J tab:=⟨cd.out.below ah,d9.out,λk hk i hi=>fb.out k AA i hi,AA,by show f<=100;omega,by show l<=100;omega,by show r<=100;omega⟩;have cx:Bp D ⟨s,f,z,u,l,B,v,r,C⟩ (Zi G) At (m+1) J D.heap.size [] false none 0 (D.alloc (.cells #[.slice s f z,.slice u l B,.slice v r C,.int .i64 (Zi G).start,.slice At (m+1) J,.slice none 0 0,.bool false] 122)):=⟨M,cy,⟨BJ _ _ _ _,λg hg=>by cases hg⟩,AI _,AU _⟩;have gi:=HP.out.fits.st;have a0:Zp (-1-(Zi G).start)=(Zi G).start.toNat:=by unfold Zp;omega
 obtain⟨t,ht⟩:=UnT.ex HP.out _ m (-1-(Zi G).start) AA (by rw[a0];omega) rfl (val d) fi.out;have a9:Hid (UnT (Zi G) (Zi G).start.toNat m (val d) t):=LH (by rw[<-a0];exact ht);obtain⟨bf,fx⟩:=Ul d b5.out av.out;have bm:Below w.heap.size w D:=b0.out.trans (ah.mono b0.out.size);have d4:=LH (Zz bm M);have CT:Calls prog 81 #[.pointer (some ⟨D.heap.size,0,none⟩),.int .i64 (Zi G).start,.int .i64 (m:Int),.slice A d.length c] (D.alloc (.cells #[.slice s f z,.slice u l B,.slice v r C,.int .i64 (Zi G).start,.slice At (m+1) J,.slice none 0 0,.bool false] 122)) (WkRet D ⟨s,f,z,u,l,B,v,r,C⟩ (Zi G) At (m+1) J D.heap.size [] t (D.alloc (.cells #[.slice s f z,.slice u l B,.slice v r C,.int .i64 (Zi G).start,.slice At (m+1) J,.slice none 0 0,.bool false] 122))):=by
  have h1:=(Zt5 cw HP.out t.length).1 D.heap.size [] (-1-(Zi G).start) m (val d) t A c _ (AI _) AA (by rw[a0];omega) ht fl.out AA (by rw[<-bf];exact HR.out.below d4.out) ⟨_,_,cx⟩;rw[<-bf,show ((Zp (-1-(Zi G).start):Nat):Int)=(Zi G).start by rw[a0];omega] at h1;exact h1
 have CT:=LH CT;have z3:(D.alloc (.cells #[.slice s f z,.slice u l B,.slice v r C,.int .i64 (Zi G).start,.slice At (m+1) J,.slice none 0 0,.bool false] 122)).cell? ⟨E,3,none⟩=some (.int .i64 (Zi G).start):=(M.cell (p:=⟨E,3,none⟩) (AJ Z ah.size)).trans ((ah.cell (p:=⟨E,3,none⟩) Z).trans x3);have zl:E<(D.alloc (.cells #[.slice s f z,.slice u l B,.slice v r C,.int .i64 (Zi G).start,.slice At (m+1) J,.slice none 0 0,.bool false] 122)).heap.size:=AJ Z (BC ah.size M.size);have ar:=LH bm;have fg:=LH (bb.out.below ah);clear x0 x1 x2 x3 Z cy cw cx ht bf fx bm M S HS;generalize D.alloc (.cells #[.slice s f z,.slice u l B,.slice v r C,.int .i64 (Zi G).start,.slice At (m+1) J,.slice none 0 0,.bool false] 122)=W8 at *;generalize dj:D.heap.size=Y at *;have gb:=LH dj;clear dj;by_cases az:t.length<=300
 case neg =>
  have ao:Hid (Calls prog 81 #[.pointer (some ⟨Y,0,none⟩),.int .i64 (Zi G).start,.int .i64 (m:Int),.slice A d.length c] W8 λe w'=>e = .returned (.tuple #[])/\∃cp,WkAt D ⟨s,f,z,u,l,B,v,r,C⟩ (Zi G) At (m+1) J Y cp true w'):=LH (CT.out.mono λe w' N=>by
   obtain⟨h1,_,⟨R,_⟩ | ⟨_,V⟩⟩:=N
   ·rw[DS] at R;omega
   exact⟨h1,V⟩)
  have Hb:Hid (V9 G (m:Int) d [] 13):=LH (.inr (.inr (.inr ⟨bc.out,by rw[O.out],by rw[O.out];exact cg.out,t,by rw[DF];exact a9.out,.inl ⟨AA,rfl,rfl⟩⟩)));clear CT az;go_upto_region 11 with (first
   | (go_at_call 81
      (with_reducible refine ao.out.mono ?_);rintro e P⟨rfl,cp,A9,c9,am⟩;have T:=LH am;clear am))
  have p6:P.cell? ⟨Y,6,none⟩=some (.bool true):=T.out.box.cell 6;have pl:=T.out.box.lt;go_wp2_with fail;go_ret2;exact Qp.no (ar.out.trans (T.out.base.mono ar.out.size)) Hb.out
 have ao:Hid (Calls prog 81 #[.pointer (some ⟨Y,0,none⟩),.int .i64 (Zi G).start,.int .i64 (m:Int),.slice A d.length c] W8 λe w'=>e = .returned (.tuple #[])/\WkAt D ⟨s,f,z,u,l,B,v,r,C⟩ (Zi G) At (m+1) J Y t false w'):=LH (CT.out.mono λe w' N=>by
  obtain⟨h1,_,⟨_,V⟩ | ⟨R,_⟩⟩:=N
  ·exact⟨h1,V⟩
  rw[DS] at R;omega)
 have ba:=LH az;clear CT az;go_upto_region 11 with (first
  | (go_at_call 81
     (with_reducible refine ao.out.mono ?_);rintro e P⟨rfl,A9,c9,am⟩;have T:=LH am;clear am))
 have p6:P.cell? ⟨Y,6,none⟩=some (.bool false):=T.out.box.cell 6;have p5:P.cell? ⟨Y,5,none⟩=some (.slice A9 t.length c9):=T.out.box.cell 5;have pl:=T.out.box.lt;have da:=a9.out.inside;have ff:=LH da.2;have bu:Za .i64 P A9 t.length c9 (t.map λi:Nat=>(i:Int)):=Yl T.out.row.1;have fa:=LH bu;have fh:=LH (fg.out.below T.out.base);have b4:=LH (ar.out.trans (T.out.base.mono ar.out.size));have fe:Hid ((prog.info? 3).map (λi=>(i.zero,i.size,i.bytes))=some (some (.int .i64 0),1,8)):=LH AB;have gj:=bu.cap;clear da bu z3 zl ao;go_upto_region 15 with fail;go_loopw [14,15] (λo i wr=>∃(j:Nat) (Ao:Option Addr) (co:Nat),i = .int .i64 (j:Int)/\j<=t.length/\o = .slice Ao j co/\Hid (M4 wr P.heap.size Ao j co (((t.take j).map (Yr G)).map λi:Nat=>(i:Int)))/\Hid (Below P.heap.size P wr)) (λ_ i _=>t.length-(intOf i).toNat)
 case atStart=>exact⟨0,none,0,rfl,AU _,rfl,LH ⟨BJ _ _ _ _,λg hg=>by cases hg⟩,LH (AK _ _)⟩
 obtain⟨j,Ao,co,rfl,hj,rfl,a8,U⟩:=hrel;have q5:=(U.out.cell (p:=⟨Y,5,none⟩) pl).trans p5;have ql:=AJ pl U.out.size;clear p6 p5 pl;by_cases bq:j<t.length
 case neg =>
  obtain rfl:j=t.length:=AA
  have c6:Za .i64 wr Ao t.length co ((t.map (Yr G)).map λi:Nat=>(i:Int)):=by
   have h1:=Yl a8.out.1;rw[List.take_length] at h1;exact h1
  have fd:=LH c6;clear c6 bq;go_wp2_with fail;go_ret2;exact⟨b4.out.trans (U.out.mono b4.out.size),t.map (Yr G),0,Ao,co,by rw[BF];rfl,by rw[BF];exact fd.out,.inr (.inr (.inr ⟨bc.out,by rw[O.out],by rw[O.out];exact cg.out,t,by rw[DF];exact a9.out,.inr ⟨ba.out,rfl,rfl⟩⟩))⟩
 obtain⟨x,hx⟩:∃x,t[j]? = some x:=⟨_,AM bq⟩;obtain⟨tb,tO,tv,rfl,di,ci,cq⟩:=fa.out.get bq;obtain rfl:(x:Int)=tv:=by
  have F:=ci.out;rw[BA,hx] at F;exact BI F
 have t0:=(U.out.cell (p:=⟨tb,tO+j,none⟩) di).trans cq;have tl:=AJ di U.out.size;have fy:x<nk:=by
  have F:=ff.out x (AL hx);rw[Fu] at F;have h5:=bb.out.len;unfold Z6 at h5;rw[BF] at h5;omega
 obtain⟨kb,ko,kv,rfl,dc,cf,cm⟩:=fh.out.get fy;obtain rfl:((Yr G x:Nat):Int)=kv:=by
  have F:=cf.out;unfold Z6 at F;rw[BA] at F;unfold Yr;cases h5:(ksN G G.rules.length)[x]? with
  | none=>rw[h5] at F;cases F
  | some y =>
    rw[h5] at F;injection F with F;rw[<-F,AO,h5];rfl
 have k0:=(U.out.cell (p:=⟨kb,ko+x,none⟩) dc).trans cm;have kl:=AJ dc U.out.size;have dg:((t.take j).map (Yr G)).map (λi:Nat=>(i:Int))++[((Yr G x:Nat):Int)]=((t.take (j+1)).map (Yr G)).map λi:Nat=>(i:Int):=by
  rw[Ya hx];simp
 have fj:=LH dg;have fs:j+1<=maxLen:=by have:=ba.out;unfold maxLen;omega
 have az:=ba.out;have c0:=U.out.size;have gf:=bb.out.cap;clear hx ci cq cf cm dg;go_wp2_with (first
  | (at_builtin;refine Nk rfl _ _ 27 rfl P.heap.size 8 underlying27 fe.out Ao j co (((t.take j).map (Yr G)).map λi:Nat=>(i:Int)) rfl a8.out ((Yr G x:Nat):Int) rfl fs AA c0 ?_;intro A5 c5 w5 bs c8 M
     have bi:=Zy wr (.cells #[.int .i64 ((Yr G x:Nat):Int)] 3);have d5:Hid (Below P.heap.size P w5):=LH ((Zz U.out bi).trans ((Off.of_grown c8).is_below (BC c0 bi.size) λq hq=>(a8.out.blk hq).1));rw[fj.out] at bs;have d8:=LH bs;clear bs c8 M bi))
 go_roundw
 case rel=>exact⟨j+1,A5,c5,AF,AA,rfl,d8,d5⟩
 simp[intOf] <;> omega
theorem rankTrees_walk(h:GH)(G:Gr)(x:Int)(Ar:Option Addr)(R cr:Nat)(zs:List Int)(w:World)(ah:GrIn w h G)(hx:(Lit.int .i64 x).wf=true)(O:Nj .u32 w Ar R cr zs)(H:Q2 w):
 Calls prog 10 #[GV h G.start,.int .i64 x,.slice Ar R cr] w λe w'=>e = .returned (.bool true)/\Below w w w':=by
 obtain⟨xs,d,N⟩:=O.limbs;obtain rfl:=d.len;have av:=d.cap;obtain⟨c,P,ai⟩:=ah;obtain⟨a1,n1,c1,a2,n2,c2,a3,n3,c3⟩:=h;have A:G.terms.length=n1:=c.terms.len;have B:G.nons.length=n2:=c.nons.len;have C:G.rules.length=n3:=c.rules.len;have k:=Zy w (.cells #[.slice a1 n1 c1,.slice a2 n2 c2,.slice a3 n3 c3,.int .i64 G.start] 26);have L:=Y1.new w 26 ⟨a1,n1,c1,a2,n2,c2,a3,n3,c3⟩ G.start;have CA:=LH Zyk;have j:=LH c;have Z:=LH P;have y:=LH d;have t:=LH H;have v:=LH N;clear ai c P O d H hx N;go_enter func10,ntmps10;go_wp2_with fail;generalize w.alloc (.cells #[.slice a1 n1 c1,.slice a2 n2 c2,.slice a3 n3 c3,.int .i64 G.start] 26)=W0 at *;(with_reducible refine (CA.out W0 (t.out.below k)).mono ?_);rintro e W1⟨rfl,m⟩;have l:=Zz k m;have q:=L.below m;have⟨y5,y0,y1,y2,y3⟩:=q;simp only[] at y0 y1 y2 y3;go_wp2_with fail;(with_reducible refine (Cu ⟨a1,n1,c1,a2,n2,c2,a3,n3,c3⟩ G W1 (j.out.below l)).mono ?_);rintro e W2⟨rfl,n⟩;have D:=Zz l n;have M:=q.below n;have a:=LH D;have u:=LH M;clear y0 y1 y2 y3 y5 L q m n k l D M;have⟨y5,y0,y1,y2,y3⟩:=u.out;simp only[] at y0 y1 y2 y3;rcases r:G.great with _ | _
 case true =>
  clear r;go_wp2_with fail;go_ret;exact⟨rfl,a.out⟩
 obtain⟨l1,l2,l3,_⟩:=Kv r;rw[A] at l1;rw[B] at l2;rw[C] at l3;clear r A B C;by_cases au:(40:Int)<(xs.length:Int)
 case pos =>
  go_wp2_with fail;go_ret;exact⟨rfl,a.out⟩
 go_wp2_with fail;have b:=Ki ⟨a1,n1,c1,a2,n2,c2,a3,n3,c3⟩ G x Ar cr xs W2 (j.out.below a.out) Z.out (t.out.below a.out) (by simp only[];omega) (by simp only[];omega) (by simp only[];omega) (y.out.below a.out) v.out;(with_reducible refine b.mono ?_);rintro e W3⟨o,f,er,S,k3,rfl,E,I⟩;have g:=LH (Zz a.out o);have Y:=LH (u.out.below o);have s:=LH E;have X:=LH I;clear y0 y1 y2 y3 y5 b o E I;have⟨y5,y0,y1,y2,y3⟩:=Y.out;simp only[] at y0 y1 y2 y3;go_wp2_with fail;have b:=rf_Unrank ⟨a1,n1,c1,a2,n2,c2,a3,n3,c3⟩ G x Ar cr xs W3 (j.out.below g.out) (by simp only[];omega) (by simp only[];omega) (by simp only[];omega) (y.out.below g.out) v.out;(with_reducible refine b.mono ?_);rintro e W4⟨p,aw,er',T,k4,rfl,F,J⟩;obtain⟨rfl,rfl⟩:=X.out.one J;have U:=LH (Zz g.out p);have V:=LH (s.out.below p);have W:=LH F;clear y0 y1 y2 y3 y5 b p F J s;go_wp2_with fail;have z:=Mr S f.length k3 (f.map λi:Nat=>(i:Int)) T f.length k4 (f.map λi:Nat=>(i:Int)) W4 V.out W.out;rw[beq_self_eq_true] at z;(with_reducible refine z.mono ?_);rintro e W5⟨rfl,hS⟩;go_wp2_with fail;go_ret;exact⟨AE,Zz U.out (hS.below _)⟩
end Go.Proofs.YtggbjdmpjidhgaaGreatDoor
