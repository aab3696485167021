/- ranks: a maker's forest (walked). -/
import Derived.Test.YtaagompdgiobeaaGreatDoorV25
import Derived.Test.YtaagompdgiobeaaGreatDoorV26
set_option linter.all false
set_option maxHeartbeats 1500000
set_option maxRecDepth 100000
namespace Go.Proofs.YtaagompdgiobeaaGreatDoor
open Go.RowKit Go.Proofs.Tryz
theorem Ki(h:GH)(G:Gr)(n:Int)(A:Option Addr)(c:Nat)(d:List Nat)(w:World)(hg:Yf w h G)(hs:∀t∈G.terms,t.name.size<=maxLen)(c8:Q2 w)(h1:h.n1<=100)(B:h.n2<=100)(U:h.n3<=100)(r:Zq .u32 w A d.length c d)(lr:Lim d):
 Calls prog 24 #[GV h G.start,.int .i64 n,.slice A d.length c] w (Qp G n d w):=by
 obtain⟨a1,n1,c1,a2,n2,c2,a3,n3,c3⟩:=h;simp only[] at h1 B U;have Hg:=LH hg;have Hs:=LH hs;have ci:=LH c8;have bp:=Zy w (.cells #[.slice a1 n1 c1,.slice a2 n2 c2,.slice a3 n3 c3,.int .i64 G.start] 26);have bs:=Y1.new w 26 ⟨a1,n1,c1,a2,n2,c2,a3,n3,c3⟩ G.start;have HR:=LH r;clear hg hs c8 r;go_enter func24,ntmps24;have⟨z5,z0,z1,z2,z3⟩:=bs;simp only[] at z0 z1 z2 z3;go_upto_region 1 with fail;generalize w.alloc (.cells #[.slice a1 n1 c1,.slice a2 n2 c2,.slice a3 n3 c3,.int .i64 G.start] 26)=W0 at *;have N:=LH (J4 ⟨a1,n1,c1,a2,n2,c2,a3,n3,c3⟩ G W0 (Hg.below bp) Hs (by simp only[];omega) (by simp only[];omega));have Y:=LH bp;have cl:=LH bs;have cg:=LH lr;clear bp bs lr;cases r:G.right
 case false =>
  have o:Hid (V9 G n d [] 1):=LH (.inl ⟨.inl r,rfl,rfl⟩);rw[r] at N;go_wp2_with (go_at_call 38;refine N.out.mono ?_;rintro e w6⟨rfl,m⟩);go_ret2;exact Qp.no (Zz Y m) o
 rw[r] at N;by_cases dg:n<0
 case pos =>
  have o:Hid (V9 G n d [] 1):=LH (.inl ⟨.inr (.inl dg),rfl,rfl⟩);go_wp2_with (go_at_call 38;refine N.out.mono ?_;rintro e w6⟨rfl,m⟩);go_ret2;exact Qp.no (Zz Y m) o
 by_cases dh:10<n
 case pos =>
  have o:Hid (V9 G n d [] 1):=LH (.inl ⟨.inr (.inr (.inl dh)),rfl,rfl⟩);go_wp2_with (go_at_call 38;refine N.out.mono ?_;rintro e w6⟨rfl,m⟩);go_ret2;exact Qp.no (Zz Y m) o
 have CR:Hid (∀X,Below W0 W0 X->Calls prog 42 #[.slice A d.length c] X λe w'=>e = .returned (.bool (Zm d))/\X=w'):=LH λX hX=>Zb _ _ _ _ _ ((HR.below Y).below hX);cases ag:Zm d
 case false =>
  have o:Hid (V9 G n d [] 1):=LH (.inl ⟨.inr (.inr (.inr ag)),rfl,rfl⟩);rw[ag] at CR;go_wp2_with (first
   | (go_at_call 38;refine N.out.mono ?_;rintro e w6⟨rfl,m⟩)
   | (go_at_call 42;refine (CR.out _ m).mono ?_;rintro e w7⟨rfl,rfl⟩))
  go_ret2;exact Qp.no (Zz Y m) o
 rw[ag] at CR;have aw:Hid (¬badU G n d):=LH (by
  rintro (h | h | h | h)
  ·rw[r] at h;cases h
  ·exact dg h
  ·exact dh h
  rw[ag] at h;cases h)
 have Hr:=LH r;have ct:=LH ag;clear r ag;go_upto_region 3 with (first
  | (go_at_call 38;refine N.out.mono ?_;rintro e w6⟨rfl,m⟩)
  | (go_at_call 42;refine (CR.out _ m).mono ?_;rintro e w7⟨rfl,rfl⟩))
 have a4:=Zz Y m;have CC:=Zus ⟨a1,n1,c1,a2,n2,c2,a3,n3,c3⟩ G n w6 (Hg.below a4) Hs (ci.below a4) h1 B U;obtain⟨y5,y0,y1,y2,P⟩:=cl.below m;simp only[] at y0 y1 y2 P;clear z0 z1 z2 z3 z5;have bu:=Kg G n;obtain⟨cn,bv⟩:∃cn,Z2 G n=cn:=⟨_,rfl⟩;obtain⟨s,er⟩:=cn;rw[bv] at CC bu;have CC:=LH CC;have z:=LH bv;have cm:=LH bu;have dy:=LH a4;clear bv bu N CR a4;go_upto_region 4 with (first
  | (go_at_call 22
     refine CC.out.mono ?_;rintro e W3⟨A3,fh,rfl,di,br⟩))
 have au:=LH (Zz dy br);have d4:=LH di;have d7:=LH ((cl.below m).below br);clear di br CC y0 y1 y2 P y5 m;by_cases a6:er=0
 case neg =>
  have gl:((er:Int) != 0)=true:=by rw[BK];omega
  have o:Hid (V9 G n d [] er):=LH (.inr (.inl ⟨aw,by rw[z];exact a6,rfl,by rw[z]⟩));clear a6;go_wp2_with fail;go_ret2;exact Qp.no au o
 subst a6;have dq:Zm s=true:=cm.2 rfl;have R:=Zym A d.length c d A3 s.length fh s W3 (HR.below au) d4 cg cm.1;have db:Vq d s=Vm (val d) (val s):=by
  unfold Vq;rw[ct,dq];rfl
 rw[db] at R;unfold Quiet at R;have R:=LH R;clear dq db;by_cases bx:val s<=val d
 case pos =>
  have hc:(0:Int)<=Vm (val d) (val s):=by
   have:=mt (Q5 (a:=val d) (b:=val s)).1 AA;omega
  have o:Hid (V9 G n d [] 11):=LH (.inr (.inr (.inl ⟨aw,by rw[z],by rw[z];exact bx,rfl,rfl⟩)));clear bx;go_wp2_with (first
   | (go_at_call 47
      refine R.out.mono ?_;rintro e W4⟨rfl,al⟩;have av:=LH (Zz au (al.below _))))
  go_ret2;exact Qp.no av o
 have hc:¬(0:Int)<=Vm (val d) (val s):=by
  have:=(Q5 (a:=val d) (b:=val s)).2 AA;omega
 have fq:=Bb Hr ⟨AA,AA⟩ (by rw[z]) (by rw[z];show 0<val s;omega);obtain⟨dl,c7,hP,dn,b7,_⟩:=fq;rw[z] at b7;have df:val d<Zv (Zi G) (-1-(Zi G).start) n.toNat:=by
  have h9:val s=_:=b7;omega
 have fa:=LH df;have cs:Hid (val d<val s):=LH AA;have d6:=LH c7;have HP:=LH hP;have fe:=LH dn;have fb:=LH dl;clear df c7 hP dn b7 dl bx;go_upto_region 8 with (first
  | (go_at_call 47
     refine R.out.mono ?_;rintro e W4⟨rfl,al⟩;have av:=LH (Zz au (al.below _));obtain⟨y5,y0,y1,y2,P⟩:=d7.below (al.below _);simp only[] at y0 y1 y2 P))
 have cR:=Cz ⟨a1,n1,c1,a2,n2,c2,a3,n3,c3⟩ G W4 (Hg.below av) Hs h1 B U;have ce:=LH cR;clear cR R al;go_upto_region 9 with (first
  | (go_at_call 40
     refine ce.out.mono ?_;rintro e W5⟨da,⟨dj,er,a6,rfl⟩ | ⟨_,⟨F,C,J,H,D,L,I,E,M⟩,Ak,nk,ck,rfl,dc,m1,m2,m3,dd⟩⟩
     ·rw[fb] at dj;cases dj
     have cf:=LH (Zz av da);have cp:=LH dc;have cq:=LH dd;clear da dc dd))
 have m1:C<=24:=m1;have m2:D<=16:=m2;have m3:E<=40:=m3;have a5:=Zy W5 (.cells #[.slice F C J,.slice H D L,.slice I E M,.int .i64 (Zi G).start] 26);have W:=Blk.new W5 26 #[.slice F C J,.slice H D L,.slice I E M,.int .i64 (Zi G).start];have T:=LH (Zz cf a5);have d8:=LH (cp.below a5);have bg:=LH (cq.below a5);clear cf cp cq a5 y0 y1 y2 P y5 ce;generalize W5.alloc (.cells #[.slice F C J,.slice H D L,.slice I E M,.int .i64 (Zi G).start] 26)=l at *;generalize W5.heap.size=gH at *;have x0:l.cell? ⟨gH,0,none⟩=some (.slice F C J):=W.cell 0;have x1:l.cell? ⟨gH,1,none⟩=some (.slice H D L):=W.cell 1;have x2:l.cell? ⟨gH,2,none⟩=some (.slice I E M):=W.cell 2;have x3:l.cell? ⟨gH,3,none⟩=some (.int .i64 (Zi G).start):=W.cell 3;have xl:=W.lt;have f9:=LH W;have CO:=LH (tr_open ⟨F,C,J,H,D,L,I,E,M⟩ (Zi G) l);clear W;go_upto_region 10 with (first
  | (go_at_call 48
     refine CO.out.mono ?_;rintro e u⟨gc,gt,rfl,hC,gi,gj⟩;have HC:=LH hC;clear hC))
 have gm:=HP.fits.st;have am:=Zy u (.cells #[.pointer (some ⟨gc,0,none⟩),.slice none 0 0] 99);have bq:=Blk.new u 99 #[.pointer (some ⟨gc,0,none⟩),.slice none 0 0];have c5:Me l ⟨gc,gt⟩ ⟨F,C,J,H,D,L,I,E,M⟩ (Zi G) u [] (λq=>q=u.heap.size) none 0 (u.alloc (.cells #[.pointer (some ⟨gc,0,none⟩),.slice none 0 0] 99)) :=
  ⟨(HC.more am (AJ _)).less λb hb => .inr hb,bq,⟨BN _ _ _ _,λg hg=>by cases hg⟩,⟨rfl,λg hg=>by cases hg⟩,λq hq=>by subst hq;exact bq.lt,HC.base.size,AS _⟩
 have cz:BkG l ⟨F,C,J,H,D,L,I,E,M⟩ (Zi G):=⟨d6,d8,by rw[Db];exact Hs,ci.below T,by show C<=100;omega,by show D<=100;omega,by show E<=100;omega⟩;have a7:Zp (-1-(Zi G).start)=(Zi G).start.toNat:=by unfold Zp;omega
 obtain⟨t,ht⟩:=UnT.ex HP _ n.toNat (-1-(Zi G).start) AA (by rw[a7];omega) rfl (val d) fa;have be:Hid (UnT (Zi G) (Zi G).start.toNat n.toNat (val d) t):=LH (by rw[<-a7];exact ht);obtain⟨bm,ft⟩:=Ul d cg ct;have dz:=LH (Zz (T.trans (HC.base.mono T.size)) am);have CT:Calls prog 49 #[.pointer (some ⟨u,0,none⟩),.int .i64 (Zi G).start,.int .i64 n,.slice A d.length c] (u.alloc (.cells #[.pointer (some ⟨gc,0,none⟩),.slice none 0 0] 99)) (MkRet l ⟨gc,gt⟩ ⟨F,C,J,H,D,L,I,E,M⟩ (Zi G) u [] t (u.alloc (.cells #[.pointer (some ⟨gc,0,none⟩),.slice none 0 0] 99))):=by
  have h1:=(Zvi cz HP t.length).1 u [] (-1-(Zi G).start) n.toNat (val d) t A c _ (AJ _) AA (by rw[a7];omega) ht fe AA (by rw[<-bm];exact HR.below dz) ⟨_,_,_,c5⟩;rw[<-bm,show ((Zp (-1-(Zi G).start):Nat):Int)=(Zi G).start by rw[a7];omega,show ((n.toNat:Nat):Int)=n by omega] at h1;exact h1
 have CT:=LH CT;have P:=(HC.base.cell (p:=⟨gH,3,none⟩) xl).trans x3;have yl:=AK xl HC.base.size;have z3:=(am.cell (p:=⟨gH,3,none⟩) yl).trans P;have zl:=AK yl am.size;clear x0 x1 x2 x3 xl P yl bq c5 cz ht am bm ft CO;generalize u.alloc (.cells #[.pointer (some ⟨gc,0,none⟩),.slice none 0 0] 99)=W8 at *;generalize u.heap.size=mk at *;by_cases bw:t.length<=300
 case neg =>
  have a9:Hid (Calls prog 49 #[.pointer (some ⟨mk,0,none⟩),.int .i64 (Zi G).start,.int .i64 n,.slice A d.length c] W8 λe w'=>e = .returned (.bool false)/\Below l l w'):=LH (CT.mono λe w' r=>by
   obtain⟨h1,⟨B,_,_⟩ | ⟨_,B,U⟩⟩:=r
   ·rw[DE] at B;omega
   exact⟨B,U⟩)
  have o:Hid (V9 G n d [] 13):=LH (.inr (.inr (.inr ⟨aw,by rw[z],by rw[z];exact cs,t,be,.inl ⟨AA,rfl,rfl⟩⟩)));clear CT bw;go_wp2_with (first
   | (go_at_call 49
      refine a9.out.mono ?_;rintro e W9⟨rfl,V⟩))
  go_ret2;exact Qp.no (T.trans (V.mono T.size)) o
 have a9:Hid (Calls prog 49 #[.pointer (some ⟨mk,0,none⟩),.int .i64 (Zi G).start,.int .i64 n,.slice A d.length c] W8 λe w'=>e = .returned (.bool true)/\MkAt l ⟨gc,gt⟩ ⟨F,C,J,H,D,L,I,E,M⟩ (Zi G) mk t w'):=LH (CT.mono λe w' r=>by
  obtain⟨h1,⟨_,B,U⟩ | ⟨B,_,_⟩⟩:=r
  ·exact⟨B,U⟩
  rw[DE] at B;omega)
 have co:=LH bw;clear CT bw;go_upto_region 12 with (first
  | (go_at_call 49
     refine a9.out.mono ?_;rintro e W9⟨rfl,c4⟩;have ch:=LH c4;clear c4))
 obtain⟨S9,A9,c9,O⟩:=ch.out;have bz:=be.inside;have d9:=LH bz.2;have fr:0<t.length:=List.length_pos_iff.2 bz.1;obtain⟨f,u9,rfl,fo,_,_,_,_⟩:=Gh O.row.1 fr;have ba:=LH O;have fp:mk≠f:=λe=>by
  obtain⟨_,_,v,hv⟩:=O.row.blk (g:=f) rfl;rw[<-e] at hv;exact absurd (hv.same_ty O.box) AC
 have Z:Hid (W9.ownsRow l 3 1 (.slice (some ⟨f,0,none⟩) t.length c9) t.length (ints .i64 (Bc G t 0))):=O.row.1;have p1:W9.cell? ⟨mk,1,none⟩=some (.slice (some ⟨f,0,none⟩) t.length c9):=O.box.cell 1;have pl:=O.box.lt;clear O bz ch;go_upto_region 13 with fail;go_loopw [69] (λi wr=>∃j:Nat,i = .int .i64 (j:Int)/\j<=t.length/\Hid (wr.ownsRow l 3 1 (.slice (some ⟨f,0,none⟩) t.length c9) t.length (ints .i64 (Bc G t j)))/\Hid (Off (λq=>q=f) W9 wr)) (λi _=>t.length-(intOf i).toNat)
 case atStart=>exact⟨0,rfl,AS _,Z,LH (Off.refl _ _)⟩
 clear Z p1 pl;obtain⟨j,rfl,hj,Z,bh⟩:=hrel;have bt:=bh.blk ba.box fp;have p1:wr.cell? ⟨mk,1,none⟩=some (.slice (some ⟨f,0,none⟩) t.length c9):=bt.cell 1;have pl:=bt.lt;have V:Below l l wr:=ba.bk.base.trans (bh.is_below ba.bk.base.size λq hq=>by subst hq;exact fo);have cj:=LH V;clear bt;by_cases b0:j<t.length
 case neg =>
  obtain rfl:j=t.length:=AA
  clear V;go_wp2_with fail;go_ret2;refine⟨T.trans (cj.mono T.size),t.map (Yr G),0,some ⟨f,0,none⟩,c9,by rw[BI];rfl,?_,.inr (.inr (.inr ⟨aw,by rw[z],by rw[z];exact cs,t,be,.inr ⟨co,rfl,rfl⟩⟩))⟩;have h1:=Yl Z;have e:Bc G t t.length=(t.map (Yr G)).map λi:Nat=>(i:Int):=by unfold Bc;simp
  rw[BI];rw[e] at h1;exact h1
 obtain⟨x,hx⟩:∃x,t[j]? = some x:=⟨_,AM b0⟩;have fu:x<nk:=by
  have k:=d9 x (AN hx);rw[Fu] at k;have h5:=bg.len;unfold Z6 at h5;rw[BI] at h5;omega
 obtain⟨kb,ko,kv,rfl,de,cr,cy⟩:=bg.get fu;obtain rfl:((Yr G x:Nat):Int)=kv:=by
  have k:=cr.out;unfold Z6 at k;rw[BB] at k;unfold Yr;cases h5:(ksN G G.rules.length)[x]? with
  | none=>rw[h5] at k;cases k
  | some y =>
    rw[h5] at k;injection k with k;rw[<-k,AP,h5];rfl
 have k0:=(V.cell (p:=⟨kb,ko+x,none⟩) de).trans cy;have kl:=AK de V.size;obtain⟨fj,v9,eg,_,bn,cu,r0,r1⟩:=Gh Z b0;obtain rfl:f=fj:=by
  injection eg with eg;injection eg
 have fs:v9 = .int .i64 (x:Int):=by
  have k:=cu.out;simp only[ints] at k;rw[BB,rowU_at hx] at k;injection k with k;exact k.symm
 subst fs;have fd:Hid ((Bc G t j).set j ((Yr G x:Nat):Int)=Bc G t (j+1)):=rowU_set hx;have gg:=bg.cap;have gh:=co.out;clear hx cr cy cu eg;go_upto_region 15 with fail;have bc:=Yt wr;refine Yx 10 AB AB ?_;simp only[List.take_succ_cons,List.take_zero,List.drop_succ_cons,Ed];repeat (go_big_quiet_step (fail))
 refine BL ?_;rintro _⟨y,rfl⟩;have an:=Zr wr y;have b5:=B7 Z an;have dk:Off (λq=>q=f) W9 (bl wr y):=bh.trans (Off.of_below (S:=λq=>q=f) an) λ_ _ h=>h;have s0:(bl wr y).cell? ⟨f,j,none⟩=some (.int .i64 (x:Int)):=(an.cell (p:=⟨f,j,none⟩) bn).trans r0;have s1:(bl wr y).frozen? ⟨f,j,none⟩=false:=by
  obtain⟨g8,v8,e8,_,_,_,_,h8⟩:=Gh b5 b0;injection e8 with e8;injection e8 with e8;subst e8;exact h8
 have sl:=AK bn an.size;have HF:Hid (((bl wr y).setCell ⟨f,j,none⟩ (.int .i64 ((Yr G x:Nat):Int))).ownsRow l 3 1 (.slice (some ⟨f,0,none⟩) t.length c9) t.length (ints .i64 (Bc G t (j+1)))):=LH (by
  have k:=Lt b5 j (.int .i64 ((Yr G x:Nat):Int));rw[<-fd];have e4:ints .i64 ((Bc G t j).set j ((Yr G x:Nat):Int))=(ints .i64 (Bc G t j)).set j (.int .i64 ((Yr G x:Nat):Int)):=by simp[ints,List.map_set]
  rw[e4];exact k)
 have HO:Hid (Off (λq=>q=f) W9 ((bl wr y).setCell ⟨f,j,none⟩ (.int .i64 ((Yr G x:Nat):Int)))):=dk.trans (Off.of_set _ f j _) λ_ _ h=>h;clear b5 dk an bc r0 r1 bn k0 kl p1 pl V cj;generalize bl wr y=WZ at *;go_wp2_with fail;go_roundw
 case rel=>exact⟨j+1,AF,AA,HF,HO⟩
 simp[intOf] <;> omega
section
open Go.RowKit Go.Shelf
attribute [local go_sem] Oper.semAt_some
open Go.RowKit Go.Shelf
open Go.RowKit Go.Shelf
attribute [local go_sem] Oper.semAt_some
theorem Zri(h:GH)(G:Gr)(n:Int)(A:Option Addr)(m c:Nat)(b:List Nat)(w:World)(hg:Yf w h G)(hs:∀t∈G.terms,t.name.size<=maxLen)(Z:Q2 w)(h1:h.n1<=100)(h2:h.n2<=100)(h3:h.n3<=100)(hw:Zq .u32 w A m c b)(lw:Lim b):
 Calls prog 9 #[GV h G.start,.int .i64 n,.slice A m c] w (Zrm G n b w):=by
 obtain⟨a1,n1,c1,a2,n2,c2,a3,n3,c3⟩:=h;simp only[] at h1 h2 h3;have T:=LH hg;have U:=LH hs;have R:=LH Z;have HW:=LH hw;have HL:=LH lw;have X:=Zy w (.cells #[.slice a1 n1 c1,.slice a2 n2 c2,.slice a3 n3 c3,.int .i64 G.start] 26);have L:=Y1.new w 26 ⟨a1,n1,c1,a2,n2,c2,a3,n3,c3⟩ G.start;go_enter func9,ntmps9;have⟨z5,z0,z1,z2,z3⟩:=L;simp only[] at z0 z1 z2 z3;go_upto_region 1 with fail;generalize w.alloc (.cells #[.slice a1 n1 c1,.slice a2 n2 c2,.slice a3 n3 c3,.int .i64 G.start] 26)=W0 at *;have C:=LH X;have au:=LH L;have q:=Zus ⟨a1,n1,c1,a2,n2,c2,a3,n3,c3⟩ G n W0 (T.below C) U (R.below C) (by simp only[];omega) (by simp only[];omega) (by simp only[];omega);have M:=Kg G n;obtain⟨E,N⟩:∃E,Z2 G n=E:=⟨_,rfl⟩;obtain⟨j,g⟩:=E;rw[N] at q M;have q:=LH q;have a:=LH N;have S:=LH M;go_upto_region 2 with (go_at_call 22;refine q.out.mono ?_;rintro e W3⟨A3,az,rfl,ae,H⟩);have s:=LH (Zz C H);have ap:=LH ae;have x:=au.below H;by_cases d:g=0
 case neg =>
  have ag:((g:Int) != 0)=true:=by rw[BK];omega
  have f:Hid (L3 G n b [] 0 g):=LH (.inl ⟨by rw[a];exact d,rfl,rfl,by rw[a]⟩);go_wp2_with fail;go_ret3
  exact Zrm.no s f
 subst d;by_cases z:j=[]
 case pos =>
  subst z;have f:Hid (L3 G n b [] 0 9):=LH (.inr (.inl ⟨by rw[a],by rw[a],rfl,rfl,rfl⟩));go_wp2_with fail;go_ret3
  exact Zrm.no s f
 have a9:((j.length:Int)==0)=false:=by
  rw[AQ];have:j.length≠0:=λh=>z (List.length_eq_zero_iff.1 h);omega
 have W:=LH z;have l:=draw_below A3 j.length az j A m c b W3 ap (HW.below s) S.1 HL;unfold RetDraw at l;have y:Lim (X5 j b).1:=by
  rcases Zr0 j b S.1 with ⟨e,_,h⟩ | ⟨t,k,h,_⟩
  ·rw[h];exact Lim.nil
  rw[h];exact Z9 t
 obtain⟨D,J⟩:∃D,X5 j b=D:=⟨_,rfl⟩;obtain⟨xs,u,F⟩:=D;rw[J] at l y;simp only[] at l y;have l:=LH l;have r:=LH J;have av:=LH y;go_upto_region 7 with (go_at_call 23;refine l.out.mono ?_;rintro e W4⟨A4,c4,rfl,af,I⟩);have v:=LH (Zz s I);have aq:=LH af;have x:=x.below I;by_cases d:F=0
 case neg =>
  have ag:((F:Int) != 0)=true:=by rw[BK];omega
  have f:Hid (L3 G n b [] 0 F):=LH (.inr (.inr (.inl ⟨by rw[a],by rw[a];exact W,by rw[a];simp only[];rw[r];exact d,rfl,rfl,by rw[a];simp only[];rw[r]⟩)));go_wp2_with fail;go_ret3
  exact Zrm.no v f
 subst d;have⟨z5,z0,z1,z2,z3⟩:=x;simp only[] at z0 z1 z2 z3;have O:=LH (Ki ⟨a1,n1,c1,a2,n2,c2,a3,n3,c3⟩ G n A4 c4 xs W4 (T.below v) U (R.below v) (by simp only[];omega) (by simp only[];omega) (by simp only[];omega) aq av);go_upto_region 10 with (go_at_call 24;refine O.out.mono ?_;rintro e W5⟨ab,B,p,A5,c5,rfl,Y,hU⟩);have P:=LH (Zz v ab);have an:=LH Y;have V:Hid (∀k g o,((p≠0/\o=[]/\k=0/\g=p)\/(p=0/\o=B/\k=u/\g=0))->L3 G n b o k g):=LH λk g o hh =>
  .inr (.inr (.inr ⟨by rw[a],by rw[a];exact W,by rw[a];simp only[];rw[r],B,p,by rw[a];simp only[];rw[r];exact hU,by rw[a];simp only[];rw[r];exact hh⟩))
 by_cases d:p=0
 case neg =>
  have ag:((p:Int) != 0)=true:=by rw[BK];omega
  have f:Hid (L3 G n b [] 0 p):=V _ _ _ (.inl ⟨d,rfl,rfl,rfl⟩);go_wp2_with fail;go_ret3
  exact Zrm.no P f
 subst d;have f:Hid (L3 G n b B u 0):=V _ _ _ (.inr ⟨rfl,rfl,rfl,rfl⟩);go_wp2_with fail;go_ret3
 exact⟨P,B,u,0,A5,c5,rfl,an,f⟩
end
theorem Zqn(h:GH)(G:Gr)(n k:Int)(A:Option Addr)(m c:Nat)(b:List Nat)(w:World)(hg:Yf w h G)(hs:∀t∈G.terms,t.name.size<=maxLen)(ai:Q2 w)(h1:h.n1<=100)(h2:h.n2<=100)(h3:h.n3<=100)(N:Zq .u32 w A m c b)(lw:Lim b):
 Calls prog 12 #[GV h G.start,.int .i64 n,.int .i64 k,.slice A m c] w (RetSom G n k b w):=by
 obtain⟨a1,n1,c1,a2,n2,c2,a3,n3,c3⟩:=h;simp only[] at h1 h2 h3;have am:=N.len;have b0:=N.cap;have Hg:=LH hg;have Hs:=LH hs;have a8:=LH ai;have HW:=LH N;have HL:=LH lw;have ae:=Zy w (.cells #[.slice a1 n1 c1,.slice a2 n2 c2,.slice a3 n3 c3,.int .i64 G.start] 26);have ak:=Y1.new w 26 ⟨a1,n1,c1,a2,n2,c2,a3,n3,c3⟩ G.start;have bf:=LH am;go_enter func12,ntmps12;go_upto_region 1 with fail;generalize w.alloc (.cells #[.slice a1 n1 c1,.slice a2 n2 c2,.slice a3 n3 c3,.int .i64 G.start] 26)=y at *;have f:=LH ae;have ba:=LH ak;by_cases bp:k<0
 case pos =>
  have o:Hid (Zro G n k b [] 0 1):=LH (.inl ⟨.inl bp,rfl,rfl,rfl⟩);go_wp2_with fail;go_ret3
  exact⟨f,[],0,1,none,0,rfl,Zrn.nil _,o⟩
 by_cases bq:500<k
 case pos =>
  have o:Hid (Zro G n k b [] 0 1):=LH (.inl ⟨.inr bq,rfl,rfl,rfl⟩);go_wp2_with fail;go_ret3
  exact⟨f,[],0,1,none,0,rfl,Zrn.nil _,o⟩
 obtain⟨K,rfl⟩:∃K:Nat,k=(K:Int):=⟨k.toNat,AA⟩;have Hk:Hid (¬((K:Int)<0\/500<(K:Int))):=LH AA;have ad:Hid ((K:Int).toNat=K):=DC K;have bc:=LH Tryz.infoIntS;have bw:Hid (∃At q p,Zq .u32 y At q p b/\(.slice A m c:Value) = .slice At q p/\q=m-0):=LH ⟨A,m,c,HW.below f,rfl,rfl⟩;go_wp2_with fail;go_loopw [11,12,24] (λlv tv i wr=>∃(j:Nat) (l:List (List Nat)) (a q:Nat) (B:Option Addr) (D:Nat) (V:List Value) (At:Option Addr) (p:Nat),j<=K/\i = .int .i64 (j:Int)/\lv = .slice B j D/\tv = .slice At q p/\Hid (Zrk wr y B j D V l)/\Hid (SomGo G n b j l a)/\Hid (a+q=m)/\Hid (Zq .u32 wr At q p (b.drop a))/\Hid (Below y y wr)) (λ_ _ i _=>K+1-(intOf i).toNat)
 case atStart=>exact⟨0,[],0,m,none,0,[],A,c,AS _,rfl,rfl,rfl,LH (Zrk.start _ _),LH .nil,LH (BF _),LH (HW.below f),LH (AL _ _)⟩
 obtain⟨j,l,a,q,B,D,V,At,p,hj,rfl,rfl,rfl,Y,H,I,Z,C⟩:=hrel;by_cases bn:j<K
 case neg =>
  obtain rfl:K=j:=AA
  have T:¬((K:Int)<(K:Int)):=AA
  have b3:wrap64 ((m:Int)-(q:Int))=(a:Int):=by have:=I.out;unfold wrap64;omega
  have o:Hid (Zro G n (K:Int) b l a 0):=LH (.inr (.inl ⟨Hk,by rw[ad];exact H,rfl⟩));have bg:=LH Y.read;have be:=LH H.len;have F:=LH (Zz f C);go_wp2_with fail;go_ret3
  have br:=be.out;subst br;exact⟨F,l,a,0,B,D,by first | rfl | (rw[show ((m:Int)-(q:Int))=(a:Int) by have:=I.out;omega];rfl),bg,o⟩
 have bz:((j:Nat):Int)<(K:Int):=AA
 have F:=LH (Zz f C);have⟨y5,y0,y1,y2,y3⟩:=ba.below C;simp only[] at y0 y1 y2 y3;have CD:=LH (Zri ⟨a1,n1,c1,a2,n2,c2,a3,n3,c3⟩ G n At q p (b.drop a) wr (Hg.below F) Hs (a8.below F) (by simp only[];omega) (by simp only[];omega) (by simp only[];omega) Z (λx hx=>HL x (List.mem_of_mem_drop hx)));go_upto_region 8 with (go_at_call 9;refine CD.out.mono ?_;rintro e r⟨L,d,u,J,s,z,rfl,af,ag⟩);have O:=LH (C.trans (L.mono C.size));have az:=LH (Y.below L);have a4:=LH (Z.below L);have aw:=LH af;have P:=LH ag;by_cases S:J=0
 case neg =>
  have b1:((J:Int) != 0)=true:=by rw[BK];omega
  have o:Hid (Zro G n (K:Int) b [] 0 J):=LH (.inr (.inr ⟨Hk,rfl,rfl,j,l,a,d,u,by rw[ad];exact bn,H,P,S⟩));go_wp2_with fail;go_ret3
  exact⟨Zz f O,[],0,J,none,0,rfl,Zrn.nil _,o⟩
 subst S;have U:u<=q:=by have h1:=P.used;rw[BT] at h1;have:=I.out;have:=bf.out;omega
 obtain⟨ar,b2,ah⟩:=Zqz a4 U;have a5:=LH ah;have a9:Hid ((a+u)+(q-u)=m):=LH (by have:=I.out;omega);have av:=LH (H.step P);go_upto_region 10 with fail;have E:=(AL r r).drew.alloc (AJ _) (.cells #[.slice s d.length z] 30);have bd:Hid ((r.drew.alloc (.cells #[.slice s d.length z] 30)).cell? ⟨r,0,none⟩=some (.slice s d.length z)):=LH ((Blk.new r.drew 30 #[.slice s d.length z]).cell 0);have v:=LH (az.below E);have a7:=LH (a5.below E);have ax:=LH (aw.below E);have W:=LH (O.trans (E.mono O.size));have aj:y.heap.size<=(r.drew.alloc (.cells #[.slice s d.length z] 30)).heap.size:=W.size;have bi:=LH v.vals;go_region_law (first
  | (refine step_appendV rfl _ _ 38 rfl y 30 _ 24 underlying38 bc AC (by intro u U k x R;subst R;simp[Value.cells] at U) B j D V (by simp[Act.eval,Act.put]) (by exact v.own) (by exact v.noInt) bi ⟨r,0,none⟩ 1 (.slice s d.length z) (by simp[Act.eval,Act.put]) (by exact bd) rfl (by intro k x R;cases R) AA AA (by exact aj) ?_;intro A6 c6 w6 ho M ha T
     have a0:=LH (v.snoc ax ho M T);have X:=Zf.of_off (Off.of_grown M) λg hq=>v.noInt g hq;have a6:=LH (a7.kept X);have au:=LH (W.trans ((Off.of_grown M).is_below aj λk hk=>(v.own.lt k hk).1))))
 all_goals
  go_wp2_with fail;go_roundw
  case rel=>exact⟨j+1,l++[d],a+u,q-u,A6,c6,_,ar,_,AA,AF,rfl,rfl,a0,av,a9,by rw[<-List.drop_drop];exact a6,au⟩
  simp[intOf] <;> omega
theorem Zqu:Alive24:=by
 intro w ag;have kc:=λ(w:World) (C:Array Value) (n c:Nat)=>Lib.run_convert_bytes_const (P:=prog) w 57 5 C n c underlying57 underlying5;have HT:=LH ag;go_enter func7,ntmps7;go_wp2_with fail;have af:Zq .u8 (w.alloc (.cells #[.int .u8 37,.int .u8 37,.int .u8 32,.int .u8 115,.int .u8 32,.int .u8 58,.int .u8 32,.int .u8 115,.int .u8 32,.int .u8 115,.int .u8 32,.int .u8 124,.int .u8 32,.int .u8 39,.int .u8 97,.int .u8 39,.int .u8 32,.int .u8 59] 5 (18,19))) (some ⟨w,0,none⟩) 18 18 Zyh:=markd_sl w 5 (18,19) (nums .u8 Zyh) 18 _ rfl rfl AC;have ad:Below w w (w.alloc (.cells #[.int .u8 37,.int .u8 37,.int .u8 32,.int .u8 115,.int .u8 32,.int .u8 58,.int .u8 32,.int .u8 115,.int .u8 32,.int .u8 115,.int .u8 32,.int .u8 124,.int .u8 32,.int .u8 39,.int .u8 97,.int .u8 39,.int .u8 32,.int .u8 59] 5 (18,19))):=(AL _ _).alloc (AJ _) _;have I:=rf_ReadC _ 18 18 Zyh Xt _ read22A af AC AC;rw[show Xt.start=0 from rfl] at I;try dsimp only at I
 refine I.mono ?_;rintro e u⟨b,rfl,ai,ay,az,a0,_,ab⟩;have ae:=Zz ad ab;have h:Hid (b.n1<=100/\b.n2<=100/\b.n3<=100):=LH ⟨AA,AA,AA⟩;have f:=Zy u (.cells #[.slice b.a1 b.n1 b.c1,.slice b.a2 b.n2 b.c2,.slice b.a3 b.n3 b.c3,.int .i64 0] 26);have aa:Y1 (u.alloc (.cells #[.slice b.a1 b.n1 b.c1,.slice b.a2 b.n2 b.c2,.slice b.a3 b.n3 b.c3,.int .i64 0] 26)) u b 0/\Yf (u.alloc (.cells #[.slice b.a1 b.n1 b.c1,.slice b.a2 b.n2 b.c2,.slice b.a3 b.n3 b.c3,.int .i64 0] 26)) b Xt:=⟨Y1.new u 26 b 0,ai.below f⟩;have U:=LH (Zz ae f);go_upto_region 2 with fail;have s:=LH aa;generalize u.alloc (.cells #[.slice b.a1 b.n1 b.c1,.slice b.a2 b.n2 b.c2,.slice b.a3 b.n3 b.c3,.int .i64 0] 26)=t at *;generalize u.heap.size=gA at *;have D:=LH (HT.below U);have J:Hid (Below t t t):=AL _ _;have⟨y5,y0,y1,y2,y3⟩:=s.1.below J;try simp only[] at y0 y1 y2 y3
 go_wp2_with fail;have f:=Zy t (.cells #[.int .u32 7,.int .u32 6,.int .u32 4,.int .u32 1] 41);have q:Zq .u32 (t.alloc (.cells #[.int .u32 7,.int .u32 6,.int .u32 4,.int .u32 1] 41)) (some ⟨t,0,none⟩) 4 4 [7,6,4,1]:=N6 t 41 (nums .u32 [7,6,4,1]) 4 _ rfl rfl AC;have r:Lim [7,6,4,1]:=limD AC;have d:=Zri b Xt 4 _ 4 4 [7,6,4,1] _ ((s.2.below J).below f) Gp ((D.below J).below f) h.1 h.2.1 h.2.2 q r;rw[show Xt.start=0 from rfl] at d;refine d.mono ?_;rintro e E⟨m,S,k1,H,A1,c1,rfl,o,k⟩;obtain⟨rfl,rfl,rfl⟩:=s24A k;have g:=Zz f m;have L:=LH g;have R1:=LH o;have⟨y5,y0,y1,y2,y3⟩:=s.1.below L;try simp only[] at y0 y1 y2 y3
 go_wp2_with fail;have f:=Zy E (.cells #[.int .u32 4] 41);have q:Zq .u32 (E.alloc (.cells #[.int .u32 4] 41)) (some ⟨E,0,none⟩) 1 1 [4]:=N6 E 41 (nums .u32 [4]) 1 _ rfl rfl AC;have r:Lim [4]:=limD AC;have d:=Zqi b Xt 4 _ 1 [4] _ ((s.2.below L).below f) h.1 h.2.1 h.2.2 q r;rw[show Xt.start=0 from rfl,show ([4]:List Nat).length=1 from rfl] at d;refine d.mono ?_;rintro e F⟨m,S,H,T,c2,rfl,o,k⟩;obtain⟨rfl,rfl⟩:=u24A k;have g:=Zz f m;have ap:=LH g;have z:=LH (Zz L g);have W:=LH o;have⟨y5,y0,y1,y2,y3⟩:=s.1.below z;try simp only[] at y0 y1 y2 y3
 go_wp2_with fail;have f:=Zy F (.cells #[.int .u32 7,.int .u32 6] 41);have q:Zq .u32 (F.alloc (.cells #[.int .u32 7,.int .u32 6] 41)) (some ⟨F,0,none⟩) 2 2 [7,6]:=N6 F 41 (nums .u32 [7,6]) 2 _ rfl rfl AC;have r:Lim [7,6]:=limD AC;have d:=Zri b Xt 4 _ 2 2 [7,6] _ ((s.2.below z).below f) Gp ((D.below z).below f) h.1 h.2.1 h.2.2 q r;rw[show Xt.start=0 from rfl] at d;refine d.mono ?_;rintro e W4⟨m,S,k3,H,A3,c3,rfl,o,k⟩;obtain⟨rfl,rfl,rfl⟩:=s24B k;have g:=Zz f m;have M:=LH g;have A:=LH (Zz z g);have⟨y5,y0,y1,y2,y3⟩:=s.1.below A;try simp only[] at y0 y1 y2 y3
 go_wp2_with fail;have d:=Zri b Xt 0 none 0 0 [] W4 (s.2.below A) Gp (D.below A) h.1 h.2.1 h.2.2 (Zq.nil _ _ _ _ AA) Lim.nil;rw[show Xt.start=0 from rfl] at d;refine d.mono ?_;rintro e G⟨m,S,k4,H,A4,c4,rfl,o,k⟩;obtain⟨rfl,rfl,rfl⟩:=s24C k;have g:=m;have N:=LH g;have B:=LH (Zz A g);have⟨y5,y0,y1,y2,y3⟩:=s.1.below B;try simp only[] at y0 y1 y2 y3
 go_wp2_with fail;have f:=Zy G (.cells #[.int .u32 7,.int .u32 4,.int .u32 0] 41);have q:Zq .u32 (G.alloc (.cells #[.int .u32 7,.int .u32 4,.int .u32 0] 41)) (some ⟨G,0,none⟩) 3 3 [7,4,0]:=N6 G 41 (nums .u32 [7,4,0]) 3 _ rfl rfl AC;have r:Lim [7,4,0]:=limD AC;have d:=Zqn b Xt 4 2 _ 3 3 [7,4,0] _ ((s.2.below B).below f) Gp ((D.below B).below f) h.1 h.2.1 h.2.2 q r;rw[show Xt.start=0 from rfl] at d;refine d.mono ?_;rintro e X⟨m,l,a,H,A5,c5,rfl,o,k⟩;obtain⟨rfl,rfl,rfl⟩:=som24 k;have g:=Zz f m;have O:=LH g;have am:=LH (Zz B g);have R5:=LH o;obtain⟨Z,oL,x,Aj,cj,a5,ah,Hx,R,aj⟩:=R5.get (j:=0) AC;obtain rfl:[0,0,0,1,1,1,1]=x:=by have:=Hx.out;simpa using this
 rw[DO] at R;subst a5;have au:=LH aj;have ar:=LH R;have d:=Mr A1 _ c1 (Zrc [0,0,0,1,1,1,1]) T _ c2 (Zrc [0,0,0,1,1,1,1]) X (R1.below (Zz (Zz (Zz ap M) N) O)) (W.below (Zz (Zz M N) O));rw[beq_self_eq_true,show ([0,0,0,1,1,1,1]:List Nat).length=7 from rfl] at d;have d:=LH d;go_wp2_with fail;refine d.out.mono ?_;rintro e Y⟨rfl,v⟩;have y:=v.below X;have z0:=(y.cell (p:=⟨Z,oL,none⟩) ah).trans ar;have be:Z<Y.heap.size:=AK ah y.size;have V:=LH y;have an:=LH (Zz am y);have d:=Mr Aj _ cj (Zrc [0,0,0,1,1,1,1]) T _ c2 (Zrc [0,0,0,1,1,1,1]) Y (au.below V) (W.below (Zz (Zz (Zz M N) O) V));rw[beq_self_eq_true,show ([0,0,0,1,1,1,1]:List Nat).length=7 from rfl] at d;have d:=LH d;go_wp2_with fail;refine d.out.mono ?_;rintro e W8⟨rfl,v⟩;have ao:=LH (Zz an (v.below _));go_wp2_with fail;go_ret;exact⟨rfl,Zz U ao⟩
