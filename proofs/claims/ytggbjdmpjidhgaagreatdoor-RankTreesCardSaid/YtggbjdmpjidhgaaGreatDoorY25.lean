/- ranks: a teller's forest (walked). -/
import Derived.Test.YtggbjdmpjidhgaaGreatDoorY22
import Derived.Test.YtggbjdmpjidhgaaGreatDoorY23
import Derived.Test.YtggbjdmpjidhgaaGreatDoorY24
set_option linter.all false
set_option maxHeartbeats 1500000
set_option maxRecDepth 100000
namespace Go.Proofs.YtggbjdmpjidhgaaGreatDoor
open Go.RowKit Go.Proofs.Tryz
theorem Zwb{b:World}{k:BkH}{h:GH}{G:Gr}(c:BkG b h G)(d:Xq G):∀m,TT b k h G m/\FT b k h G m
 | 0=>by
   have a:TT b k h G 0:=by
    intro o s n r t z w f h0 j a;obtain⟨i,x,q,l,_,_,_,_,rfl⟩:=a;rw[List.length_cons] at f;omega
   exact⟨a,Zwz c d 0 a⟩
 | m+1=>by
   have g:=Zwb (k:=k) c d m;have a:=tr_ttree c d m g.2;exact⟨a,Zwz c d (m+1) a⟩
theorem Ki(h:GH)(G:Gr)(n:Int)(A:Option Addr)(c:Nat)(d:List Nat)(w:World)(hg:Yf w h G)(hs:∀t∈G.terms,t.name.size<=maxLen)(c8:Q2 w)(h1:h.n1<=100)(B:h.n2<=100)(U:h.n3<=100)(r:Zq .u32 w A d.length c d)(lr:Lim d):
 Calls prog 35 #[GV h G.start,.int .i64 n,.slice A d.length c] w (Qp G n d w):=by
 obtain⟨a1,n1,c1,a2,n2,c2,a3,n3,c3⟩:=h;simp only[] at h1 B U;have Hg:=LH hg;have Hs:=LH hs;have ci:=LH c8;have bp:=Zy w (.cells #[.slice a1 n1 c1,.slice a2 n2 c2,.slice a3 n3 c3,.int .i64 G.start] 26);have bs:=Y1.new w 26 ⟨a1,n1,c1,a2,n2,c2,a3,n3,c3⟩ G.start;have HR:=LH r;clear hg hs c8 r;go_enter func35,ntmps35;have⟨z5,z0,z1,z2,z3⟩:=bs;simp only[] at z0 z1 z2 z3;go_upto_region 1 with fail;generalize w.alloc (.cells #[.slice a1 n1 c1,.slice a2 n2 c2,.slice a3 n3 c3,.int .i64 G.start] 26)=W0 at *;have N:=LH (J4 ⟨a1,n1,c1,a2,n2,c2,a3,n3,c3⟩ G W0 (Hg.below bp) Hs (by simp only[];omega) (by simp only[];omega));have Y:=LH bp;have cl:=LH bs;have cg:=LH lr;clear bp bs lr;cases r:G.right
 case false =>
  have o:Hid (V9 G n d [] 1):=LH (.inl ⟨.inl r,rfl,rfl⟩);rw[r] at N;go_wp2_with (go_at_call 56;refine N.out.mono ?_;rintro e w6⟨rfl,m⟩);go_ret2;exact Qp.no (Zz Y m) o
 rw[r] at N;by_cases dg:n<0
 case pos =>
  have o:Hid (V9 G n d [] 1):=LH (.inl ⟨.inr (.inl dg),rfl,rfl⟩);go_wp2_with (go_at_call 56;refine N.out.mono ?_;rintro e w6⟨rfl,m⟩);go_ret2;exact Qp.no (Zz Y m) o
 by_cases dh:10<n
 case pos =>
  have o:Hid (V9 G n d [] 1):=LH (.inl ⟨.inr (.inr (.inl dh)),rfl,rfl⟩);go_wp2_with (go_at_call 56;refine N.out.mono ?_;rintro e w6⟨rfl,m⟩);go_ret2;exact Qp.no (Zz Y m) o
 have CR:Hid (∀X,Below W0 W0 X->Calls prog 75 #[.slice A d.length c] X λe w'=>e = .returned (.bool (Zm d))/\X=w'):=LH λX hX=>Zb _ _ _ _ _ ((HR.below Y).below hX);cases ag:Zm d
 case false =>
  have o:Hid (V9 G n d [] 1):=LH (.inl ⟨.inr (.inr (.inr ag)),rfl,rfl⟩);rw[ag] at CR;go_wp2_with (first
   | (go_at_call 56;refine N.out.mono ?_;rintro e w6⟨rfl,m⟩)
   | (go_at_call 75;refine (CR.out _ m).mono ?_;rintro e w7⟨rfl,rfl⟩))
  go_ret2;exact Qp.no (Zz Y m) o
 rw[ag] at CR;have aw:Hid (¬badU G n d):=LH (by
  rintro (h | h | h | h)
  ·rw[r] at h;cases h
  ·exact dg h
  ·exact dh h
  rw[ag] at h;cases h)
 have Hr:=LH r;have ct:=LH ag;clear r ag;go_upto_region 3 with (first
  | (go_at_call 56;refine N.out.mono ?_;rintro e w6⟨rfl,m⟩)
  | (go_at_call 75;refine (CR.out _ m).mono ?_;rintro e w7⟨rfl,rfl⟩))
 have a4:=Zz Y m;have CC:=Zus ⟨a1,n1,c1,a2,n2,c2,a3,n3,c3⟩ G n w6 (Hg.below a4) Hs (ci.below a4) h1 B U;obtain⟨y5,y0,y1,y2,P⟩:=cl.below m;simp only[] at y0 y1 y2 P;clear z0 z1 z2 z3 z5;have bu:=Kg G n;obtain⟨cn,bv⟩:∃cn,Z2 G n=cn:=⟨_,rfl⟩;obtain⟨s,er⟩:=cn;rw[bv] at CC bu;have CC:=LH CC;have z:=LH bv;have cm:=LH bu;have dy:=LH a4;clear bv bu N CR a4;go_upto_region 4 with (first
  | (go_at_call 19
     refine CC.out.mono ?_;rintro e W3⟨A3,fh,rfl,di,br⟩))
 have au:=LH (Zz dy br);have d4:=LH di;have d7:=LH ((cl.below m).below br);clear di br CC y0 y1 y2 P y5 m;by_cases a6:er=0
 case neg =>
  have gl:((er:Int) != 0)=true:=by rw[BM];omega
  have o:Hid (V9 G n d [] er):=LH (.inr (.inl ⟨aw,by rw[z];exact a6,rfl,by rw[z]⟩));clear a6;go_wp2_with fail;go_ret2;exact Qp.no au o
 subst a6;have dq:Zm s=true:=cm.2 rfl;have R:=Zym A d.length c d A3 s.length fh s W3 (HR.below au) d4 cg cm.1;have db:Vq d s=Vm (val d) (val s):=by
  unfold Vq;rw[ct,dq];rfl
 rw[db] at R;unfold Quiet at R;have R:=LH R;clear dq db;by_cases bx:val s<=val d
 case pos =>
  have hc:(0:Int)<=Vm (val d) (val s):=by
   have:=mt (Q5 (a:=val d) (b:=val s)).1 AA;omega
  have o:Hid (V9 G n d [] 11):=LH (.inr (.inr (.inl ⟨aw,by rw[z],by rw[z];exact bx,rfl,rfl⟩)));clear bx;go_wp2_with (first
   | (go_at_call 76
      refine R.out.mono ?_;rintro e W4⟨rfl,al⟩;have av:=LH (Zz au (al.below _))))
  go_ret2;exact Qp.no av o
 have hc:¬(0:Int)<=Vm (val d) (val s):=by
  have:=(Q5 (a:=val d) (b:=val s)).2 AA;omega
 have fq:=Bb Hr ⟨AA,AA⟩ (by rw[z]) (by rw[z];show 0<val s;omega);obtain⟨dl,c7,hP,dn,b7,_⟩:=fq;rw[z] at b7;have df:val d<Zv (Zi G) (-1-(Zi G).start) n.toNat:=by
  have h9:val s=_:=b7;omega
 have fa:=LH df;have cs:Hid (val d<val s):=LH AA;have d6:=LH c7;have HP:=LH hP;have fe:=LH dn;have fb:=LH dl;clear df c7 hP dn b7 dl bx;go_upto_region 8 with (first
  | (go_at_call 76
     refine R.out.mono ?_;rintro e W4⟨rfl,al⟩;have av:=LH (Zz au (al.below _));obtain⟨y5,y0,y1,y2,P⟩:=d7.below (al.below _);simp only[] at y0 y1 y2 P))
 have cR:=Cz ⟨a1,n1,c1,a2,n2,c2,a3,n3,c3⟩ G W4 (Hg.below av) Hs h1 B U;have ce:=LH cR;clear cR R al;go_upto_region 9 with (first
  | (go_at_call 57
     refine ce.out.mono ?_;rintro e W5⟨da,⟨dj,er,a6,rfl⟩ | ⟨_,⟨F,C,J,H,D,L,I,E,M⟩,Ak,nk,ck,rfl,dc,m1,m2,m3,dd⟩⟩
     ·rw[fb] at dj;cases dj
     have cf:=LH (Zz av da);have cp:=LH dc;have cq:=LH dd;clear da dc dd))
 have m1:C<=24:=m1;have m2:D<=16:=m2;have m3:E<=40:=m3;have a5:=Zy W5 (.cells #[.slice F C J,.slice H D L,.slice I E M,.int .i64 (Zi G).start] 26);have W:=Blk.new W5 26 #[.slice F C J,.slice H D L,.slice I E M,.int .i64 (Zi G).start];have T:=LH (Zz cf a5);have d8:=LH (cp.below a5);have bg:=LH (cq.below a5);clear cf cp cq a5 y0 y1 y2 P y5 ce;generalize W5.alloc (.cells #[.slice F C J,.slice H D L,.slice I E M,.int .i64 (Zi G).start] 26)=l at *;generalize W5.heap.size=gH at *;have x0:l.cell? ⟨gH,0,none⟩=some (.slice F C J):=W.cell 0;have x1:l.cell? ⟨gH,1,none⟩=some (.slice H D L):=W.cell 1;have x2:l.cell? ⟨gH,2,none⟩=some (.slice I E M):=W.cell 2;have x3:l.cell? ⟨gH,3,none⟩=some (.int .i64 (Zi G).start):=W.cell 3;have xl:=W.lt;have f9:=LH W;have CO:=LH (tr_open ⟨F,C,J,H,D,L,I,E,M⟩ (Zi G) l);clear W;go_upto_region 10 with (first
  | (go_at_call 72
     refine CO.out.mono ?_;rintro e u⟨gc,gt,rfl,hC,gi,gj⟩;have HC:=LH hC;clear hC))
 have gm:=HP.fits.st;have am:=Zy u (.cells #[.pointer (some ⟨gc,0,none⟩),.slice none 0 0] 116);have bq:=Blk.new u 116 #[.pointer (some ⟨gc,0,none⟩),.slice none 0 0];have c5:Me l ⟨gc,gt⟩ ⟨F,C,J,H,D,L,I,E,M⟩ (Zi G) u [] (λq=>q=u.heap.size) none 0 (u.alloc (.cells #[.pointer (some ⟨gc,0,none⟩),.slice none 0 0] 116)) :=
  ⟨(HC.more am (AJ _)).less λb hb => .inr hb,bq,⟨BJ _ _ _ _,λg hg=>by cases hg⟩,⟨rfl,λg hg=>by cases hg⟩,λq hq=>by subst hq;exact bq.lt,HC.base.size,AV _⟩
 have cz:BkG l ⟨F,C,J,H,D,L,I,E,M⟩ (Zi G):=⟨d6,d8,by rw[Db];exact Hs,ci.below T,by show C<=100;omega,by show D<=100;omega,by show E<=100;omega⟩;have a7:Zp (-1-(Zi G).start)=(Zi G).start.toNat:=by unfold Zp;omega
 obtain⟨t,ht⟩:=UnT.ex HP _ n.toNat (-1-(Zi G).start) AA (by rw[a7];omega) rfl (val d) fa;have be:Hid (UnT (Zi G) (Zi G).start.toNat n.toNat (val d) t):=LH (by rw[<-a7];exact ht);obtain⟨bm,ft⟩:=Ul d cg ct;have dz:=LH (Zz (T.trans (HC.base.mono T.size)) am);have CT:Calls prog 77 #[.pointer (some ⟨u,0,none⟩),.int .i64 (Zi G).start,.int .i64 n,.slice A d.length c] (u.alloc (.cells #[.pointer (some ⟨gc,0,none⟩),.slice none 0 0] 116)) (MkRet l ⟨gc,gt⟩ ⟨F,C,J,H,D,L,I,E,M⟩ (Zi G) u [] t (u.alloc (.cells #[.pointer (some ⟨gc,0,none⟩),.slice none 0 0] 116))):=by
  have h1:=(Zvi cz HP t.length).1 u [] (-1-(Zi G).start) n.toNat (val d) t A c _ (AJ _) AA (by rw[a7];omega) ht fe AA (by rw[<-bm];exact HR.below dz) ⟨_,_,_,c5⟩;rw[<-bm,show ((Zp (-1-(Zi G).start):Nat):Int)=(Zi G).start by rw[a7];omega,show ((n.toNat:Nat):Int)=n by omega] at h1;exact h1
 have CT:=LH CT;have P:=(HC.base.cell (p:=⟨gH,3,none⟩) xl).trans x3;have yl:=AK xl HC.base.size;have z3:=(am.cell (p:=⟨gH,3,none⟩) yl).trans P;have zl:=AK yl am.size;clear x0 x1 x2 x3 xl P yl bq c5 cz ht am bm ft CO;generalize u.alloc (.cells #[.pointer (some ⟨gc,0,none⟩),.slice none 0 0] 116)=W8 at *;generalize u.heap.size=mk at *;by_cases bw:t.length<=300
 case neg =>
  have a9:Hid (Calls prog 77 #[.pointer (some ⟨mk,0,none⟩),.int .i64 (Zi G).start,.int .i64 n,.slice A d.length c] W8 λe w'=>e = .returned (.bool false)/\Below l l w'):=LH (CT.mono λe w' r=>by
   obtain⟨h1,⟨B,_,_⟩ | ⟨_,B,U⟩⟩:=r
   ·rw[DR] at B;omega
   exact⟨B,U⟩)
  have o:Hid (V9 G n d [] 13):=LH (.inr (.inr (.inr ⟨aw,by rw[z],by rw[z];exact cs,t,be,.inl ⟨AA,rfl,rfl⟩⟩)));clear CT bw;go_wp2_with (first
   | (go_at_call 77
      refine a9.out.mono ?_;rintro e W9⟨rfl,V⟩))
  go_ret2;exact Qp.no (T.trans (V.mono T.size)) o
 have a9:Hid (Calls prog 77 #[.pointer (some ⟨mk,0,none⟩),.int .i64 (Zi G).start,.int .i64 n,.slice A d.length c] W8 λe w'=>e = .returned (.bool true)/\MkAt l ⟨gc,gt⟩ ⟨F,C,J,H,D,L,I,E,M⟩ (Zi G) mk t w'):=LH (CT.mono λe w' r=>by
  obtain⟨h1,⟨_,B,U⟩ | ⟨B,_,_⟩⟩:=r
  ·exact⟨B,U⟩
  rw[DR] at B;omega)
 have co:=LH bw;clear CT bw;go_upto_region 12 with (first
  | (go_at_call 77
     refine a9.out.mono ?_;rintro e W9⟨rfl,c4⟩;have ch:=LH c4;clear c4))
 obtain⟨S9,A9,c9,O⟩:=ch.out;have bz:=be.inside;have d9:=LH bz.2;have fr:0<t.length:=List.length_pos_iff.2 bz.1;obtain⟨f,u9,rfl,fo,_,_,_,_⟩:=Gh O.row.1 fr;have ba:=LH O;have fp:mk≠f:=λe=>by
  obtain⟨_,_,v,hv⟩:=O.row.blk (g:=f) rfl;rw[<-e] at hv;exact absurd (hv.same_ty O.box) AC
 have Z:Hid (W9.ownsRow l 3 1 (.slice (some ⟨f,0,none⟩) t.length c9) t.length (ints .i64 (Bc G t 0))):=O.row.1;have p1:W9.cell? ⟨mk,1,none⟩=some (.slice (some ⟨f,0,none⟩) t.length c9):=O.box.cell 1;have pl:=O.box.lt;clear O bz ch;go_upto_region 13 with fail;go_loopw [69] (λi wr=>∃j:Nat,i = .int .i64 (j:Int)/\j<=t.length/\Hid (wr.ownsRow l 3 1 (.slice (some ⟨f,0,none⟩) t.length c9) t.length (ints .i64 (Bc G t j)))/\Hid (Off (λq=>q=f) W9 wr)) (λi _=>t.length-(intOf i).toNat)
 case atStart=>exact⟨0,rfl,AV _,Z,LH (Off.refl _ _)⟩
 clear Z p1 pl;obtain⟨j,rfl,hj,Z,bh⟩:=hrel;have bt:=bh.blk ba.box fp;have p1:wr.cell? ⟨mk,1,none⟩=some (.slice (some ⟨f,0,none⟩) t.length c9):=bt.cell 1;have pl:=bt.lt;have V:Below l l wr:=ba.bk.base.trans (bh.is_below ba.bk.base.size λq hq=>by subst hq;exact fo);have cj:=LH V;clear bt;by_cases b0:j<t.length
 case neg =>
  obtain rfl:j=t.length:=AA
  clear V;go_wp2_with fail;go_ret2;refine⟨T.trans (cj.mono T.size),t.map (Yr G),0,some ⟨f,0,none⟩,c9,by rw[BF];rfl,?_,.inr (.inr (.inr ⟨aw,by rw[z],by rw[z];exact cs,t,be,.inr ⟨co,rfl,rfl⟩⟩))⟩;have h1:=Yl Z;have e:Bc G t t.length=(t.map (Yr G)).map λi:Nat=>(i:Int):=by unfold Bc;simp
  rw[BF];rw[e] at h1;exact h1
 obtain⟨x,hx⟩:∃x,t[j]? = some x:=⟨_,AN b0⟩;have fu:x<nk:=by
  have k:=d9 x (AM hx);rw[Fu] at k;have h5:=bg.len;unfold Z6 at h5;rw[BF] at h5;omega
 obtain⟨kb,ko,kv,rfl,de,cr,cy⟩:=bg.get fu;obtain rfl:((Yr G x:Nat):Int)=kv:=by
  have k:=cr.out;unfold Z6 at k;rw[By] at k;unfold Yr;cases h5:(ksN G G.rules.length)[x]? with
  | none=>rw[h5] at k;cases k
  | some y =>
    rw[h5] at k;injection k with k;rw[<-k,AP,h5];rfl
 have k0:=(V.cell (p:=⟨kb,ko+x,none⟩) de).trans cy;have kl:=AK de V.size;obtain⟨fj,v9,eg,_,bn,cu,r0,r1⟩:=Gh Z b0;obtain rfl:f=fj:=by
  injection eg with eg;injection eg
 have fs:v9 = .int .i64 (x:Int):=by
  have k:=cu.out;simp only[ints] at k;rw[By,rowU_at hx] at k;injection k with k;exact k.symm
 subst fs;have fd:Hid ((Bc G t j).set j ((Yr G x:Nat):Int)=Bc G t (j+1)):=rowU_set hx;have gg:=bg.cap;have gh:=co.out;clear hx cr cy cu eg;go_upto_region 15 with fail;have bc:=Yt wr;refine Yx 10 AB AB ?_;simp only[List.take_succ_cons,List.take_zero,List.drop_succ_cons,Ee];repeat (go_big_quiet_step (fail))
 refine BK ?_;rintro _⟨y,rfl⟩;have an:=Zr wr y;have b5:=B7 Z an;have dk:Off (λq=>q=f) W9 (bl wr y):=bh.trans (Off.of_below (S:=λq=>q=f) an) λ_ _ h=>h;have s0:(bl wr y).cell? ⟨f,j,none⟩=some (.int .i64 (x:Int)):=(an.cell (p:=⟨f,j,none⟩) bn).trans r0;have s1:(bl wr y).frozen? ⟨f,j,none⟩=false:=by
  obtain⟨g8,v8,e8,_,_,_,_,h8⟩:=Gh b5 b0;injection e8 with e8;injection e8 with e8;subst e8;exact h8
 have sl:=AK bn an.size;have HF:Hid (((bl wr y).setCell ⟨f,j,none⟩ (.int .i64 ((Yr G x:Nat):Int))).ownsRow l 3 1 (.slice (some ⟨f,0,none⟩) t.length c9) t.length (ints .i64 (Bc G t (j+1)))):=LH (by
  have k:=Lt b5 j (.int .i64 ((Yr G x:Nat):Int));rw[<-fd];have e4:ints .i64 ((Bc G t j).set j ((Yr G x:Nat):Int))=(ints .i64 (Bc G t j)).set j (.int .i64 ((Yr G x:Nat):Int)):=by simp[ints,List.map_set]
  rw[e4];exact k)
 have HO:Hid (Off (λq=>q=f) W9 ((bl wr y).setCell ⟨f,j,none⟩ (.int .i64 ((Yr G x:Nat):Int)))):=dk.trans (Off.of_set _ f j _) λ_ _ h=>h;clear b5 dk an bc r0 r1 bn k0 kl p1 pl V cj;generalize bl wr y=WZ at *;go_wp2_with fail;go_roundw
 case rel=>exact⟨j+1,AF,AA,HF,HO⟩
 simp[intOf] <;> omega
section
open Go.Shelf
theorem Cs(h:GH)(G:Gr)(A:Option Addr)(c:Nat)(t:List Int)(w:World)(hg:Yf w h G)(hs:∀t∈G.terms,t.name.size<=maxLen)(cb:Q2 w)(h1:h.n1<=100)(h2:h.n2<=100)(h3:h.n3<=100)(ht:Za .i64 w A t.length c t)(hl:t.length<=400):
 Calls prog 33 #[GV h G.start,.slice A t.length c] w (Jj G t w):=by
 obtain⟨a1,n1,c1,a2,n2,c2,a3,n3,c3⟩:=h;simp only[] at h1 h2 h3;have Hg:=LH hg;have Y:=LH hs;have bo:=LH cb;have ai:=Zy w (.cells #[.slice a1 n1 c1,.slice a2 n2 c2,.slice a3 n3 c3,.int .i64 G.start] 26);have a0:=Y1.new w 26 ⟨a1,n1,c1,a2,n2,c2,a3,n3,c3⟩ G.start;have HT:=LH ht;have fr:=ht.cap;clear hg hs cb ht;go_enter func33,ntmps33;have⟨z5,z0,z1,z2,z3⟩:=a0;simp only[] at z0 z1 z2 z3;go_upto_region 1 with fail;generalize w.alloc (.cells #[.slice a1 n1 c1,.slice a2 n2 c2,.slice a3 n3 c3,.int .i64 G.start] 26)=o at *;have R:=tr_Word ⟨a1,n1,c1,a2,n2,c2,a3,n3,c3⟩ G A t.length c t o (Hg.below ai) Y (HT.below ai) hl h1 h2 h3;have bi:=LH ai;have bq:=LH a0;clear ai a0;cases D:Xl G t with
 | none =>
   have S:Hid (Calls prog 69 #[GV ⟨a1,n1,c1,a2,n2,c2,a3,n3,c3⟩ G.start,.slice A t.length c] o λe w'=>e = .returned (.tuple #[.slice none 0 0,.int .i64 1])/\Below o o w'):=LH (R.mono λe w' H=>by
    obtain⟨N,⟨_,rfl⟩ | ⟨wd,ps,k,P,c',m,_⟩⟩:=H
    ·exact⟨rfl,N⟩
    rw[D] at m;cases m)
   have J:Hid (Vj G t [] 1):=LH (.inl ⟨D,rfl,rfl⟩);clear R D;go_wp2_with (go_at_call 69;refine S.out.mono ?_;rintro e w6⟨rfl,O⟩);go_ret2;exact Jj.no (Zz bi O) J
 | some q =>
   obtain⟨wd,ps,k⟩:=q;have S:Hid (Calls prog 69 #[GV ⟨a1,n1,c1,a2,n2,c2,a3,n3,c3⟩ G.start,.slice A t.length c] o λe w'=>∃P c',e = .returned (.tuple #[.slice P wd.length c',.int .i64 0])/\Below o o w'/\(wd.length:Int)<=9223372036854775807):=LH (R.mono λe w' H=>by
    obtain⟨N,⟨m,_⟩ | ⟨fe,fc,k',P,c',m,rfl,hi⟩⟩:=H
    ·rw[D] at m;cases m
    rw[D] at m;obtain⟨rfl,rfl,rfl⟩:wd=fe/\ps=fc/\k=k':=by simpa using m
    exact⟨P,c',rfl,N,by have:=hi.cap;omega⟩)
   have M:=LH D;clear R D;go_upto_region 4 with (first
    | (go_at_call 69
       refine S.out.mono ?_;rintro e w6⟨Aw,cw,rfl,O,fy⟩))
   have U:=LH (Zz bi O);have aq:=LH (bq.below O);clear z0 z1 z2 z3 z5 O bq S;by_cases aw:10<wd.length
   case pos =>
    have J:Hid (Vj G t [] 5):=LH (.inr ⟨wd,ps,k,M,.inl ⟨aw,rfl,rfl⟩⟩);have dv:(10:Int)<(wd.length:Int):=AA
    clear aw;go_wp2_with fail;go_ret2;exact Jj.no U J
   have X:Hid (wd.length<=10):=LH AA;have dv:¬(10:Int)<(wd.length:Int):=AA
   have⟨z5,z0,z1,z2,z3⟩:=aq.out;simp only[] at z0 z1 z2 z3;have I:=Zus ⟨a1,n1,c1,a2,n2,c2,a3,n3,c3⟩ G (wd.length:Int) w6 (Hg.below U) Y (bo.below U) h1 h2 h3;have cf:=Kg G (wd.length:Int);obtain⟨cn,a4⟩:∃cn,Z2 G (wd.length:Int)=cn:=⟨_,rfl⟩;obtain⟨zs,er⟩:=cn;rw[a4] at I cf;have I:=LH I;have W:=LH a4;clear a4 cf aw;go_upto_region 7 with (first
    | (go_at_call 19
       refine I.out.mono ?_;rintro e W3⟨A3,fl,rfl,d7,ay⟩))
   have an:=LH (Zz U ay);have br:=LH (aq.below ay);clear d7 ay I z0 z1 z2 z3 z5 aq;by_cases al:er=0
   case neg =>
    have fw:((er:Int) != 0)=true:=by rw[BM];omega
    have J:Hid (Vj G t [] er):=LH (.inr ⟨wd,ps,k,M,.inr (.inl ⟨X,by rw[W];exact al,rfl,by rw[W]⟩)⟩);clear al;go_wp2_with fail;go_ret2;exact Jj.no an J
   subst al;obtain⟨H,fu,u,r,hu,be⟩:=Zxc M;have a8:=Ztb M;obtain⟨b9,hP,cp,dw,dx⟩:=Zzy H X a8 (by rw[W]);have a5:=hu.inside;have a7:u.length=t.length:=by rw[be];simp
   have fx:0<t.length:=by rw[<-a7];exact List.length_pos_iff.2 a5.1
   have HU:=LH hu;have bw:=LH be;have dg:=LH a5.2;have au:=LH a7;have HP:=LH hP;have dc:=LH b9;have dn:=LH cp;have di:=LH a8;clear H a8 b9 hP cp dw dx a5 a7 hu be;have⟨z5,z0,z1,z2,z3⟩:=br.out;simp only[] at z0 z1 z2 z3;have cR:=Cz ⟨a1,n1,c1,a2,n2,c2,a3,n3,c3⟩ G W3 (Hg.below an) Y h1 h2 h3;have bh:=LH cR;clear cR;go_upto_region 10 with (first
    | (go_at_call 57
       refine bh.out.mono ?_;rintro e Z⟨cd,⟨cm,er,al,rfl⟩ | ⟨_,⟨p,f,z,s,g,B,v,l,C⟩,Ak,nk,ck,rfl,ch,m1,m2,m3,cj⟩⟩
       ·rw[di] at cm;cases cm
       have bj:=LH (Zz an cd);have bt:=LH ch;have bu:=LH cj;clear cd ch cj))
   have m1:f<=24:=m1;have m2:g<=16:=m2;have m3:l<=40:=m3;have ak:=Zy Z (.cells #[.slice p f z,.slice s g B,.slice v l C,.int .i64 (Zi G).start] 26);have ce:=Blk.new Z 26 #[.slice p f z,.slice s g B,.slice v l C,.int .i64 (Zi G).start];have ao:=LH (Zz bj ak);have de:=LH (bt.below ak);have dh:=LH (bu.below ak);clear bj bt bu ak z0 z1 z2 z3 z5 bh br;generalize Z.alloc (.cells #[.slice p f z,.slice s g B,.slice v l C,.int .i64 (Zi G).start] 26)=E at *;generalize Z.heap.size=gH at *;have dd:=LH ce;have CL:=LH (Zxu A t.length c t E (HT.below ao) AA);clear ce;go_upto_region 11 with (first
    | (go_at_call 70
       refine CL.out.mono ?_;rintro e W7⟨v7,rfl,a9,b7⟩))
   have bl:=LH b7;have ba:=a9;rcases a9.2 with ⟨_,e0⟩ | ⟨a,y,fm,rfl,ci,dz,fv,d6,dy,d4⟩
   ·omega
   have e7:Du G u 0=t:=by unfold Du;rw[List.take_zero,Ee,DD];exact bw.symm
   have n:Hid (W7.ownsRow E 3 1 (.slice (some ⟨a,0,none⟩) t.length y) t.length (ints .i64 (Du G u 0))):=LH (by rw[e7];exact ba);have fi:Hid (a<W7.heap.size):=LH (ba.lt a rfl).2;have df:=LH ci;clear a9 ba dz d4 e7 b7 CL dy d6 ci;go_upto_region 12 with fail;go_loopw [52] (λi wr=>∃j:Nat,i = .int .i64 (j:Int)/\j<=t.length/\Hid (wr.ownsRow E 3 1 (.slice (some ⟨a,0,none⟩) t.length y) t.length (ints .i64 (Du G u j)))/\Hid (Off (λq=>q=a) W7 wr)) (λi _=>t.length-(intOf i).toNat)
   case atStart=>exact⟨0,rfl,AV _,n,LH (Off.refl _ _)⟩
   clear n;obtain⟨j,rfl,hj,n,bv⟩:=hrel;have V:Hid (Below E E wr):=LH (bl.trans (bv.is_below bl.size λq hq=>by subst hq;exact df));by_cases a6:j<t.length
   case pos =>
    obtain⟨x,hx⟩:∃x,u[j]? = some x:=⟨_,AN (by rw[au];exact a6)⟩;have cq:x<(ksN G G.rules.length).length:=by
     have d:=dg x (AM hx);rw[Fu] at d;exact d
    have T:=tr_Index Ak nk ck (Z6 (ksN G G.rules.length)) ((Yr G x:Nat):Int) wr (dh.below V);rw[idx_kept cq] at T;have T:=LH T;obtain⟨g8,v8,eg,_,gl,Hv,r0,r1⟩:=Gh n a6;obtain rfl:a=g8:=by
     injection eg with eg;injection eg
    have hv:v8 = .int .i64 ((Yr G x:Nat):Int):=by
     have d:=Hv.out;simp only[ints] at d;rw[By,rowK_at hx] at d;injection d with d;exact d.symm
    subst hv;have dm:Hid ((Du G u j).set j (x:Int)=Du G u (j+1)):=rowK_set hx;have HF:Hid ((wr.setCell ⟨a,j,none⟩ (.int .i64 (x:Int))).ownsRow E 3 1 (.slice (some ⟨a,0,none⟩) t.length y) t.length (ints .i64 (Du G u (j+1)))):=LH (by
     have d:=Lt n j (.int .i64 (x:Int));rw[<-dm];have e4:ints .i64 ((Du G u j).set j (x:Int))=(ints .i64 (Du G u j)).set j (.int .i64 (x:Int)):=by simp[ints,List.map_set]
     rw[e4];exact d)
    have HO:Hid (Off (λq=>q=a) W7 (wr.setCell ⟨a,j,none⟩ (.int .i64 (x:Int)))):=bv.trans (Off.of_set _ a j _) λ_ _ h=>h;clear hx Hv eg cq;go_wp2_with (first
     | (go_at_call 71
        refine T.out.mono ?_;rintro e w9⟨rfl,rfl⟩))
    go_roundw
    case rel=>exact⟨j+1,AF,AA,HF,HO⟩
    simp[intOf] <;> omega
   obtain rfl:j=t.length:=AA
   have L:=LH (dd.ext V);have x0:wr.cell? ⟨gH,0,none⟩=some (.slice p f z):=L.cell 0;have x1:wr.cell? ⟨gH,1,none⟩=some (.slice s g B):=L.cell 1;have x2:wr.cell? ⟨gH,2,none⟩=some (.slice v l C):=L.cell 2;have x3:wr.cell? ⟨gH,3,none⟩=some (.int .i64 (Zi G).start):=L.cell 3;have xl:=L.lt;have ap:=LH (ao.trans (V.mono ao.size));have CO:=LH (tr_open ⟨p,f,z,s,g,B,v,l,C⟩ (Zi G) wr);have b6:BkG wr ⟨p,f,z,s,g,B,v,l,C⟩ (Zi G):=⟨dc,de.below V,by rw[Db];exact Y,bo.below ap,by show f<=100;omega,by show g<=100;omega,by show l<=100;omega⟩;have c5:=LH b6;have ez:(u.map λi:Nat=>(i:Int)).length=t.length:=by rw[BF];exact au
   have ek:Du G u t.length=u.map λi:Nat=>(i:Int):=by unfold Du;rw[<-au];simp
   have bc:=Yl n;rw[ek] at bc;have db:=LH bc;have bs:=LH ez;obtain⟨s0,s1,s2⟩:=Fa HP.fits;have dj:=LH s0;have dk:=LH s1;have dl:=LH s2;clear b6 ez ek bc n s0 s1 s2 a6 hj;go_wp2_with fail;refine CO.out.mono ?_;rintro e F⟨gc,gt,rfl,hC,fs,ft⟩;have az:=Zy F (.cells #[.pointer (some ⟨gc,0,none⟩),.slice (some ⟨a,0,none⟩) t.length y] 108);have ax:=Blk.new F 108 #[.pointer (some ⟨gc,0,none⟩),.slice (some ⟨a,0,none⟩) t.length y];have cc:Cc wr ⟨gc,gt⟩ ⟨p,f,z,s,g,B,v,l,C⟩ (Zi G) F (u.map λi:Nat=>(i:Int)) (λq=>q=F.heap.size) (some ⟨a,0,none⟩) y (F.alloc (.cells #[.pointer (some ⟨gc,0,none⟩),.slice (some ⟨a,0,none⟩) t.length y] 108)) :=
    ⟨(hC.more az (AJ _)).less λb N => .inr N,by rw[bs];exact ax,by rw[bs];exact (db.below hC.base).below az,rfl,λq hq=>by subst hq;exact ax.lt,hC.base.size⟩
   have CT:=LH ((Zwb c5 HP u.length).1 F (-1-(Zi G).start) wd.length r u [] _ (AJ _) dj dl (by rw[dk];exact HU) dn X ⟨_,_,_,by rw[DH];exact cc⟩);clear hC az ax cc;go_wp2_with (first
    | (go_at_call 73
       refine CT.out.mono ?_;rintro e W9⟨A9,c9,rfl,cl,⟨S9,B9,d9,ca⟩,_⟩;have c8:=LH cl;have c4:=LH (ap.trans (ca.bk.base.mono ap.size));clear cl ca))
   go_ret2;exact⟨c4,limbs r,0,A9,c9,rfl,c8,.inr ⟨wd,ps,k,M,.inr (.inr ⟨X,by rw[W],rfl,u,r,HU,bw,rfl⟩)⟩⟩
theorem Zyk:Alive23:=by
 intro w V;have kc:=λ(w:World) (C:Array Value) (n c:Nat)=>Lib.run_convert_bytes_const (P:=prog) w 72 5 C n c underlying72 underlying5;have HT:=LH V;clear V;go_enter func32,ntmps32;go_wp2_with fail;have U:Zq .u8 (w.alloc (.cells #[.int .u8 37,.int .u8 37,.int .u8 32,.int .u8 115,.int .u8 32,.int .u8 58,.int .u8 32,.int .u8 115,.int .u8 32,.int .u8 115,.int .u8 32,.int .u8 124,.int .u8 32,.int .u8 39,.int .u8 97,.int .u8 39,.int .u8 32,.int .u8 59] 5 (18,19))) (some ⟨w,0,none⟩) 18 18 Zyh:=markd_sl w 5 (18,19) (nums .u8 Zyh) 18 _ rfl rfl AC;have S:Below w w (w.alloc (.cells #[.int .u8 37,.int .u8 37,.int .u8 32,.int .u8 115,.int .u8 32,.int .u8 58,.int .u8 32,.int .u8 115,.int .u8 32,.int .u8 115,.int .u8 32,.int .u8 124,.int .u8 32,.int .u8 39,.int .u8 97,.int .u8 39,.int .u8 32,.int .u8 59] 5 (18,19))):=(AL _ _).alloc (AJ _) _;have H:=rf_ReadC _ 18 18 Zyh Xt _ read22A U AC AC;rw[show Xt.start=0 from rfl] at H;try dsimp only at H
 refine H.mono ?_;rintro e p⟨a,rfl,W,am,an,ao,_,R⟩;have T:=Zz S R;clear H U S R;have h:Hid (a.n1<=100/\a.n2<=100/\a.n3<=100):=LH ⟨AA,AA,AA⟩;have b:=Zy p (.cells #[.slice a.a1 a.n1 a.c1,.slice a.a2 a.n2 a.c2,.slice a.a3 a.n3 a.c3,.int .i64 0] 26);have O:Y1 (p.alloc (.cells #[.slice a.a1 a.n1 a.c1,.slice a.a2 a.n2 a.c2,.slice a.a3 a.n3 a.c3,.int .i64 0] 26)) p a 0/\Yf (p.alloc (.cells #[.slice a.a1 a.n1 a.c1,.slice a.a2 a.n2 a.c2,.slice a.a3 a.n3 a.c3,.int .i64 0] 26)) a Xt:=⟨Y1.new p 26 a 0,W.below b⟩;have J:=LH (Zz T b);clear T W am an ao b;go_upto_region 2 with fail;have m:=LH O;clear O;generalize p.alloc (.cells #[.slice a.a1 a.n1 a.c1,.slice a.a2 a.n2 a.c2,.slice a.a3 a.n3 a.c3,.int .i64 0] 26)=x at *;generalize p.heap.size=gA at *;have r:=LH (HT.below J);have s:Hid (Below x x x):=AL _ _;have⟨y5,y0,y1,y2,y3⟩:=m.1.below s;try simp only[] at y0 y1 y2 y3
 go_wp2_with fail;have d:=Ki a Xt 3 none 0 [] x (m.2.below s) Gp (r.below s) h.1 h.2.1 h.2.2 (Zq.nil _ _ _ _ AA) Lim.nil;rw[show Xt.start=0 from rfl,show ([]:List Nat).length=0 from rfl] at d;refine d.mono ?_;rintro e y⟨k,X,G,Y,c1,rfl,l,j⟩;obtain⟨rfl,rfl⟩:=u23A j;have f:=k;have q:=LH f;have q:=LH (Zz s f);have R1:=LH l;clear d k f l j y0 y1 y2 y3 y5;have⟨y5,y0,y1,y2,y3⟩:=m.1.below q;try simp only[] at y0 y1 y2 y3
 go_wp2_with fail;have b:=Zy y (.cells #[.int .u32 1] 49);have g:Zq .u32 (y.alloc (.cells #[.int .u32 1] 49)) (some ⟨y,0,none⟩) 1 1 [1]:=N6 y 49 (nums .u32 [1]) 1 _ rfl rfl AC;have d:=Ki a Xt 3 _ 1 [1] _ ((m.2.below q).below b) Gp ((r.below q).below b) h.1 h.2.1 h.2.2 g (Lim.mk AA Lim.nil);rw[show Xt.start=0 from rfl,show ([1]:List Nat).length=1 from rfl] at d;refine d.mono ?_;rintro e z⟨k,X,G,Z,c2,rfl,l,j⟩;obtain⟨rfl,rfl⟩:=u23B j;have f:=Zz b k;have ag:=LH f;have t:=LH (Zz q f);have R2:=LH l;clear d k f l j y0 y1 y2 y3 y5 b g;have⟨y5,y0,y1,y2,y3⟩:=m.1.below t;try simp only[] at y0 y1 y2 y3
 go_wp2_with fail;have b:=Zy z (.cells #[.int .u32 2] 49);have g:Zq .u32 (z.alloc (.cells #[.int .u32 2] 49)) (some ⟨z,0,none⟩) 1 1 [2]:=N6 z 49 (nums .u32 [2]) 1 _ rfl rfl AC;have d:=Ki a Xt 3 _ 1 [2] _ ((m.2.below t).below b) Gp ((r.below t).below b) h.1 h.2.1 h.2.2 g (Lim.mk AA Lim.nil);rw[show Xt.start=0 from rfl,show ([2]:List Nat).length=1 from rfl] at d;refine d.mono ?_;rintro e A⟨k,X,G,A3,c3,rfl,l,j⟩;obtain⟨rfl,rfl⟩:=u23C j;have f:=Zz b k;have L:=LH f;have u:=LH (Zz t f);clear d k f l j y0 y1 y2 y3 y5 b g;have⟨y5,y0,y1,y2,y3⟩:=m.1.below u;try simp only[] at y0 y1 y2 y3
 go_wp2_with fail;have b:=Zy A (.cells #[.int .i64 0,.int .i64 0,.int .i64 1,.int .i64 1,.int .i64 1] 3);have g:Za .i64 (A.alloc (.cells #[.int .i64 0,.int .i64 0,.int .i64 1,.int .i64 1,.int .i64 1] 3)) (some ⟨A,0,none⟩) 5 5 [0,0,1,1,1]:=N6 A 3 (ints .i64 [0,0,1,1,1]) 5 _ rfl rfl AC;have d:=Cs a Xt _ 5 [0,0,1,1,1] _ ((m.2.below u).below b) Gp ((r.below u).below b) h.1 h.2.1 h.2.2 g AC;rw[show Xt.start=0 from rfl,show ([0,0,1,1,1]:List Int).length=5 from rfl] at d;refine d.mono ?_;rintro e B⟨k,rs,G,A4,c4,rfl,l,j⟩;obtain⟨rfl,rfl⟩:=r23A j;have f:=Zz b k;have M:=LH f;have v:=LH (Zz u f);have R4:=LH l;clear d k f l j y0 y1 y2 y3 y5 b g;have⟨y5,y0,y1,y2,y3⟩:=m.1.below v;try simp only[] at y0 y1 y2 y3
 go_wp2_with fail;have b:=Zy B (.cells #[.int .i64 0] 3);have g:Za .i64 (B.alloc (.cells #[.int .i64 0] 3)) (some ⟨B,0,none⟩) 1 1 [0]:=N6 B 3 (ints .i64 [0]) 1 _ rfl rfl AC;have d:=Cs a Xt _ 1 [0] _ ((m.2.below v).below b) Gp ((r.below v).below b) h.1 h.2.1 h.2.2 g AC;rw[show Xt.start=0 from rfl,show ([0]:List Int).length=1 from rfl] at d;refine d.mono ?_;rintro e D⟨k,rs,G,A5,c5,rfl,l,j⟩;obtain⟨rfl,rfl⟩:=r23B j;have f:=Zz b k;have I:=LH f;have ab:=LH (Zz v f);clear d k f l j y0 y1 y2 y3 y5 b g;go_wp2_with fail;have b:=Zy D (.cells #[.int .i64 0,.int .i64 1,.int .i64 0,.int .i64 1,.int .i64 1] 3);have g:Za .i64 (D.alloc (.cells #[.int .i64 0,.int .i64 1,.int .i64 0,.int .i64 1,.int .i64 1] 3)) (some ⟨D,0,none⟩) 5 5 [0,1,0,1,1]:=N6 D 3 (ints .i64 [0,1,0,1,1]) 5 _ rfl rfl AC;have d:=Mr Y _ c1 [0,1,0,1,1] _ 5 5 [0,1,0,1,1] _ ((R1.below (Zz (Zz (Zz ag L) M) I)).below b) g;rw[show (([0,1,0,1,1]:List Int)==[0,1,0,1,1])=true from rfl] at d;try rw[show ([0,1,0,1,1]:List Nat).length=5 from rfl] at d
 refine d.mono ?_;rintro e E⟨rfl,o⟩;have f:=Zz b (o.below _);have N:=LH f;have ad:=LH (Zz ab f);clear d f g b o;go_wp2_with fail;have b:=Zy E (.cells #[.int .i64 0,.int .i64 0,.int .i64 1,.int .i64 1,.int .i64 1] 3);have g:Za .i64 (E.alloc (.cells #[.int .i64 0,.int .i64 0,.int .i64 1,.int .i64 1,.int .i64 1] 3)) (some ⟨E,0,none⟩) 5 5 [0,0,1,1,1]:=N6 E 3 (ints .i64 [0,0,1,1,1]) 5 _ rfl rfl AC;have d:=Mr Z _ c2 [0,0,1,1,1] _ 5 5 [0,0,1,1,1] _ ((R2.below (Zz (Zz (Zz L M) I) N)).below b) g;rw[show (([0,0,1,1,1]:List Int)==[0,0,1,1,1])=true from rfl] at d;try rw[show ([0,0,1,1,1]:List Nat).length=5 from rfl] at d
 refine d.mono ?_;rintro e F⟨rfl,o⟩;have f:=Zz b (o.below _);have ah:=LH f;have ae:=LH (Zz ad f);clear d f g b o;go_wp2_with fail;have b:=Zy F (.cells #[.int .u32 1] 49);have g:Zq .u32 (F.alloc (.cells #[.int .u32 1] 49)) (some ⟨F,0,none⟩) 1 1 [1]:=N6 F 49 (nums .u32 [1]) 1 _ rfl rfl AC;have d:=Zya A4 _ c4 [1] _ 1 1 [1] _ ((R4.below (Zz (Zz I N) ah)).below b) g;rw[show (([1]:List Nat)==[1])=true from rfl,show ([1]:List Nat).length=1 from rfl] at d;refine d.mono ?_;rintro e W9⟨rfl,o⟩;have af:=LH (Zz ae (Zz b (o.below _)));clear d g b o;go_wp2_with fail;go_ret;exact⟨rfl,Zz J af⟩
end
