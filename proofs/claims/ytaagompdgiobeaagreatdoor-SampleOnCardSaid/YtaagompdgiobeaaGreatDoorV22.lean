/- counts: the reference's Is and Of, walked. -/
import Derived.Test.YtaagompdgiobeaaGreatDoorV19
import Derived.Test.YtaagompdgiobeaaGreatDoorV20
import Derived.Test.YtaagompdgiobeaaGreatDoorV21
set_option linter.all false
set_option maxHeartbeats 1500000
set_option maxRecDepth 100000
namespace Go.Proofs.YtaagompdgiobeaaGreatDoor
open Go.RowKit Go.Proofs.Tryz
theorem stepsSaid:B5:=tr_Steps
section
open Go.Maps (Keyed IsMap Tidy)
theorem Cz(h:GH)(G:Gr)(w:World)(F:Yf w h G)(hs:∀t∈G.terms,t.name.size<=maxLen)(h1:h.n1<=100)(h2:h.n2<=100)(h3:h.n3<=100):
 Calls prog 40 #[GV h G.start] w (Zyo G w):=by
 obtain⟨a1,n1,c1,a2,n2,c2,a3,n3,c3⟩:=h;have e1:G.terms.length=n1:=F.terms.len;have e2:G.nons.length=n2:=F.nons.len;have e3:G.rules.length=n3:=F.rules.len;have k1:=F.terms.cap;have k2:=F.nons.cap;have k3:=F.rules.cap;simp only[] at h1 h2 h3 k1 k2 k3;have Hg:=LH F;have Hs:=LH hs;have h7:=Zy w (.cells #[.slice a1 n1 c1,.slice a2 n2 c2,.slice a3 n3 c3,.int .i64 G.start] 26);have fw:=Y1.new w 26 ⟨a1,n1,c1,a2,n2,c2,a3,n3,c3⟩ G.start;clear F hs;go_enter func40,ntmps40;have⟨z5,z0,z1,z2,z3⟩:=fw;simp only[] at z0 z1 z2 z3;go_upto_region 1 with fail;have fv:=Zy (w.alloc (.cells #[.slice a1 n1 c1,.slice a2 n2 c2,.slice a3 n3 c3,.int .i64 G.start] 26)) (.cells #[.slice none 0 0,.slice none 0 0,.slice none 0 0,.int .i64 0] 26);have fp:=Blk.new (w.alloc (.cells #[.slice a1 n1 c1,.slice a2 n2 c2,.slice a3 n3 c3,.int .i64 G.start] 26)) 26 #[.slice none 0 0,.slice none 0 0,.slice none 0 0,.int .i64 0];have bq:=Zz h7 fv;have fx:=fw.below fv;have kf:(w.alloc (.cells #[.slice a1 n1 c1,.slice a2 n2 c2,.slice a3 n3 c3,.int .i64 G.start] 26)).heap.size=w.heap.size+1:=Zl _ _;generalize (w.alloc (.cells #[.slice a1 n1 c1,.slice a2 n2 c2,.slice a3 n3 c3,.int .i64 G.start] 26)).alloc (.cells #[.slice none 0 0,.slice none 0 0,.slice none 0 0,.int .i64 0] 26)=W1 at *;rw[kf] at fp;clear kf fv fw h7 z0 z1 z2 z3 z5;have jn:Hid (Blk W1 (w.heap.size+1) 26 #[.slice none 0 0,.slice none 0 0,.slice none 0 0,.int .i64 0]):=LH fp;have⟨y5,y0,D,y2,y3⟩:=fx;simp only[] at y0 D y2 y3;go_wp2_with fail;(with_reducible refine (J4 ⟨a1,n1,c1,a2,n2,c2,a3,n3,c3⟩ G W1 (Hg.out.below bq) Hs.out (by simp only[];omega) (by simp only[];omega)).mono ?_);rintro e S⟨rfl,ds⟩;have b9:=Zz bq ds;have ju:=fx.below ds;have ap:Blk S (w.heap.size+1) 26 #[.slice none 0 0,.slice none 0 0,.slice none 0 0,.int .i64 0]:=Blk.ext jn.out ds;clear ds fx bq fp jn y0 D y2 y3 y5;have r0:S.cell? ⟨w.heap.size+1,0,none⟩=some (.slice none 0 0):=ap.cell 0;have r1:S.cell? ⟨w.heap.size+1,1,none⟩=some (.slice none 0 0):=ap.cell 1;have r2:S.cell? ⟨w.heap.size+1,2,none⟩=some (.slice none 0 0):=ap.cell 2;have r3:S.cell? ⟨w.heap.size+1,3,none⟩=some (.int .i64 0):=ap.cell 3;have f0:=ap.frozen 0;have f1:=ap.frozen 1;have f2:=ap.frozen 2;have f3:=ap.frozen 3;have dc:=LH ap;have bt:=LH b9;have d7:=LH ju;clear ap b9 ju;rcases cm:G.right with _ | _
 case false =>
  have b1:Hid (Xp G=false):=LH (by unfold Xp;rw[cm];rfl);clear cm;go_wp2_with fail;refine AW (Yu (p:=2) (u:=3) (v:=4) AB _ _ (w.heap.size+1) 26 #[.slice none 0 0,.slice none 0 0,.slice none 0 0,.int .i64 0] (0,0) _ rfl ((((Blk.set (Blk.set (Blk.set (Blk.set dc.out 0 (.slice none 0 0)) 1 (.slice none 0 0)) 2 (.slice none 0 0)) 3 (.int .i64 0))))) underlying26 rfl AB) rfl ?_;exact⟨Zsh dc.out bt.out (DP _),.inl ⟨b1.out,1,AC,rfl⟩⟩
 have ce:=Gr.fits cm;have di:=LH cm;have ad:=LH ce;have j4:=ce.n1;have md:=ce.n2;have me:=ce.n3;rw[e1] at j4;rw[e2] at md;rw[e3] at me;have⟨y5,y0,D,y2,y3⟩:=d7.out;simp only[] at y0 D y2 y3;have HS:Hid (∀Y,Below S.heap.size S Y->Y.cell? ⟨w.heap.size,0,none⟩=some (.slice a1 n1 c1)/\Y.cell? ⟨w.heap.size,1,none⟩=some (.slice a2 n2 c2)/\Y.cell? ⟨w.heap.size,2,none⟩=some (.slice a3 n3 c3)/\Y.cell? ⟨w.heap.size,3,none⟩=some (.int .i64 G.start)/\Below S.heap.size S Y):=LH λY a=>⟨by rw[a.cell (by exact y5)];exact y0,by rw[a.cell (by exact y5)];exact D,by rw[a.cell (by exact y5)];exact y2,by rw[a.cell (by exact y5)];exact y3,a⟩;have CP:=LH λX (a:Below S.heap.size S X)=>(N4 ⟨a1,n1,c1,a2,n2,c2,a3,n3,c3⟩ G X ((Hg.out.below bt.out).below a) Hs.out (by simp only[];omega) (by simp only[];omega) (by simp only[];omega)).mono λe w' hh=>And.intro (Zz a hh.1) (And.intro (LH hh.1) (hh.2.resolve_left λhc=>by rw[di.out] at hc;cases hc.1).2);have CR:=LH λX (a:Below S.heap.size S X)=>(tr_Reachable ⟨a1,n1,c1,a2,n2,c2,a3,n3,c3⟩ G X ((Hg.out.below bt.out).below a) Hs.out (by simp only[];omega) (by simp only[];omega) (by simp only[];omega)).mono λe w' hh=>And.intro (Zz a hh.1) (And.intro (LH hh.1) (hh.2.resolve_left λhc=>by rw[di.out] at hc;cases hc.1).2);clear cm ce r0 r1 r2 r3 f0 f1 f2 f3;go_upto_region 3 with fail;go_region_held3 (λY=>Y.cell? ⟨w.heap.size,0,none⟩=some (.slice a1 n1 c1)/\Y.cell? ⟨w.heap.size,1,none⟩=some (.slice a2 n2 c2)/\Y.cell? ⟨w.heap.size,2,none⟩=some (.slice a3 n3 c3)/\Y.cell? ⟨w.heap.size,3,none⟩=some (.int .i64 G.start)/\Below S.heap.size S Y)
  ((refine HS.out _ ?_;(repeat (first | assumption | exact AL _ _ | refine Below.drew ?_));done))
  (first
    | (go_at_call 88;with_reducible refine (CP.out _ (by (repeat (first | assumption | exact AL _ _ | refine Below.drew ?_)))).mono ?_;rintro e w7⟨lv,ku,gP,l5,rfl,g6⟩)
    | (go_at_call 89;with_reducible refine (CR.out _ (by (repeat (first | assumption | exact AL _ _ | refine Below.drew ?_)))).mono ?_;rintro e J⟨dn,he,gQ,l6,rfl,g7⟩))
 rename_i lw;clear lw;have g3:Hid (Z8 J gP (Zt G)):=LH (Blk.hidden g6 he);have kp:Hid (Z8 J gQ (Z5 G)):=LH g7;have bc:=LH (Zz bt.out dn);have bz:=LH (d7.out.below dn);have W:Hid (Blk J (w.heap.size+1) 26 #[.slice none 0 0,.slice none 0 0,.slice none 0 0,.int .i64 0]):=LH (Blk.ext dc.out dn);clear lv ku l5 g6 dn he l6 g7 CP CR HS y0 D y2 y3 y5 dc bt d7;have⟨y5,y0,D,y2,y3⟩:=bz.out;simp only[] at y0 D y2 y3;obtain⟨st,ge⟩:∃st:Nat,G.start=(st:Int):=⟨G.start.toNat,by have:=ad.out.st;omega⟩;have mo:st<n2:=by have:=ad.out.st;omega
 have b4:Hid (G.start.toNat=st):=LH AA;have c0:=g3.out.at (i:=st) (by rw[Vx,e2];exact mo);have fa:Hid (Xp G=(Zt G).getD st false):=LH (by unfold Xp;rw[di.out,b4.out];rfl);rw[ge] at y3;have lj:=LH ge;clear ge;generalize kc:(Zt G).getD st false=pv at *;rcases pv with _ | _
 case false =>
  have r0:J.cell? ⟨w.heap.size+1,0,none⟩=some (.slice none 0 0):=W.out.cell 0;have r1:J.cell? ⟨w.heap.size+1,1,none⟩=some (.slice none 0 0):=W.out.cell 1;have r2:J.cell? ⟨w.heap.size+1,2,none⟩=some (.slice none 0 0):=W.out.cell 2;have r3:J.cell? ⟨w.heap.size+1,3,none⟩=some (.int .i64 0):=W.out.cell 3;have f0:=W.out.frozen 0;have f1:=W.out.frozen 1;have f2:=W.out.frozen 2;have f3:=W.out.frozen 3;clear kc;go_wp2_with fail;refine AW (Yu (p:=2) (u:=3) (v:=4) AB _ _ (w.heap.size+1) 26 #[.slice none 0 0,.slice none 0 0,.slice none 0 0,.int .i64 0] (0,0) _ rfl ((((Blk.set (Blk.set (Blk.set (Blk.set W.out 0 (.slice none 0 0)) 1 (.slice none 0 0)) 2 (.slice none 0 0)) 3 (.int .i64 0))))) underlying26 rfl AB) rfl ?_;exact⟨Zsh W.out bc.out (DP _),.inl ⟨fa.out,9,AC,rfl⟩⟩
 clear kc;have CT:=LH (tr_CloneT a1 n1 c1 G.terms J ((Hg.out.below bc.out).terms) AA);have mb:=@run_makeMap prog;go_upto_region 8 with (go_at_call 90;(with_reducible refine CT.out.mono ?_);rintro e w9⟨fk,M,O,rfl,fq⟩);have jo:∀b,(Value.slice M n1 O).ownBlock=some b->b<w9.heap.size:=λb a=>(fq.lt b a).2;have ji:=Blk.new w9 26 #[.slice M n1 O,.slice none 0 0,.slice none 0 0,.int .i64 0];have jc:=Zy w9 (.cells #[.slice M n1 O,.slice none 0 0,.slice none 0 0,.int .i64 0] 26);have jq:=fq.alloc (.cells #[.slice M n1 O,.slice none 0 0,.slice none 0 0,.int .i64 0] 26);have mk:J.heap.size<=w9.heap.size:=fk.size;have gd:(w9.alloc (.cells #[.slice M n1 O,.slice none 0 0,.slice none 0 0,.int .i64 0] 26)).heap.size=w9.heap.size+1:=Zl _ _;have h8:=fk.trans (jc.mono mk);generalize w9.alloc (.cells #[.slice M n1 O,.slice none 0 0,.slice none 0 0,.int .i64 0] 26)=bp at *;generalize w9.heap.size=d at *;clear fq jc fk CT;go_upto_region 9 with fail;have fm:=Zy bp (.map #[] 0);have fo:NumM (bp.alloc (.map #[] 0)) bp.heap.size []:=World.ownsMap_made _ _ _ _;have jj:=Blk.ext ji fm;have jr:=jq.alloc (.map #[] 0);have mm:(bp.alloc (.map #[] 0)).heap.size=bp.heap.size+1:=Zl _ _;have ja:=h8.trans (fm.mono (by rw[gd];omega));generalize bp.alloc (.map #[] 0)=wB at *;rw[gd] at fo mm;have n6:d+1<wB.heap.size:=AA
 have bd:Hid (Below J.heap.size J wB):=LH ja;have g1:=LH fo;have g2:=LH jj;have g8:=LH jr;have d4:=LH jo;have km:=LH (Zz bc.out bd.out);clear fo fm ji jj jq jr h8 ja jo mb y0 D y2 y3 y5 c0;have⟨y5,y0,D,y2,y3⟩:=bz.out.below bd.out;simp only[] at y0 D y2 y3;clear gd;go_wp2_with fail;clear y0 D y2 y3 y5;go_loopw [7,43] (λkk i wz=>∃(q:Nat) (Ak:Option Addr) (T:Nat) (N:Option Addr) (P:Nat),q<=n3/\i = .int .i64 (q:Int)/\kk = .slice Ak (ksN G q).length T/\Hid (Dm wB d (d+1) (.slice M n1 O) G wz Ak T N P (ksN G q) (Wu (Wj G q)))) (λ_ i _=>n3-(intOf i).toNat)
 case atStart=>exact⟨0,none,0,none,0,AS _,rfl,rfl,LH ⟨Off.refl _ _,g1.out,g2.out,BN _ _ _ _,BN _ _ _ _⟩⟩
 obtain⟨q,Ak,T,N,P,hq,rfl,rfl,m⟩:=hrel;have R:Hid (Below J.heap.size J wr):=LH (bd.out.trans (m.out.off.is_below bd.out.size λk hk=>AA));have al:=LH (Zz bc.out R.out);have cc:=bz.out.below R.out;have⟨y5,y0,D,y2,y3⟩:=cc;simp only[] at y0 D y2 y3;clear cc;by_cases ci:q<n3
 case pos =>
  as_aux_lemma =>
   obtain⟨bb,ay,r,Ar,cr,rfl,cb,Hr,q0,q1,q2,cj⟩:=Hg.out.rules.get ci;rw[<-al.out.cell (by exact cb)] at q0 q1 q2;have a:bb<wr.heap.size:=AK cb al.out.size;have dh:=LH cj;have ax:=AN Hr.out;obtain⟨l1,l2⟩:=ad.out.left r ax;obtain⟨f,cg⟩:∃f:Nat,r.left=(f:Int):=⟨r.left.toNat,AA⟩;have f4:f<n2:=AA
   have b0:Hid (r.left.toNat=f):=LH AA;have l9:=ad.out.len r ax;have bm:=ad.out.symB ax;rw[e2] at bm;have fc:=LH bm;rw[cg] at q0;have a6:=Zy wr (.cells #[.int .i64 (f:Int),.slice Ar r.right.length cr,.int .i64 r.prec] 60);have ca:=Blk.new wr 60 #[.int .i64 (f:Int),.slice Ar r.right.length cr,.int .i64 r.prec];have bw:=LH (m.out.below a6);have cz:=LH (R.out.trans (a6.mono R.out.size));have hn:Hid (∀b,(Value.slice Ak (ksN G q).length T).ownBlock=some b->b<wr.heap.size):=LH λb a=>(m.out.kept.lt b a).2;have oa:d+1<wr.heap.size:=m.out.num.lt;have ot:J.heap.size<=wr.heap.size:=R.out.size;clear bm l1 l2 cg ax cj;go_upto_region 12 with fail;generalize wr.alloc (.cells #[.int .i64 (f:Int),.slice Ar r.right.length cr,.int .i64 r.prec] 60)=C at *;generalize wr.heap.size=gX at *;have am:=LH ca;clear a6 ca m R al q0 q1 q2 a y0 D y2 y3 y5;have x0:C.cell? ⟨gX,0,none⟩=some (.int .i64 (f:Int)):=am.out.cell 0;have x1:C.cell? ⟨gX,1,none⟩=some (.slice Ar r.right.length cr):=am.out.cell 1;have x2:C.cell? ⟨gX,2,none⟩=some (.int .i64 r.prec):=am.out.cell 2;have kl:=LH (Zz bc.out cz.out);have lP:Hid ((Zt G).length=n2):=LH (by rw[Vx,e2]);have jk:Z8 C gP (Zt G):=Blk.ext g3.out cz.out;have jm:Z8 C gQ (Z5 G):=Blk.ext kp.out cz.out;have cQ:=jm.at (i:=f) (by rw[K9,e2];exact f4);have CA:=F7 (f:Int) Ar cr gP n2 r.right r.prec (Zt G) C (dh.out.below kl.out) jk lP.out AA fc.out;rw[Zty] at CA;have CA:=LH CA;have de:Hid (Ky (Zt G) (Z5 G) r=((Z5 G).getD f false&&Xj true (Zt G) r.right)):=LH (by unfold Ky;rw[b0.out]);have b1:Hid (Ky (Zt G) (Z5 G) r=false->ksN G (q+1)=ksN G q/\Wj G (q+1)=Wj G q):=LH (ksN_no Hr.out);have hx:Hid (Ky (Zt G) (Z5 G) r=true->ksN G (q+1)=ksN G q++[q]/\Wj G (q+1)=Wj G q++[r]):=LH (Zts Hr.out);generalize (Z5 G).getD f false=qv at *;generalize Xj true (Zt G) r.right=av at *;clear jk jm;rcases qv with _ | _
   ·obtain⟨e4,e5⟩:=b1.out (by rw[de.out];rfl);have E4:=LH e4;have E5:=LH e5;clear e4 e5;go_wp2_with fail;go_roundw
    case rel=>exact⟨q+1,Ak,T,N,P,AA,AF,by rw[E4.out],LH (by rw[E4.out,E5.out];exact bw.out)⟩
    simp[intOf];omega
   rcases av with _ | _
   ·obtain⟨e4,e5⟩:=b1.out (by rw[de.out];rfl);have E4:=LH e4;have E5:=LH e5;clear e4 e5;go_wp2_with (go_at_call 91;(with_reducible refine CA.out.mono ?_);rintro e w'⟨rfl,bj⟩);go_roundw
    case rel=>exact⟨q+1,Ak,T,N,P,AA,AF,by rw[E4.out],LH (by rw[E4.out,E5.out];exact bw.out.below bj)⟩
    simp[intOf];omega
   obtain⟨e4,e5⟩:=hx.out (by rw[de.out];rfl);have E4:=LH e4;have E6:Hid (Wu (Wj G (q+1))=N3 (Wu (Wj G q)) f):=LH (by rw[e5,Vs,b0.out]);clear e4 e5 b1 hx de;have hf:Hid ((prog.info? 3).map (λi=>(i.zero,i.size,i.bytes))=some (some (.int .i64 0),1,8)):=LH Tryz.infoInt;have f6:=Zu9 G q;have n0:wB.heap.size<=C.heap.size:=bw.out.off.size;have mf:=Zsg G ad.out q;rw[e2] at mf;generalize ksN G q=ks at *;generalize Wu (Wj G q)=L at *;have d9:=LH (key_num f AA);have jg:d+1≠d:=AA
   by_cases bl:f∈L
   case pos =>
    as_aux_lemma =>
     have d8:Hid (decide (f∈L)=true):=LH (by simpa using bl);have b2:Hid (N3 L f=L):=LH (by unfold N3;rw[if_pos bl]);clear bl;go_wp2_with (first
      | (go_at_call 91;(with_reducible refine CA.out.mono ?_);rintro e wW⟨rfl,bj⟩
         have bf:=LH (bw.out.below bj);have d5:=LH (Blk.ext am.out bj);have l0:wB.heap.size<=wW.heap.size:=bf.out.off.size)
      | (at_builtin;refine Ye rfl _ _ 30 rfl wB.heap.size 3 _ 1 8 underlying30 hf.out AC AC Ak ks.length T (ints .i64 (Z6 ks)) rfl bf.out.kept [.int .i64 (q:Int)] rfl rfl (by simp[Value.oneCell']) AA AA AA ?_;intro A5 c5 w5 Z F ha
         have be:=LH (bf.out.put AA AA q A5 c5 Z F);have a5:=d5.out.grown F (by intro e;have:=hn.out gX e.symm;omega);have kh:w5.cell? ⟨gX,0,none⟩=some (.int .i64 (f:Int)):=a5.cell 0;have ki:=a5.lt;clear Z F ha a5)
      | (at_lookup;refine wpList_lookup_own_ok_int _ rfl _ _ 147 rfl 3 3 .i64 keyInt underlying147 underlying3 (zeroInt _) (d+1) L.length (Zys L) rfl be.out.num _ _ rfl d9.out ?_;intro cv ft gf;rw[Zt6,d8.out];clear ft gf))
     go_roundw
     case rel=>exact⟨q+1,A5,c5,N,P,AA,AF,by rw[E4.out,AV];rfl,LH (by rw[E4.out,E6.out,b2.out];exact be.out)⟩
     simp[intOf];omega
   as_aux_lemma =>
    have d8:Hid (decide (f∈L)=false):=LH (by simpa using bl);have b2:Hid (N3 L f=L++[f]):=LH (by unfold N3;rw[if_neg bl]);have k0:=LH bl;have kz:Hid ((prog.info? 9).map (λi=>(i.zero,i.size,i.bytes))=some (some (.string ByteArray.empty),1,16)):=LH AB;clear bl;go_upto_region 17 with (first
     | (go_at_call 91;(with_reducible refine CA.out.mono ?_);rintro e wW⟨rfl,bj⟩
        have bf:=LH (bw.out.below bj);have d5:=LH (Blk.ext am.out bj);have l0:wB.heap.size<=wW.heap.size:=bf.out.off.size)
     | (at_builtin;refine Ye rfl _ _ 30 rfl wB.heap.size 3 _ 1 8 underlying30 hf.out AC AC Ak ks.length T (ints .i64 (Z6 ks)) rfl bf.out.kept [.int .i64 (q:Int)] rfl rfl (by simp[Value.oneCell']) AA AA AA ?_;intro A5 c5 w5 Z F ha
        have be:=LH (bf.out.put AA AA q A5 c5 Z F);have a5:=d5.out.grown F (by intro e;have:=hn.out gX e.symm;omega);have kh:w5.cell? ⟨gX,0,none⟩=some (.int .i64 (f:Int)):=a5.cell 0;have ki:=a5.lt;have co:w5.cell? ⟨d,1,none⟩=some (.slice N L.length P):=be.out.out.cell 1;have kr:=LH a5;clear Z F ha a5)
     | (at_lookup;refine wpList_lookup_own_ok_int _ rfl _ _ 147 rfl 3 3 .i64 keyInt underlying147 underlying3 (zeroInt _) (d+1) L.length (Zys L) rfl be.out.num _ _ rfl d9.out ?_;intro cv ft gf;rw[Zt6,d8.out];clear ft gf)
     | (at_mapUpdate;refine wpList_mapUpdate_own _ rfl _ _ _ 147 rfl 3 3 keyInt underlying147 _ (d+1) L.length (Zys L) rfl be.out.num (by unfold maxLen;omega) _ _ _ rfl rfl d9.out _ [] (plainElem_int underlying3 (WalkArith.wf_i64 AA)) ?_;intro w6 j9 fz
        have bu:=LH (be.out.number AA AA jg k0.out j9 fz);have kt:=LH (kr.out.grown fz (by intro e;injection e with e;omega));clear j9 fz))
    have gy:Hid (Below J.heap.size J w6):=LH (bd.out.trans (bu.out.off.is_below bd.out.size λk hk=>AA));have jt:=bz.out.below gy.out;have fs:=kt.out;obtain⟨nb,no,nm,rfl,oh,k9,nq⟩:=(Hg.out.below (Zz bc.out gy.out)).nons.get f4;have j7:nm=Ws G f:=by unfold Ws;rw[k9.out];rfl
    have ox:wB.heap.size<=w6.heap.size:=bu.out.off.size;have⟨y5,y0,D,y2,y3⟩:=jt;simp only[] at y0 D y2 y3;have x0:w6.cell? ⟨gX,0,none⟩=some (.int .i64 (f:Int)):=fs.cell 0;have pj:=fs.lt;have nr:w6.cell? ⟨d,1,none⟩=some (.slice (N) L.length P):=bu.out.out.cell 1;have lq:=bu.out.out.lt;have dp:Below w6.heap.size w6 (w6.drew.alloc (.cells #[.string nm] 9)):=(AL w6.heap.size w6).drew.alloc (AJ _) _;have da:=LH (bu.out.below dp);have l8:wB.heap.size<=(w6.drew.alloc (.cells #[.string nm] 9)).heap.size:=by have:=dp.size;omega
    have ni:=LH dp;have la:=LH j7;clear jt fs j7 dp co kh ki;go_region_law (first
     | (refine V5 rfl _ _ 23 rfl wB.heap.size 9 _ 1 16 underlying23 kz.out AC AC N L.length P (L.map λi=>Value.string (Ws G i)) (by simp[Act.eval,Act.put]) (by exact da.out.nons) ⟨w6.heap.size,0,none⟩ 1 1 [.string nm] rfl (by simp[Act.eval,Act.put]) (by exact Qn w6.drew [.string nm] _) (by simp[Value.oneCell']) AA AA (by exact l8) ?_;intro A6 c6 w7 Z br ha
        have b6:=da.out.out.grown br (by intro e;have:=(da.out.nons.lt d e.symm).1;omega);have i1:w7.cell? ⟨d,1,none⟩=some (.slice N L.length P):=b6.cell 1;have i2:=b6.frozen 1;have HF:=LH (da.out.name AA AA jg A6 c6 (by rw[<-la.out];exact Z) br);clear b6 Z br ha))
    all_goals
     go_wp2_with fail;go_roundw
     case rel=>exact⟨q+1,A5,c5,A6,c6,AA,AF,by rw[E4.out,AV];rfl,LH (by rw[E4.out,E6.out,b2.out];exact HF.out)⟩
     simp[intOf];omega
 as_aux_lemma =>
  obtain rfl:n3=q:=AA
  obtain⟨wC,mq⟩:∃x,x=wr:=⟨wr,rfl⟩;subst mq;have lc:Hid (Wu (Wj G n3)=Ze G):=LH (by rw[<-e3,Jp];rfl);have f7:=Mh G n3 AA;have jz:Wj G n3=Yh G:=by rw[<-e3,Jp]
  rw[jz] at f7;have j1:∀i,i∈ksN G n3->i<n3:=λi hi=>ks_lt hi;have oe:=Zu9 G n3;rw[lc.out] at m;have og:(Ze G).length<=n2:=by have:=Zu7 ad.out;omega
  generalize j2:ksN G n3=ks at *;have k6:Hid (ksN G G.rules.length=ks):=LH (by rw[e3];exact j2);clear j2;have gz:=LH m.out.num;have c9:=LH m.out.kept;have g0:=LH m.out.nons;have kq:=LH (m.out.off.row g8.out λb a h=>by have:=d4.out b a;omega);have lx:Hid (Zyu wC d (.slice M n1 O) (.slice N (Ze G).length P) wC none 0 []):=LH ⟨Off.refl _ _,m.out.out,[],BN _ _ _ _,Kz.nil _ _⟩;have n7:d+1<wC.heap.size:=m.out.num.lt;have ou:wB.heap.size<=wC.heap.size:=m.out.off.size;have d0:=R;have hm:=LH f7;have k5:=LH j1;have f5:=(Yl m.out.kept).2;generalize j6:ks.length=I at *;have od:I<=T/\T<=9223372036854775807:=⟨f5.1,f5.2.1⟩;have k8:=LH j6;have lk:Hid (st∈Ze G):=LH (by have:=Jm ad.out (by rw[b4.out];have:=fa.out;unfold Xp at this;rw[AU,b4.out] at this;exact this.2);rwa [b4.out] at this);have os:J.heap.size<=wC.heap.size:=d0.out.size;clear m f7 jz j1 R al j6 bd km g2 g8 ci hq f5 g1;have g4:Hid ((Yh G).length=I):=LH hm.out.1.symm;clear y0 D y2 y3 y5;go_wp2_with fail;go_loopw [93] (λi wz=>∃(q:Nat) (A3:Option Addr) (ae:Nat),q<=I/\i = .int .i64 (q:Int)/\Hid (Zyu wC d (.slice M n1 O) (.slice N (Ze G).length P) wz A3 ae (((Yh G).take q).map (Wb (Ze G))))) (λi _=>I-(intOf i).toNat)
  case atStart=>exact⟨0,none,0,AS _,rfl,LH (by simpa using lx.out)⟩
  obtain⟨q,A3,ae,hq,rfl,m⟩:=hrel;have R:Hid (Below J.heap.size J wr):=LH (d0.out.trans (m.out.off.is_below d0.out.size λk hk=>AA));have al:=LH (Zz bc.out R.out);have cc:=bz.out.below R.out;have ov:wC.heap.size<=wr.heap.size:=m.out.off.size;have dt:(((Yh G).take q).map (Wb (Ze G))).length=q:=by rw[BI,BS,g4.out];omega
  have d3:Hid (NumM wr (d+1) (Ze G)):=LH (gz.out.block (m.out.off.keep (d+1) gz.out.lt AA));have⟨y5,y0,D,y2,y3⟩:=cc;simp only[] at y0 D y2 y3;clear cc;by_cases ci:q<I
  case pos =>
   as_aux_lemma =>
    obtain⟨i,hi⟩:∃i,ks[q]? = some i:=⟨_,AM (by rw[k8.out];exact ci)⟩;have l7:=k5.out i (AN hi);obtain⟨r,gb,gc⟩:=hm.out.2 q i hi;have jf:wr.ownsRow wB.heap.size 3 1 (.slice Ak I T) I (ints .i64 (Z6 ks)):=m.out.off.row c9.out λb a h=>by have:=(c9.out.lt b a).1;omega
    have je:Za .i64 wr Ak I T (Z6 ks):=Yl jf;obtain⟨kb,ko,kv,rfl,oc,k7,lp⟩:=je.get ci;obtain rfl:(i:Int)=kv:=by have h:=k7.out;rw[show (Z6 ks)[q]? = some (i:Int) by unfold Z6;rw[BB,hi];rfl] at h;exact BH h
    obtain⟨bb,ay,r',Ar,cr,rfl,cb,Hr,q0,q1,q2,cj⟩:=Hg.out.rules.get l7;obtain rfl:r=r':=by have h:=Hr.out;rw[gb] at h;exact BH h
    rw[<-al.out.cell (by exact cb)] at q0 q1 q2;have a:bb<wr.heap.size:=AK cb al.out.size;have dh:=LH cj;have ax:=AN gb;have hv:Hid (r∈Yh G):=LH (AN gc);obtain⟨l1,l2⟩:=ad.out.left r ax;obtain⟨f,cg⟩:∃f:Nat,r.left=(f:Int):=⟨r.left.toNat,AA⟩;have f4:f<n2:=AA
    have b0:Hid (r.left.toNat=f):=LH AA;have l9:=ad.out.len r ax;have bm:=ad.out.symB ax;rw[e2] at bm;have fc:=LH bm;rw[cg] at q0;have lg:=LH gc;have k4:Hid (f∈Ze G):=LH (by rw[<-b0.out];exact Zug hv.out);have a6:=Zy wr (.cells #[.int .i64 (f:Int),.slice Ar r.right.length cr,.int .i64 r.prec] 60);have ca:=Blk.new wr 60 #[.int .i64 (f:Int),.slice Ar r.right.length cr,.int .i64 r.prec];have ml:(wr.alloc (.cells #[.int .i64 (f:Int),.slice Ar r.right.length cr,.int .i64 r.prec] 60)).heap.size=wr.heap.size+1:=Zl _ _;have db:=LH (d3.out.block (a6.block (d+1) d3.out.lt));have cz:=LH (R.out.trans (a6.mono R.out.size));have d6:=LH a6;have kj:Hid (∀b,(Value.slice A3 (((Yh G).take q).map (Wb (Ze G))).length ae).ownBlock=some b->wC.heap.size<=b/\b<wr.heap.size):=LH λb a=>by obtain⟨cs,h3,_⟩:=m.out.rules;exact h3.lt b a
    clear bm l1 l2 cg ax cj gc gb hi jf je a6;go_upto_region 23 with fail;generalize wr.alloc (.cells #[.int .i64 (f:Int),.slice Ar r.right.length cr,.int .i64 r.prec] 60)=C at *;have am:=LH ca;clear ca q0 q1 q2 a y0 D y2 y3 y5 lp;have x0:C.cell? ⟨wr.heap.size,0,none⟩=some (.int .i64 (f:Int)):=am.out.cell 0;have x1:C.cell? ⟨wr.heap.size,1,none⟩=some (.slice Ar r.right.length cr):=am.out.cell 1;have x2:C.cell? ⟨wr.heap.size,2,none⟩=some (.int .i64 r.prec):=am.out.cell 2;have xl:=am.out.lt;have ll:Hid ((Wb (Ze G) r).left=toI (Ze G) f):=LH (by show toI (Ze G) r.left.toNat=_;rw[b0.out]);have ht:Hid (∀X,Below C.heap.size C X->(Instr.lookup 147 (.map (some (d+1))) (.int .i64 (f:Int)) false).run prog X = .ok (.int .i64 (toI (Ze G) f)) X):=LH λX hX=>(db.out.block (hX.block (d+1) db.out.lt)).look (Ub G) k4.out AA;have lh:=LH ((dh.out.below al.out).below d6.out);generalize toI (Ze G) f=tl at *;refine Xh (λX=>Below C.heap.size C X) (λX X'=>Below X.heap.size X X') (λu=>(⟨(GV ⟨a1,n1,c1,a2,n2,c2,some ⟨bb,ay,none⟩,n3,c3⟩ G.start::Value.pointer (some ⟨w.heap.size,0,none⟩)::Value.pointer (some ⟨w.heap.size+1,0,none⟩)::Value.slice none 0 0::Value.int IntKind.i64 0::Value.slice (some ⟨gP,0,none⟩) n2 n2::Value.slice (some ⟨gQ,0,none⟩) n2 n2::Value.slice (some ⟨kb,ko,none⟩) I T::Value.pointer (some ⟨d,0,none⟩)::Value.map (some (d+1))::u10::u11::u12::u13::undef::Value.int IntKind.i64 (i:Int)::Value.pointer (some ⟨wr.heap.size,0,none⟩)::u 10::u18::u19::Value.agg #[Value.slice a1 n1 c1,Value.slice a2 n2 c2,Value.slice (some ⟨bb,ay,none⟩) n3 c3,Value.int IntKind.i64 G.start]::Value.bool true::Value.bool false::undef::Value.agg #[Value.slice a1 n1 c1,Value.slice a2 n2 c2,Value.slice (some ⟨bb,ay,none⟩) n3 c3,Value.int IntKind.i64 G.start]::Value.slice (some ⟨gP,0,none⟩) n2 n2::Value.agg #[Value.slice a1 n1 c1,Value.slice a2 n2 c2,Value.slice (some ⟨bb,ay,none⟩) n3 c3,Value.int IntKind.i64 G.start]::Value.slice (some ⟨gQ,0,none⟩) n2 n2::Value.slice (some ⟨gP,0,none⟩) n2 n2::Value.pointer (some ⟨w.heap.size,3,none⟩)::Value.int IntKind.i64 (st:Int)::Value.pointer (some ⟨gP,st,none⟩)::Value.bool true::Value.bool false::undef::Value.pointer (some ⟨w.heap.size,0,none⟩)::Value.slice a1 n1 c1::Value.slice M n1 O::Value.agg #[Value.slice M n1 O,Value.slice none 0 0,Value.slice none 0 0,Value.int IntKind.i64 0]::Value.map (some (d+1))::Value.pointer (some ⟨w.heap.size,2,none⟩)::Value.slice (some ⟨bb,ay,none⟩) n3 c3::Value.int IntKind.i64 (n3:Int)::Value.int IntKind.i64 (n3:Int)::Value.bool false::u45::u46::u47::u48::u49::u50::u51::u52::u53::u54::u55::u56::u57::u58::u59::u60::u61::u62::u63::u64::u65::u66::u67::u68::u69::u70::u71::u72::u73::u74::u75::u76::u77::u78::u79::u80::u81::u82::u83::u84::u85::u86::u87::u88::u89::u90::Value.slice (some ⟨kb,ko,none⟩) I T::Value.int IntKind.i64 (I:Int)::Value.int IntKind.i64 (q:Int)::Value.bool true::Value.pointer (some ⟨kb,ko+q,none⟩)::Value.int IntKind.i64 (i:Int)::Value.pointer (some ⟨w.heap.size,2,none⟩)::Value.slice (some ⟨bb,ay,none⟩) n3 c3::Value.int IntKind.i64 (i:Int)::Value.pointer (some ⟨bb,ay+i*3,none⟩)::Value.agg #[Value.int IntKind.i64 (f:Int),Value.slice Ar r.right.length cr,Value.int IntKind.i64 r.prec]::u 0::u 1::u 2::u 3::u 4::u 5::u 6::u 7::u 8::u 9::u112::u113::u114::u115::u116::u117::u118::u119::u120::u121::u122::u123::u124::u125::u126::u127::u128::u129::u130::u131::u132::u133::u134::u135::u136::u137::u138::undef::undef::undef::undef::undef::undef::undef::[]).toArray,[]⟩:Act)) [u102,u103,u104,u105,u106,u107,u108,u109,u110,u111,u17] [λv X=>v=Value.map (some (d+1)),λv X=>v=Value.pointer (some ⟨wr.heap.size,0,none⟩),λv X=>v=Value.int .i64 (f:Int),λv X=>v=Value.int .i64 tl,λv X=>v=Value.pointer (some ⟨wr.heap.size,1,none⟩),λv X=>v=Value.slice Ar r.right.length cr,λv X=>∃B z,v=Value.slice B r.right.length z/\World.ownsRow X C.heap.size 3 1 (Value.slice B r.right.length z) r.right.length (ints .i64 r.right),λv X=>v=Value.pointer (some ⟨wr.heap.size,2,none⟩),λv X=>v=Value.int .i64 r.prec,λv X=>∃B z,v=Value.agg #[Value.int .i64 tl,Value.slice B r.right.length z,Value.int .i64 r.prec]/\World.ownsRow X C.heap.size 3 1 (Value.slice B r.right.length z) r.right.length (ints .i64 r.right),λv X=>∃H,v=Value.pointer (some ⟨H,0,none⟩)/\C.heap.size<=H/\Blk X H 60 #[.int .i64 0,.slice none 0 0,.int .i64 0]] (λu X=>∃B z H,u 10=Value.pointer (some ⟨H,0,none⟩)/\C.heap.size<=H/\Blk X H 60 #[Value.int .i64 tl,Value.slice B r.right.length z,Value.int .i64 r.prec]/\World.ownsRow X C.heap.size 3 1 (Value.slice B r.right.length z) r.right.length (ints .i64 r.right)/\Below C.heap.size C X) (l:=[_,_,_,_,_,_,_,_,_,_,_]) AB AB AB rfl rfl (AL _ _).drew ⟨λ_ _ _ h _=>h,λ_ _ _ h _=>h,λ_ _ _ h _=>h,λ_ _ _ h _=>h,λ_ _ _ h _=>h,λ_ _ _ h _=>h,(λ_ _ _ ⟨A,c,e,h⟩ a=>⟨A,c,e,Wv h λb _ hl=>a.block b hl⟩),λ_ _ _ h _=>h,λ_ _ _ h _=>h,(λ_ _ _ ⟨A,c,e,h⟩ a=>⟨A,c,e,Wv h λb _ hl=>a.block b hl⟩),(λ_ _ _ ⟨g,e,h,h2⟩ a=>⟨g,e,h,Blk.ext h2 a⟩),trivial⟩ ?_ ?_ ?_
    ·refine Zk.con (λQ u X o y KK E=>?_) ?_
     ·go_simp;exact E _ _ o (AL _ _) rfl
     refine Zk.con (λQ u X o y KK E=>?_) ?_
     ·go_simp;exact E _ _ o (AL _ _) rfl
     refine Zk.con (λQ u X o y KK E=>?_) ?_
     ·have p1:u 1=_:=y 1 rfl;clear y;generalize u 1=x1 at *;subst p1;have fe:=(o.cell (p:=⟨wr.heap.size,0,none⟩) xl).trans x0;go_simp;exact E _ _ o (AL _ _) rfl
     refine Zk.con (λQ u X o y KK E=>?_) ?_
     ·have p0:u 0=_:=y 0 rfl;have p2:u 2=_:=y 2 rfl;clear y;generalize u 0=x0 at *;subst p0;generalize u 2=x2 at *;subst p2;have j3:=ht.out X o;go_simp;exact E _ _ o (AL _ _) rfl
     refine Zk.con (λQ u X o y KK E=>?_) ?_
     ·go_simp;exact E _ _ o (AL _ _) rfl
     refine Zk.con (λQ u X o y KK E=>?_) ?_
     ·have p4:u 4=_:=y 4 rfl;clear y;generalize u 4=x4 at *;subst p4;have fe:=(o.cell (p:=⟨wr.heap.size,1,none⟩) xl).trans x1;go_simp;exact E _ _ o (AL _ _) rfl
     refine Zk.con (λQ u X o y KK E=>?_) ?_
     ·have p5:u 5=_:=y 5 rfl;clear y;generalize u 5=x5 at *;subst p5;have mi:=lh.out.below o;go_simp;(with_reducible refine (Zxu Ar r.right.length cr r.right X mi AA).mono ?_);rintro e w2⟨v2,rfl,ka,b9⟩;obtain⟨B,z,rfl⟩:=M3 ka;have mg:=Bv ka o.size;go_simp;exact E _ _ (Zz o b9) b9 ⟨B,z,rfl,mg⟩
     refine Zk.con (λQ u X o y KK E=>?_) ?_
     ·go_simp;exact E _ _ o (AL _ _) rfl
     refine Zk.con (λQ u X o y KK E=>?_) ?_
     ·have p7:u 7=_:=y 7 rfl;clear y;generalize u 7=x7 at *;subst p7;have fe:=(o.cell (p:=⟨wr.heap.size,2,none⟩) xl).trans x2;go_simp;exact E _ _ o (AL _ _) rfl
     refine Zk.con (λQ u X o y KK E=>?_) ?_
     ·have p3:u 3=_:=y 3 rfl;obtain⟨B,z,p6,a7⟩:=y 6 rfl;have p8:u 8=_:=y 8 rfl;clear y;generalize u 3=x3 at *;subst p3;generalize u 6=x6 at *;subst p6;generalize u 8=x8 at *;subst p8;go_simp;exact E _ _ o (AL _ _) ⟨B,z,rfl,a7⟩
     refine Zk.con (λQ u X o y KK E=>?_) ?_
     ·go_simp;exact E _ _ (Zo o _) (Zy _ _) ⟨_,rfl,o.size,Blk.new _ _ _⟩
     exact Zk.nil
    ·intro Q u X o y KK E;obtain⟨B,z,p9,a7⟩:=y 9 AC;obtain⟨H,m0,jw,U⟩:=y 10 AC;clear y;generalize u 9=x9 at *;subst p9;generalize u 10=nh at *;subst m0;have fe:X.cell? ⟨H,0,none⟩=some (.int .i64 0):=U.cell 0;have nn:X.cell? ⟨H,1,none⟩=some (.slice none 0 0):=U.cell 1;have np:X.cell? ⟨H,2,none⟩=some (.int .i64 0):=U.cell 2;have nv:=U.frozen 0;have nw:=U.frozen 1;have nx:=U.frozen 2;have oy:=U.lt;have j8:=(Off.of_set X H 0 (.int .i64 tl)).trans (Off.of_set _ H 1 (.slice B r.right.length z)) λ_ _ h=>h;have f9:=j8.trans (Off.of_set _ H 2 (.int .i64 r.prec)) λ_ _ h=>h;have kw:=LH (And.intro jw (And.intro (((U.set 0 (.int .i64 tl)).set 1 (.slice B r.right.length z)).set 2 (.int .i64 r.prec)) (And.intro (f9.row a7 λb a e=>Zxw a7 a U AC e) (o.trans (f9.is_below o.size λk hk=>AA)))));clear j8 f9 U a7;go_simp;exact E (λi=>([u 0,u 1,u 2,u 3,u 4,u 5,u 6,u 7,u 8,Value.agg #[Value.int .i64 tl,Value.slice B r.right.length z,Value.int .i64 r.prec],Value.pointer (some ⟨H,0,none⟩)]:List Value).getD i undef) _ (⟨B,z,H,rfl,kw.out⟩)
    intro u W9 l4;generalize u 10=nh at *;obtain⟨B,z,H,rfl,jw,U,a7,jb⟩:=l4;have HY:=LH U;have dg:=LH a7;have c8:=LH jb;have D:W9.cell? ⟨H,1,none⟩=some (.slice B r.right.length z):=U.cell 1;have yl:=U.lt;clear U a7 jb x0 x1 x2 ht;have n4:=dh.out.cap;go_wp2_with fail;clear D;obtain⟨wE,mr⟩:∃x,x=wr:=⟨wr,rfl⟩;subst mr;have ma:ints .i64 (((r.right.take 0).map (Xd (Ze G)))++r.right.drop 0)=ints .i64 r.right:=AE
    have jv:d+1<C.heap.size:=db.out.lt;go_loopw [115] (λi wz=>∃kk:Nat,kk<=r.right.length/\i = .int .i64 (kk:Int)/\Hid (Off (λk=>(Value.slice B r.right.length z).ownBlock=some k) W9 wz)/\Hid (wz.ownsRow C.heap.size 3 1 (.slice B r.right.length z) r.right.length (ints .i64 (((r.right.take kk).map (Xd (Ze G)))++r.right.drop kk)))) (λi _=>r.right.length-(intOf i).toNat)
    case atStart=>exact⟨0,AS _,rfl,LH (Off.refl _ _),LH (by rw[ma];exact dg.out)⟩
    obtain⟨kk,j0,rfl,bv,Ho⟩:=hrel;have dd:=LH (bv.out.blk HY.out λe=>Zxw dg.out e HY.out AC rfl);have D:wr.cell? ⟨H,1,none⟩=some (.slice B r.right.length z):=dd.out.cell 1;have pl:=dd.out.lt;have n5:=(Yl Ho.out).2;by_cases f6:kk<r.right.length
    case pos =>
     obtain⟨gC,u,rfl,n8,n9,Hu,cu,fu⟩:=Gh Ho.out (j:=kk) f6;obtain⟨V,b5⟩:∃V,Hid (r.right[kk]? = some V):=⟨_,LH (AM f6)⟩;have cf:(((r.right.take kk).map (Xd (Ze G)))++r.right.drop kk)[kk]? = some V:=by
      rw[BV (by rw[BI,BS];omega),BI,BS,Nat.min_eq_left j0,Nat.sub_self,DY,DO];exact b5.out
     have hu:u = .int .i64 V:=by have:=Hu.out;unfold ints at this;rw[BB,cf] at this;exact (BH this).symm
     subst hu;have mj:=fc.out V (AN b5.out);have df:Hid ((((r.right.take kk).map (Xd (Ze G)))++r.right.drop kk).set kk (Xd (Ze G) V)=((r.right.take (kk+1)).map (Xd (Ze G)))++r.right.drop (kk+1)):=LH (by
      have hd:r.right.drop kk=V::r.right.drop (kk+1):=by
       have h1:=AO.1 b5.out;rw[Ec h1.1,h1.2]
      rw[hd,List.set_append_right _ _ AG,BI,BS,Nat.min_eq_left j0,Nat.sub_self,Ya b5.out,DJ,DX];rfl)
     by_cases h0:0<=V
     ·as_aux_lemma =>
       have cl:Xd (Ze G) V=V:=by unfold Xd;rw[if_neg AA]
       have mc:¬(V<0):=AA
       have li:Hid ((((r.right.take kk).map (Xd (Ze G)))++r.right.drop kk)=((r.right.take (kk+1)).map (Xd (Ze G)))++r.right.drop (kk+1)):=LH (by
        have h9:=df.out;rw[cl] at h9;rw[<-h9];refine List.ext_getElem? λj=>?_;by_cases hj:kk=j
        ·subst hj;rw[List.getElem?_set_self (by have:=(AO.1 cf).1;exact this),cf]
        rw[List.getElem?_set_ne hj])
       clear cl cf df;go_wp2_with fail;go_roundw
       case rel=>exact⟨kk+1,AA,AF,bv,LH (by rw[<-li.out];exact Ho.out)⟩
       simp[intOf];omega
     as_aux_lemma =>
      obtain⟨jp,ob,j5,hw⟩:=Vy (s:=V) (n:=n2) AA mj.1 AA;have cl:Xd (Ze G) V=-1-toI (Ze G) jp:=by unfold Xd;rw[if_pos AA,j5]
      have jy:jp∈Ze G:=by rw[<-j5];exact Qz ad.out hv.out (AN b5.out) AA
      have jh:NumM wr (d+1) (Ze G):=(db.out.block (c8.out.block (d+1) jv)).block (bv.out.keep (d+1) (AK jv c8.out.size) λe=>by have:=(dg.out.lt (d+1) e).1;omega);have j3:=jh.look (Ub G) jy AA;have om:=Df (Ze G) jp;have oq:IntKind.i64.wrap (-1-toI (Ze G) jp)=-1-toI (Ze G) jp:=Cc _ AA;have mc:V<0:=AA
      have ke:=Lt Ho.out kk (.int .i64 (-1-toI (Ze G) jp));have mn:Hid ((wr.setCell ⟨gC,kk,none⟩ (.int .i64 (-1-toI (Ze G) jp))).ownsRow C.heap.size 3 1 (.slice (some ⟨gC,0,none⟩) r.right.length z) r.right.length (ints .i64 (((r.right.take (kk+1)).map (Xd (Ze G)))++r.right.drop (kk+1)))):=LH (by
       rw[<-df.out,cl];have e9:ints .i64 ((((r.right.take kk).map (Xd (Ze G)))++r.right.drop kk).set kk (-1-toI (Ze G) jp))=(ints .i64 (((r.right.take kk).map (Xd (Ze G)))++r.right.drop kk)).set kk (.int .i64 (-1-toI (Ze G) jp)):=by unfold ints;rw[List.map_set]
       rw[e9];exact ke)
      clear cl cf df ke jh jy;generalize toI (Ze G) jp=tj at *;go_wp2_with fail;go_roundw
      case rel=>exact⟨kk+1,AA,AF,LH (bv.out.trans (Off.of_set wr gC kk (.int .i64 (-1-tj))) λk _ h=>by rw[h];rfl),mn⟩
      simp[intOf];omega
    obtain rfl:r.right.length=kk:=AA
    as_aux_lemma =>
     have oj:C.heap.size=wE.heap.size+1:=ml;have fl:Below wE.heap.size wE wr:=(Zz d6.out c8.out).trans (bv.out.is_below (by have:=c8.out.size;have:=d6.out.size;omega) λk hk=>by have:=(dg.out.lt k hk).1;omega);have bx:=LH (m.out.below fl);obtain⟨cs,h3,fy⟩:=bx.out.rules;have H3:=LH h3;have co:wr.cell? ⟨d,2,none⟩=some (.slice A3 (((Yh G).take q).map (Wb (Ze G))).length ae):=bx.out.out.cell 2;have lq:=bx.out.out.lt;have kn:=LH bx.out.out;have ld:Hid (((Yh G).take (q+1)).map (Wb (Ze G))=((Yh G).take q).map (Wb (Ze G))++[Wb (Ze G) r]):=LH (by rw[Ya lg.out,DJ];rfl);have hI:Za .i64 wr B r.right.length z (r.right.map (Xd (Ze G))):=by
      have:=Yl Ho.out;rw[AR (AJ _),List.drop_length,DK] at this;exact this
     have b2:=LH λw7 A7 c7 Z F a=>Zyu.put bx.out AA (Wb (Ze G) r) (Ar:=B) (cr:=z) (by show Za .i64 wr B (r.right.map (Xd (Ze G))).length z (r.right.map (Xd (Ze G)));rw[BI];exact hI)
      (λb ay a=>by have h1:=Ho.out.lt b (by rw[a];rfl);refine⟨h1.2,AA,λh=>?_⟩;have:=(kj.out b h).2;omega) (w1:=w7) A7 c7 Z F a
     have pm:wr.cell? ⟨H,0,none⟩=some (.int .i64 tl):=dd.out.cell 0;have pn:wr.cell? ⟨H,2,none⟩=some (.int .i64 r.prec):=dd.out.cell 2;have ky:Hid ((prog.info? 60).map (λi=>(i.zero,i.size,i.bytes))=some (some (.agg #[.int .i64 0,.slice none 0 0,.int .i64 0]),3,40)):=LH AB;have ow:wC.heap.size<=wr.heap.size:=by have:=fl.size;omega
     have oi:(((Yh G).take q).map (Wb (Ze G))).length<60:=AA
     generalize ((Yh G).take q).map (Wb (Ze G))=rs at *;clear dt h3 fy fl hI;go_wp2_with (first
      | (at_builtin;refine Ye rfl _ _ 24 rfl wC.heap.size 60 _ 3 40 underlying24 ky.out AC AC A3 rs.length ae cs rfl H3.out [.int .i64 tl,.slice B r.right.length z,.int .i64 r.prec] rfl rfl (by simp[Value.oneCell']) AA AA AA ?_;intro A7 c7 w7 Z F ha
         have b7:=kn.out.grown F (by intro e;have:=(H3.out.lt d e.symm).1;omega);have i1:w7.cell? ⟨d,2,none⟩=some (.slice A3 rs.length ae):=b7.cell 2;have i2:=b7.frozen 2;have nj:=b7.lt;have HF:=LH (b2.out w7 A7 c7 (λns h1=>by rw[Cx h1 H3.out];show w7.ownsRow _ _ _ _ _ (cs++[.int .i64 (Wb (Ze G) r).left,.slice B (r.right.map (Xd (Ze G))).length z,.int .i64 r.prec]);rw[ll.out,BI];exact Z) F ha);clear b7 Z F ha))
     go_roundw
     case rel=>exact⟨q+1,A7,c7,AA,AF,LH (by rw[ld.out];exact HF.out)⟩
     simp[intOf];omega
  as_aux_lemma =>
   obtain rfl:I=q:=AA
   have d2:=LH (m.out.off.row c9.out λb a h=>by have:=(c9.out.lt b a).1;omega);have js:((Yh G).take I).map (Wb (Ze G))=(Yh G).map (Wb (Ze G)):=by rw[AR (by rw[g4.out];exact AJ _)]
   rw[js] at m dt;have j3:=d3.out.look (Ub G) lk.out AA;have o0:wr.cell? ⟨d,0,none⟩=some (.slice M n1 O):=m.out.out.cell 0;have o1:wr.cell? ⟨d,1,none⟩=some (.slice N (Ze G).length P):=m.out.out.cell 1;have o2:wr.cell? ⟨d,2,none⟩=some (.slice A3 I ae):=by have:=m.out.out.cell 2;rw[dt] at this;exact this
   have o3:wr.cell? ⟨d,3,none⟩=some (.int .i64 0):=m.out.out.cell 3;have o8:=m.out.out.frozen 3;have ol:=m.out.out.lt;have au:Blk wr (w.heap.size+1) 26 #[.slice none 0 0,.slice none 0 0,.slice none 0 0,.int .i64 0]:=Blk.ext W.out R.out;have r0:wr.cell? ⟨w.heap.size+1,0,none⟩=some (.slice none 0 0):=au.cell 0;have r1:wr.cell? ⟨w.heap.size+1,1,none⟩=some (.slice none 0 0):=au.cell 1;have r2:wr.cell? ⟨w.heap.size+1,2,none⟩=some (.slice none 0 0):=au.cell 2;have r3:wr.cell? ⟨w.heap.size+1,3,none⟩=some (.int .i64 0):=au.cell 3;have f0:=au.frozen 0;have f1:=au.frozen 1;have f2:=au.frozen 2;have f3:=au.frozen 3;have nz:=au.lt;have ny:=W.out.lt;have ly:w.heap.size+1≠d:=AA
   rw[lj.out] at y3;have lf:Hid ((Zi G).start=toI (Ze G) st):=LH (by show toI (Ze G) G.start.toNat=_;rw[b4.out]);have ga:Xp G=true:=fa.out;have hH:=Gr.fits (Ju di.out (by have:=ga;unfold Xp at this;rw[AU] at this;exact this.2));have lb:=LH ga;have fr:=m.out.off.row kq.out λb a h=>by have:=d4.out b a;omega
   have fn:=m.out.off.row g0.out λb a h=>by have:=(g0.out.lt b a).1;omega
   have br:∀wF,Off (λk=>k=d\/k=w.heap.size+1) wr wF->Yf wF ⟨M,n1,O,N,(Ze G).length,P,A3,I,ae⟩ (Zi G):=λwF ch=>by
    obtain⟨cs,h3,fy⟩:=m.out.rules;refine⟨Cr (ch.row fr λb a h=>by have h1:=d4.out b a;have h2:=(fr.lt b a).1;omega),?_,?_,λr hr s hs=>?_⟩
    ·have:=Yl (ch.row fn λb a h=>by have h1:=(fn.lt b a).1;omega);rw[show ((Ze G).map λi=>Value.string (Ws G i))=((Ze G).map (Ws G)).map Value.string by rw[List.map_map];rfl] at this;exact this
    ·have:=Cn (ch.row h3 λb a h=>by have h1:=(h3.lt b a).1;omega) (fy.keep ch.size λk hk ha=>⟨ch.keep k hk λh=>by have h1:=ha.1;omega,ha⟩);rw[dt] at this;exact this
    have h1:=hH.sym r hr s hs;have h2:=hH.n2;have h3:=hH.n1;unfold U3;omega
   have kx:=LH br;generalize toI (Ze G) st=ts at *;clear js fr fn br ga hH;go_wp2_with fail;have dr:=Off.of_set wr d 3 (.int .i64 ts);have s0:=Off.of_set (wr.setCell ⟨d,3,none⟩ (.int .i64 ts)) (w.heap.size+1) 0 (.slice M n1 O);have s1:=s0.trans (Off.of_set _ (w.heap.size+1) 1 (.slice N (Ze G).length P)) λ_ _ h=>h;have s2:=s1.trans (Off.of_set _ (w.heap.size+1) 2 (.slice A3 I ae)) λ_ _ h=>h;have s3:=s2.trans (Off.of_set _ (w.heap.size+1) 3 (.int .i64 ts)) λ_ _ h=>h;have bq:Below w.heap.size w (wr.setCell ⟨d,3,none⟩ (.int .i64 ts)):=al.out.trans (dr.is_below al.out.size λk hk=>AA);have lz:Blk (wr.setCell ⟨d,3,none⟩ (.int .i64 ts)) (w.heap.size+1) 26 #[.slice none 0 0,.slice none 0 0,.slice none 0 0,.int .i64 0]:=dr.blk (Blk.ext W.out R.out) ly;refine AW (Yu (p:=2) (u:=3) (v:=4) AB _ _ (w.heap.size+1) 26 #[.slice M n1 O,.slice N (Ze G).length P,.slice A3 I ae,.int .i64 ts] (0,0) _ rfl (Blk.set (Blk.set (Blk.set (Blk.set lz 0 (.slice M n1 O)) 1 (.slice N (Ze G).length P)) 2 (.slice A3 I ae)) 3 (.int .i64 ts)) underlying26 rfl AB) rfl ?_;refine⟨bq.trans (s3.is_below bq.size λk hk=>AA),.inr ⟨lb.out,⟨M,n1,O,N,(Ze G).length,P,A3,I,ae⟩,Ak,I,T,?_,?_,j4,by simp only[];omega,by simp only[];omega,by rw[k6.out];exact Yl (s3.row (dr.row d2.out λb a h=>by have:=(d2.out.lt b a).1;omega) λb a h=>by have:=(d2.out.lt b a).1;omega)⟩⟩
   ·rw[lf.out];rfl
   exact kx.out _ ((offX dr s3))
theorem Zuf(h:GH)(G:Gr)(w:World)(c:Yf w h G)(f:∀t∈G.terms,t.name.size<=maxLen)(h1:h.n1<=100)(a:h.n2<=100)(b:h.n3<=100):
 Calls prog 40 #[GV h G.start] w (Dh G w):=(Cz h G w c f h1 a b).mono λe w' d=>d.plain
end
theorem tr_Is(h:GH)(G:Gr)(w:World)(E:Yf w h G)(M:∀t∈G.terms,t.name.size<=maxLen)(h1:h.n1<=100)(z:h.n2<=100)(A:h.n3<=100):
 Calls prog 93 #[GV h G.start] w λe w'=>e = .returned (.bool (Q9 G))/\Below w w w':=by
 obtain⟨a1,n1,c1,a2,n2,c2,a3,n3,c3⟩:=h;simp only[] at h1 z A;have x:=LH E;have R:=LH M;have u:=Zy w (.cells #[.slice a1 n1 c1,.slice a2 n2 c2,.slice a3 n3 c3,.int .i64 G.start] 26);have o:=Y1.new w 26 ⟨a1,n1,c1,a2,n2,c2,a3,n3,c3⟩ G.start;clear E M;go_enter func93,ntmps93;have⟨z5,z0,z1,z2,z3⟩:=o;simp only[] at z0 z1 z2 z3;go_wp2_with fail;generalize w.alloc (.cells #[.slice a1 n1 c1,.slice a2 n2 c2,.slice a3 n3 c3,.int .i64 G.start] 26)=S at *;have g:=Zuf ⟨a1,n1,c1,a2,n2,c2,a3,n3,c3⟩ G S (x.out.below u) R.out h1 z A;unfold Dh at g;(with_reducible refine g.mono ?_);rintro e a⟨n,⟨J,U,X,rfl⟩ | ⟨L,V,Ak,nk,ck,rfl,F,Y,Z,m3⟩⟩
 ·have b:=Zz u n;have p:Q9 G=false:=by unfold Q9;rw[J];rfl
  have af:(U==0)=false:=by rw[AQ];exact X
  clear g J z0 z1 z2 z3 z5 o;go_wp2_with fail;go_ret;exact⟨by rw[p];rfl,b.trans ((Zy a _).mono b.size)⟩
 have b:=Zz u n;have B:=o.below n;obtain⟨c,q,j,d,r,k,f,s,l⟩:=V;have p:Q9 G=eqG G (Zi G):=by unfold Q9;rw[L];rfl
 generalize Zi G=H at *;clear g z0 z1 z2 z3 z5 o L;have m:=Zy a (.cells #[.slice c q j,.slice d r k,.slice f s l,.int .i64 H.start] 26);have D:=Y1.new a 26 ⟨c,q,j,d,r,k,f,s,l⟩ H.start;have C:=B.below m;have v:=Zz b m;have I:=F.below m;go_upto_region 2 with fail;generalize a.alloc (.cells #[.slice c q j,.slice d r k,.slice f s l,.int .i64 H.start] 26)=T at *;generalize a.heap.size=gH at *;have y:=tr_Same ⟨a1,n1,c1,a2,n2,c2,a3,n3,c3⟩ ⟨c,q,j,d,r,k,f,s,l⟩ G H T (x.out.below v) I;have N:=LH y;have P:=LH p;have O:=LH v;have⟨y5,y0,y1,y2,y3⟩:=C;simp only[] at y0 y1 y2 y3;have⟨x5,x0,x1,x2,x3⟩:=D;simp only[] at x0 x1 x2 x3;clear y p v C D I m n b B F Y Z m3;go_wp2_with (go_at_call 152;(with_reducible refine N.out.mono ?_);rintro e w6⟨rfl,W⟩);go_ret;exact⟨by rw[P.out];rfl,Zz O.out W⟩
theorem tr_cOf(h:GH)(G:Gr)(Al:Option Addr)(v:Nat)(l:List Int)(n:Int)(w:World)(R:Yf w h G)(o:∀t∈G.terms,t.name.size<=maxLen)(a4:Q2 w)(h1:h.n1<=100)(h2:h.n2<=100)(h3:h.n3<=100)(y:Za .i64 w Al l.length v l)(hi:∀s∈l,U3 s):
 Calls prog 41 #[GV h G.start,.slice Al l.length v,.int .i64 n] w (Xr w (Wi G l n)):=by
 obtain⟨a1,n1,c1,a2,n2,c2,a3,n3,c3⟩:=h;have e1:G.terms.length=n1:=R.terms.len;have e2:G.nons.length=n2:=R.nons.len;simp only[] at h1 h2 h3;have ca:=y.cap;have O:=LH R;have Hl:=LH y;have Hi:=LH hi;have Z:=LH o;have bh:=LH a4;have aa:=Zy w (.cells #[.slice a1 n1 c1,.slice a2 n2 c2,.slice a3 n3 c3,.int .i64 G.start] 26);have ah:=Y1.new w 26 ⟨a1,n1,c1,a2,n2,c2,a3,n3,c3⟩ G.start;clear R y hi o a4;go_enter func41,ntmps41;have⟨z5,z0,z1,z2,z3⟩:=ah;simp only[] at z0 z1 z2 z3;go_upto_region 1 with fail;generalize w.alloc (.cells #[.slice a1 n1 c1,.slice a2 n2 c2,.slice a3 n3 c3,.int .i64 G.start] 26)=W0 at *;have f:=LH (tr_Is ⟨a1,n1,c1,a2,n2,c2,a3,n3,c3⟩ G W0 (O.out.below aa) Z.out h1 h2 h3);have r:=LH aa;have N:=LH ah;have d:(Q9 G=false\/6<l.length\/n<0\/10<n\/(∃s∈l,G.has s=false))->Wi G l n=([],1):=λhh=>by unfold Wi;rw[if_pos hh]
 have P:Hid (∀w',Below w w w'->Wi G l n=([],1)->Xr w (Wi G l n) (.returned (.tuple #[.slice none 0 0,.int .i64 1])) w'):=LH λw' hb he=>by rw[he];exact⟨none,0,rfl,Zq.nil _ _ _ _ AA,hb⟩
 clear aa ah;cases H:Q9 G
 case false =>
  have u:=LH (d (.inl H));rw[H] at f;clear d;go_wp2_with (go_at_call 93;(with_reducible refine f.out.mono ?_);rintro e U⟨rfl,a⟩);go_ret2;exact P.out _ (Zz r.out a) u.out
 rw[H] at f;by_cases bz:6<l.length
 case pos =>
  have u:=LH (d (.inr (.inl bz)));have i1:(6:Int)<(l.length:Int):=AA
  clear d;go_wp2_with (go_at_call 93;(with_reducible refine f.out.mono ?_);rintro e U⟨rfl,a⟩);go_ret2;exact P.out _ (Zz r.out a) u.out
 have i1:¬((6:Int)<(l.length:Int)):=AA
 by_cases hn:0<=n/\n<=10
 case neg =>
  have u:=LH (d (by rcases (AA:n<0\/10<n) with h | h;exact .inr (.inr (.inl h));exact .inr (.inr (.inr (.inl h)))));have E:(decide (0<=n)&&decide (n<=10))=false:=by rw[Bool.and_eq_false_iff,AZ,AZ];omega
  have p:=λX=>Ld n X;rw[E] at p;have A:=LH p;clear d E p hn;go_wp2_with (first
   | (go_at_call 93;(with_reducible refine f.out.mono ?_);rintro e U⟨rfl,a⟩)
   | (go_at_call 39;(with_reducible refine (A.out _).mono ?_);rintro e w7⟨rfl,rfl⟩))
  go_ret2;exact P.out _ (Zz r.out a) u.out
 obtain⟨m,rfl⟩:∃m:Nat,n=(m:Int):=⟨n.toNat,AA⟩;have hm:m<=10:=AA
 have E:(decide (0<=(m:Int))&&decide ((m:Int)<=10))=true:=by rw[AU,BA,BA];exact hn
 have p:=λX=>Ld (m:Int) X;rw[E] at p;have A:=LH p;have Hr:=LH H;clear E p hn H;have F:(l.any λs=>!G.has s)=!l.all G.has:=by rw[List.all_eq_not_any_not];simp
 have z:Hid (∀W,Below w w W->Y1 W w ⟨a1,n1,c1,a2,n2,c2,a3,n3,c3⟩ G.start->Calls prog 94 #[.slice Al l.length v,.func (.func 95) #[] #[.pointer (some ⟨w,0,none⟩)]] W λe w'=>e = .returned (.bool (!l.all G.has))/\Below W W w'):=LH λW D hX=>by
  have hT:Zyw 95 #[.pointer (some ⟨w,0,none⟩)] (Value.int .i64) W l (λs=>!G.has s):=λs b0 w' a5 =>
   tr_cof1 ⟨a1,n1,c1,a2,n2,c2,a3,n3,c3⟩ G w s w' ((O.out.below D).below a5) (Hi.out s b0) (by simp only[];omega) (by simp only[];omega) (hX.below a5)
  have g:=U1 Al l.length v l 95 _ (λs=>!G.has s) W enters_cof1 (Hl.out.below D) hT;rwa [F] at g
 cases c:l.all G.has
 case false =>
  have u:=LH (d (.inr (.inr (.inr (.inr (by
   rw[List.all_eq_false] at c;obtain⟨s,o,hh⟩:=c;exact⟨s,o,by simpa using hh⟩))))))
  rw[c] at z;clear d c F;go_wp2_with (first
   | (go_at_call 93;(with_reducible refine f.out.mono ?_);rintro e U⟨rfl,a⟩)
   | (go_at_call 39;(with_reducible refine (A.out _).mono ?_);rintro e w7⟨rfl,rfl⟩)
   | (go_at_call 94;(with_reducible refine (z.out _ (Zz r.out a) (N.out.below a)).mono ?_);rintro e w8⟨rfl,x⟩))
  go_ret2;exact P.out _ (Zz (Zz r.out a) x) u.out
 have j:Wi G l (m:Int)=if Vh G≠0 then ([],10) else Xm (Zx (Zv G) l m):=by
  unfold Wi;rw[if_neg]
  ·rfl
  rintro (h | h | h | h | ⟨s,o,h⟩)
  ·rw[Hr.out] at h;cases h
  ·omega
  ·omega
  ·omega
  rw[BG] at c;rw[c s o] at h;cases h
 have bi:=LH (BG.1 c);have av:=LH j;rw[c] at z;clear d c F j;have CY:Hid (∀W,Below w w W->Calls prog 97 #[GV ⟨a1,n1,c1,a2,n2,c2,a3,n3,c3⟩ G.start] W λe w'=>Below W W w'/\e = .returned (.int .u32 ((Vh G:Nat):Int))):=LH λW D =>
  tr_Cycles stepsSaid ⟨a1,n1,c1,a2,n2,c2,a3,n3,c3⟩ G W (O.out.below D) Z.out (bh.out.below D) (by simp only[];omega) (by simp only[];omega) (by simp only[];omega)
 go_wp2_with (first
  | (go_at_call 93;(with_reducible refine f.out.mono ?_);rintro e U⟨rfl,a⟩)
  | (go_at_call 39;(with_reducible refine (A.out _).mono ?_);rintro e w7⟨rfl,rfl⟩)
  | (go_at_call 94
     (with_reducible refine (z.out _ (Zz r.out a) (N.out.below a)).mono ?_);rintro e w8⟨rfl,x⟩;obtain⟨y5,I,J,L,M⟩:=N.out.below (Zz a x);simp only[] at I J L M))
 have V:=LH (Zz (Zz r.out a) x);have ar:=LH (N.out.below (Zz a x));clear a x f z A z0 z1 z2 z3 z5;(with_reducible refine (CY.out _ V.out).mono ?_);rintro e w9⟨ag,rfl⟩;have C:=LH (Zz V.out ag);have bj:=LH (ar.out.below ag);have cb:=Ztq G;have j:=av.out;clear I J L M y5 ag av CY V ar;by_cases g:Vh G=0
 case neg =>
  have Y:=LH j;have i4:(((Vh G:Nat):Int) != 0)=true:=by rw[BK];omega
  have Hc:=LH g;clear j g;go_wp2_with fail;go_ret2;rw[Y.out,if_pos Hc.out];exact⟨none,0,rfl,Zq.nil _ _ _ _ AA,C.out⟩
 have i4:(((Vh G:Nat):Int) != 0)=false:=by rw[g];rfl
 rw[if_neg (by rw[g];simp)] at j;obtain⟨S,a7⟩:=Zzn.1 Hr.out;have T:G.right=true/\(Zt G).getD G.start.toNat false=true:=by unfold Xp at S;rw[AU] at S;exact S
 obtain⟨hP,bx,hO⟩:=U7 T.1 T.2 a7 g;have Y:=LH j;have HP:=LH hP;have ai:=O.out.below C.out;have CS:=LH (tr_start ⟨a1,n1,c1,a2,n2,c2,a3,n3,c3⟩ G w9 ai Z.out (by simp only[];omega) (by simp only[];omega) (by simp only[];omega) T.1);have a6:∀s∈l,-(n2:Int)<=s/\s<=1000:=λs o=>by
  have:=H7 (bi.out s o);rw[e1,e2] at this;omega
 have CF:Hid (∀k:CH,ForC w9 k ⟨a1,n1,c1,a2,n2,c2,a3,n3,c3⟩ G Al l.length v l m):=LH λk=>tr_forest (k:=k) hP ai (by simp only[];omega) (by simp only[];omega) l Al v m (Hl.out.below C.out) a6 AA AA;have⟨y5,I,J,L,M⟩:=bj.out;simp only[] at I J L M;clear j S a7 T hP bx hO g ai a6;generalize Vh G=cy at *;go_wp2_with fail;(with_reducible refine CS.out.mono ?_);rintro e ce⟨af,k,rfl,ab⟩;have an:=LH (CF.out k _ _ ab (λb hb=>hb.elim));have aq:=LH (Zz C.out af);have a8:=ab.low;clear I J L M y5 CS CF ab;have bm:=LH a8;have b8:=LH af;clear a8 af;go_wp2_with fail;(with_reducible refine an.out.mono ?_);rintro e b4⟨bs,a0,A5,k5,c5,b5,rfl,hv⟩;have be:=LH (aq.out.trans ((a0.is_below (B:=w.heap.size) aq.out.size λq F=>by
  have h9:=C.out.size;have y:=bm.out;rcases F with rfl | rfl
  ·exact BC h9 y.1
  exact BC h9 y.2)))
 clear bs a0 an;go_wp2_with fail;(with_reducible refine (tr_told A5 k5 c5 b5 _ b4 hv).mono ?_);rintro e cf⟨A6,c6,rfl,a9,a⟩;have bg:=LH a9;have bf:=LH (Zz be.out a);clear hv a9 a;generalize Xm (Zx (Zv G) l m)=cd at *;go_wp2_with fail;go_ret2;rw[Y.out];exact⟨A6,c6,rfl,bg.out,bf.out⟩
section
open Ieee
open Go.Maps (Keyed IsMap Tidy)
open Go.Maps (Keyed IsMap Tidy)
theorem Zzz{W0:World}{k:BkH}{h:GH}{G:Gr}(hB:BkG W0 h G){l:List Int}{n:Nat}(hk:J1 l n)(hh:∀s∈l,G.has s=true)(S:Nat->Prop)(w:World)(Al:Option Addr)(cl:Nat)(C:Wd W0 k h G S w)(hS:∀b,S b->b<w.heap.size)(hl:Za .i64 w Al l.length cl l):
 Calls prog 109 #[.pointer (some ⟨k.c,0,none⟩),.slice Al l.length cl,.int .i64 (n:Int)] w (Zuw W0 k h G S w (Zx (Zv G) l n)):=by
 have fh:=hl.cap;have fl:=hk.len;have dm:=hk.n;have a7:=Zy w (.cells #[.slice none 0 0,.bool false] 168);have cb:=Blk.new w 168 #[.slice none 0 0,.bool false];have b8:=C.more a7 (AJ w);have T:=LH hB;have HK:=LH hk;have Hh:=LH hh;have HS:=LH hS;have bb:=LH (hl.below a7);have bf:=LH cb;have bp:=LH b8;have bw:Hid (Off k.map w (w.alloc (.cells #[.slice none 0 0,.bool false] 168))):=Off.of_below a7;have cf:W0.heap.size<=w.heap.size:=C.base.size;go_enter func109,ntmps109;go_upto_region 1 with fail;generalize w.alloc (.cells #[.slice none 0 0,.bool false] 168)=J at *;have c8:Hid ((prog.info? 5).map (λi=>(i.zero,i.size,i.bytes))=some (some (.int .u8 0),1,1)):=LH AB;have b3:Hid (J.ownsRow J 5 1 (.slice none 0 0) 0 (nums .u8 (Vr (l.take 0)))):=BN _ _ _ _;go_wp2_with fail;go_loopw [7,16] (λv i wr=>∃(q:Nat) (A:Option Addr) (c:Nat),q<=l.length/\i = .int .i64 (q:Int)/\v = .slice A q c/\Hid (wr.ownsRow J 5 1 (.slice A q c) q (nums .u8 (Vr (l.take q))))/\Hid (Below J J wr)) (λ_ i _=>l.length-(intOf i).toNat)
 case atStart=>exact⟨0,none,0,AS _,rfl,rfl,b3,LH (AL _ _)⟩
 obtain⟨q,A,c,hq,rfl,rfl,Ho,E⟩:=hrel;have av:J.heap.size<=wr.heap.size:=E.size;by_cases dn:q<l.length
 case pos =>
  obtain⟨lb,lo,s,rfl,fk,b4,cs⟩:=(bb.below E).get dn;obtain⟨s1,s2⟩:=HK.sym s (AN b4);obtain⟨m,hm⟩:∃m:Nat,s+16=(m:Int):=⟨(s+16).toNat,AA⟩;have fm:IntKind.i64.wrap (s+16)=(m:Int):=by rw[hm];exact Cc _ AA
  have fn:IntKind.u8.wrap (m:Int)=(m:Int):=IntWalk.u8_in _ AA;have da:Hid (Vr (l.take (q+1))=Vr (l.take q)++[m]):=LH (by rw[symT_snoc b4,show (s+16).toNat=m by omega]);go_wp2_with (first
   | (at_builtin;refine Ye rfl _ _ 57 rfl J 5 _ 1 1 underlying57 c8 AC AC A q c (nums .u8 (Vr (l.take q))) rfl Ho [.int .u8 (m:Int)] rfl rfl (by simp[Value.oneCell']) AA AA av ?_;intro A5 c5 w5 ho hg ha
      have cw:=LH (E.trans ((Off.of_grown hg).is_below av λk hk=>(Ho.lt k hk).1));have c9:Hid (w5.ownsRow J 5 1 (.slice A5 (q+1) c5) (q+1) (nums .u8 (Vr (l.take (q+1))))):=LH (by
       rw[da,show nums .u8 (Vr (l.take q)++[m])=nums .u8 (Vr (l.take q))++[.int .u8 (m:Int)] by simp[nums]];exact ho)
      clear ho hg ha))
  go_roundw
  case rel=>exact⟨q+1,A5,c5,AA,AF,rfl,c9,cw⟩
  simp[intOf] <;> omega
 obtain rfl:q=l.length:=AA
 have cp:Zq .u8 wr A l.length c (Vr l):=by
  have h1:=Yl Ho;rw[List.take_length] at h1;exact h1
 have bm:(Vr l).length=l.length:=by unfold Vr;rw[BI]
 have b2:Hid ((convert 57 9 (.slice A l.length c)).run prog wr = .ok (.string (str (Vr l))) wr):=LH (by
  have:=Ux wr 57 5 9 underlying57 underlying5 underlying9 A c (Vr l) (by rw[bm];exact cp);rwa [bm] at this)
 have dj:=b2.out;have au:=Zy wr (.cells #[.string (str (Vr l)),.int .i64 (n:Int)] 220);have aq:=Blk.new wr 220 #[.string (str (Vr l)),.int .i64 (n:Int)];have aa:=LH ((bp.below E).below au);have be:=LH ((bw.map_trans (Off.of_below E)).map_trans (Off.of_below au));have bg:=LH ((bf.ext E).ext au);have br:=LH ((bb.below E).below au);have dl:w.heap.size<wr.heap.size:=(bf.ext E).lt;go_upto_region 8 with fail;generalize wr.alloc (.cells #[.string (str (Vr l)),.int .i64 (n:Int)] 220)=r at *;generalize wr.heap.size=B at *;have b1:=LH aq;obtain⟨ts,W⟩:=aa.known;have F:=W.look HK;unfold kB at F;have H:=aa.box.lt;have Y:r.cell? ⟨k.c,4,none⟩=some (.map (some k.t)):=aa.box.cell 4;have N:r.cell? ⟨B,0,none⟩=some (.string (str (Vr l))):=aq.cell 0;have O:r.cell? ⟨B,1,none⟩=some (.int .i64 (n:Int)):=aq.cell 1;have P:=aq.lt;have bc:=Yt r;rcases F with ⟨bv,F,hv,di⟩ | F
 case inl =>
  as_aux_lemma =>
   obtain⟨Av,nv,cv,dv,V,aw⟩:=hv;refine Zs AB AB ?_;repeat (go_big_quiet_step (fail))
   refine BL ?_;rintro _⟨y,rfl⟩;have j:=Zr r y;have x:=LH (aa.below j);have aj:=LH (be.map_trans (Off.of_below j));have o:=bg.ext j;have a8:=V.ext j;have cy:=LH (aw.below j);have ak:=LH (Zxm (S:=S) x o cy aj (.inr rfl) cf (AJ _) λq hq => .inl hq);have c0:(bl r y).cell? ⟨w,0,none⟩=some (.slice none 0 0):=o.cell 0;have c1:(bl r y).cell? ⟨w,1,none⟩=some (.bool false):=o.cell 1;have f0:=o.frozen 0;have f1:=o.frozen 1;have l5:=o.lt;have v0:(bl r y).cell? ⟨bv,0,none⟩=some (.slice Av nv cv):=a8.cell 0;have v1:(bl r y).cell? ⟨bv,1,none⟩=some (.bool dv):=a8.cell 1;have l6:=a8.lt;generalize bl r y=W3 at *;go_wp2_with fail;refine AW (AX (p:=6) AB _ _ w 168 #[.slice Av nv cv,.bool dv] (0,0) _ rfl ak.1 underlying168 rfl AB) rfl ?_;exact ak.2
 refine Zs AB AB ?_;repeat (go_big_quiet_step (fail))
 refine BL ?_;rintro _⟨y,rfl⟩;have j:=Zr r y;have x:=LH (aa.below j);have aj:=LH (be.map_trans (Off.of_below j));have b0:=LH (bg.ext j);have bt:=LH (b1.ext j);have bs:=LH (br.below j);have fi:w.heap.size<B:=dl;generalize bl r y=W3 at *;obtain⟨gc,M⟩:=k;obtain⟨a1,n1,c1,a2,n2,c2,a3,n3,c3⟩:=h;have H:=x.box.lt;have k0:W3.cell? ⟨gc,0,none⟩=some (.slice a1 n1 c1):=x.box.cell 0;have k1:W3.cell? ⟨gc,1,none⟩=some (.slice a2 n2 c2):=x.box.cell 1;have k2:W3.cell? ⟨gc,2,none⟩=some (.slice a3 n3 c3):=x.box.cell 2;have k3:W3.cell? ⟨gc,3,none⟩=some (.int .i64 G.start):=x.box.cell 3;have bj:=x.base;have co:=Zua T.told (l:=l) (n:=n) HK.len dm Hh;have h1:=T.n1;have h2:=T.n2;have h3:=T.n3;simp only[] at h1 h2 h3;have Z:=tr_cOf ⟨a1,n1,c1,a2,n2,c2,a3,n3,c3⟩ G Al cl l (n:Int) W3 (T.at_.below bj) T.names (T.tab.below bj) (by simp only[];omega) (by simp only[];omega) (by simp only[];omega) bs (λs hs=>by have:=HK.sym s hs;unfold U3;omega);rw[co] at Z;obtain⟨R,er,bq,cd,fg,cq⟩:=fit_val (Zx (Zv G) l n);rw[cd] at Z;have Z:=LH Z;have b5:=LH cq;go_upto_region 12 with (
  go_at_call 41;refine Z.out.mono ?_;rintro e U⟨I,L,rfl,cm,ar⟩)
 have ab:=LH (x.below ar);have bx:=LH (aj.map_trans (Off.of_below ar));have az:=LH (b0.ext ar);have ad:=LH (bt.ext ar);have bu:=LH cm;have H:=ab.box.lt;have Y:U.cell? ⟨gc,4,none⟩=some (.map (some M)):=ab.box.cell 4;have N:U.cell? ⟨B,0,none⟩=some (.string (str (Vr l))):=ad.cell 0;have O:U.cell? ⟨B,1,none⟩=some (.int .i64 (n:Int)):=ad.cell 1;have P:=ad.lt;have dr:=az.lt;refine Xh (λX=>Below U U X) (λX X'=>Below X X X') (λu=>(⟨(.pointer (some ⟨gc,0,none⟩) :: .slice Al l.length cl :: .int .i64 (n:Int)::undef::undef::undef :: .pointer (some ⟨w,0,none⟩) :: .slice A l.length c::undef::u9 :: .pointer (some ⟨B,0,none⟩) :: .pointer none :: .slice I R.length L :: .int .i64 (er:Int) :: .slice Al l.length cl :: .int .i64 (l.length:Int) :: .int .i64 (l.length:Int) :: .bool false::u18::u19::u20::u21::u22::u23::u24::u25::u26 :: .slice A l.length c :: .string (str (Vr l)) :: .int .i64 (n:Int) :: .agg #[.string (str (Vr l)),.int .i64 (n:Int)] :: .pointer (some ⟨gc,0,none⟩) :: .pointer (some ⟨gc,0,none⟩) :: .pointer (some ⟨gc,4,none⟩) :: .map (some M) :: .agg #[.string (str (Vr l)),.int .i64 (n:Int)] :: .pointer none :: .pointer none :: .bool false::undef::undef::undef :: .tuple #[.slice I R.length L,.int .i64 (er:Int)] :: .pointer (some ⟨gc,0,none⟩) :: .pointer (some ⟨gc,0,none⟩) :: .pointer (some ⟨gc,0,none⟩) :: .agg #[.slice a1 n1 c1,.slice a2 n2 c2,.slice a3 n3 c3,.int .i64 G.start] :: .slice Al l.length cl :: .int .i64 (n:Int) :: .tuple #[.slice I R.length L,.int .i64 (er:Int)] :: .slice I R.length L :: .int .i64 (er:Int)::u 0::u 1::u 2::u 3::u 4::u 5::u 6::u 7::u 8::u 9::undef::undef::undef::undef::undef::undef::undef::undef::[]).toArray,[]⟩:Act)) [undef,undef,undef,undef,undef,undef,undef,undef,undef,undef] [λv X=>v = .pointer (some ⟨gc,0,none⟩),λv X=>v = .pointer (some ⟨gc,0,none⟩),λv X=>v = .pointer (some ⟨gc,4,none⟩),λv X=>v = .map (some M),λv X=>v = .agg #[.string (str (Vr l)),.int .i64 (n:Int)],λv X=>v = .slice I R.length L,λv X=>v = .int .i64 (er:Int),λv X=>v = .bool bq,λv X=>v = .agg #[.slice I R.length L,.bool bq],λv X=>∃D,v=Value.pointer (some ⟨D,0,none⟩)/\U.heap.size<=D/\Blk X D 168 #[.slice I R.length L,.bool bq]] (λu X=>∃D ts,Wd W0 ⟨gc,M⟩ ⟨a1,n1,c1,a2,n2,c2,a3,n3,c3⟩ G (λb=>S b\/b=w.heap.size) X/\Off (BkH.map ⟨gc,M⟩) U X/\Gk X M G (λb=>S b\/b=w.heap.size) (((l,n),D)::ts)) (l:=[_,_,_,_,_,_,_,_,_,_]) AB AB AB rfl rfl (AL _ _).drew ⟨AI,AI,AI,AI,AI,AI,AI,AI,AI,(λ_ _ _ ⟨g,e,h,h2⟩ hb=>⟨g,e,h,Blk.ext h2 hb⟩),trivial⟩ ?_ ?_ ?_
 ·refine Zk.con (λQ u X a d KK f=>?_) ?_
  ·go_simp;exact f _ _ a (AL _ _) rfl
  refine Zk.con (λQ u X a d KK f=>?_) ?_
  ·have p0:u 0=_:=d 0 rfl;rw[p0] at f⊢;go_simp;exact f _ _ a (AL _ _) rfl
  refine Zk.con (λQ u X a d KK f=>?_) ?_
  ·have p1:u 1=_:=d 1 rfl;rw[p1] at f⊢;go_simp;exact f _ _ a (AL _ _) rfl
  refine Zk.con (λQ u X a d KK f=>?_) ?_
  ·have p2:u 2=_:=d 2 rfl;rw[p2] at f⊢;have dc:=(a.cell (p:=⟨gc,4,none⟩) H).trans Y;go_simp;exact f _ _ a (AL _ _) rfl
  refine Zk.con (λQ u X a d KK f=>?_) ?_
  ·have dc:=(a.cell (p:=⟨B,0,none⟩) P).trans N;have fc:=(a.cell (p:=⟨B,1,none⟩) P).trans O;go_simp;exact f _ _ a (AL _ _) rfl
  iterate 2
   refine Zk.con (λQ u X a d KK f=>?_) ?_
   ·go_simp;exact f _ _ a (AL _ _) rfl
  refine Zk.con (λQ u X a d KK f=>?_) ?_
  ·have p6:u 6=_:=d 6 rfl;rw[p6] at f⊢;go_simp;exact f _ _ a (AL _ _) rfl
  refine Zk.con (λQ u X a d KK f=>?_) ?_
  ·have p5:u 5=_:=d 5 rfl;have p7:u 7=_:=d 7 rfl;rw[p5,p7] at f⊢;go_simp;exact f _ _ a (AL _ _) rfl
  refine Zk.con (λQ u X a d KK f=>?_) ?_
  ·have p8:u 8=_:=d 8 rfl;rw[p8] at f⊢;go_simp;exact f _ _ (Zo a _) (Zy _ _) ⟨_,rfl,a.size,Blk.new _ _ _⟩
  exact Zk.nil
 ·intro Q u X a d KK f;have p3:u 3=_:=d 3 AC;have p4:u 4=_:=d 4 AC;obtain⟨D,p9,fj,av⟩:=d 9 AC;generalize u 3=x3 at *;subst p3;generalize u 4=x4 at *;subst p4;generalize u 9=x9 at *;subst p9;have bi:=ab.below a;obtain⟨ts,W⟩:=bi.known;have cg:U4 prog 220 (kB l n):=Zs6 AA AA;obtain⟨w',dp,ck,ch⟩:=W.map.put (b:=D) Tryz.keyKB underlying162 W.few cg;have a9:=bi.put W HK ⟨I,R.length,L,bq,av,b5 _ _ _ (bu.below a)⟩ (by rintro (h | h);exact absurd (HS _ h) AA;omega) ck ch;have c6:=LH (And.intro a9.1 (And.intro ((Off.of_below a).trans a9.2.1 λ_ _ h=>h) a9.2.2));unfold kB at dp;go_simp;exact f (λi=>([u 0,u 1,u 2,.map (some M),.agg #[.string (str (Vr l)),.int .i64 (n:Int)],u 5,u 6,u 7,u 8,Value.pointer (some ⟨D,0,none⟩)]:List Value).getD i undef) _ (⟨D,ts,c6⟩)
 intro u z dk;obtain⟨D,ts,b9,a6,cc⟩:=dk;have ay:=LH b9;have bz:=LH (bx.map_trans a6);have cz:=LH (a6.blk az (ab.not_map az));have bd:=LH (a6.blk ad (ab.not_map ad));obtain⟨bv,F,hv,di⟩:=cc.there (By ..);obtain⟨Av,nv,cv,dv,V,aw⟩:=hv;unfold kB at F;have H:=ay.box.lt;have Y:z.cell? ⟨gc,4,none⟩=some (.map (some M)):=ay.box.cell 4;have N:z.cell? ⟨B,0,none⟩=some (.string (str (Vr l))):=bd.cell 0;have O:z.cell? ⟨B,1,none⟩=some (.int .i64 (n:Int)):=bd.cell 1;have P:=bd.lt;have v0:z.cell? ⟨bv,0,none⟩=some (.slice Av nv cv):=V.cell 0;have v1:z.cell? ⟨bv,1,none⟩=some (.bool dv):=V.cell 1;have vl:=V.lt;have bc:=Yt z;go_upto_region 13 with fail;refine Yx 8 AB AB ?_;simp only[List.take_succ_cons,List.take_zero,List.drop_succ_cons,Ed];repeat (go_big_quiet_step (fail))
 refine BL ?_;rintro _⟨y,rfl⟩;have j:=Zr z y;have o:=cz.ext j;have ak:=LH (Zxm (S:=S) (ay.below j) o (aw.below j) (bz.map_trans (Off.of_below j)) (.inr rfl) cf (AJ _) λq hq => .inl hq);have d0:(bl z y).cell? ⟨w,0,none⟩=some (.slice none 0 0):=o.cell 0;have d1:(bl z y).cell? ⟨w,1,none⟩=some (.bool false):=o.cell 1;have f0:=o.frozen 0;have f1:=o.frozen 1;have l5:=o.lt;generalize bl z y=WZ at *;go_wp2_with fail;refine AW (AX (p:=6) AB _ _ w 168 #[.slice Av nv cv,.bool dv] (0,0) _ rfl ak.1 underlying168 rfl AB) rfl ?_;exact ak.2
end
