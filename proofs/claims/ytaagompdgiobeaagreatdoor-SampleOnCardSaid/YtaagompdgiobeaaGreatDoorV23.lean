/- ranks: what the numbers' functions give, of numbers. -/
import Derived.Test.YtaagompdgiobeaaGreatDoorV19
import Derived.Test.YtaagompdgiobeaaGreatDoorV20
import Derived.Test.YtaagompdgiobeaaGreatDoorV21
set_option linter.all false
set_option maxHeartbeats 1500000
set_option maxRecDepth 100000
namespace Go.Proofs.YtaagompdgiobeaaGreatDoor
open Go.RowKit Go.Proofs.Tryz
variable{f d:Option Addr}{i:Nat}{a:World}{j:Array Value}{p:Qr}
theorem Zu6(Ar:Option Addr)(cr a:Nat)(b:Option Addr)(ns c:Nat)(k:Bool)(x:Nat)(w:World)(y:Zq .u32 w Ar (limbs a).length cr (limbs a))(A:a<big)(B:Z1 w b ns c k x):
 Calls prog 108 #[.slice Ar (limbs a).length cr,.agg #[.slice b ns c,.bool k]] w (RetOver a x Ar cr w):=by
 have o:=Zy w (.cells #[.slice b ns c,.bool k] 168);have n:=Blk.new w 168 #[.slice b ns c,.bool k];have z:=y.below o;have p:=B.below o;have q:=LH o;have v:=LH z;go_enter func108,ntmps108;go_upto_region 1 with fail;generalize w.alloc (.cells #[.slice b ns c,.bool k] 168)=j at *;have N:j.cell? ⟨w,0,none⟩=some (.slice b ns c):=n.cell 0;have O:j.cell? ⟨w,1,none⟩=some (.bool k):=n.cell 1;have P:=n.lt;have H:=LH n;rcases p.cases with ⟨C,rfl,ex⟩ | ⟨C,rfl,ex⟩
 case inr =>
  have g:a<x:=AA
  go_wp2_with fail;go_ret2;exact⟨q,.inl ⟨g,rfl⟩⟩
 have m:=p.2;rw[ex] at m;obtain rfl:=m.len;have G:=LH m;have l:=Zym Ar _ cr (limbs a) b _ c (limbs x) j v m (Z9 _) (Z9 _);rw[Zvu A C] at l;have l:=LH l;by_cases g:a<x
 case pos =>
  have J:Vm a x<0:=Q5.2 g;have s:=LH g;go_wp2_with (
   go_at_call 47;refine l.out.mono ?_;rintro e d⟨rfl,u⟩;have r:=LH (Zz q (u.below _)))
  go_ret2;exact⟨r,.inl ⟨s,rfl⟩⟩
 have J:¬Vm a x<0:=λh=>g (Q5.1 h);have s:Hid (x<=a):=LH AA;have E:Hid (∀d,Below j j d->Calls prog 103 #[.slice Ar (limbs a).length cr,.slice b (limbs x).length c] d (Xr d (limbs (a-x),0))):=LH λd f=>by
  have h:=nat_sub Ar _ cr (limbs a) b _ c (limbs x) d (v.below f) (G.below f) (Z9 _) (Z9 _);rwa [Zw6 A AA] at h
 go_wp2_with (first
  | (go_at_call 47
     refine l.out.mono ?_;rintro e d⟨rfl,u⟩;have f:=u.below j;have t:=H.ext f;have R:d.cell? ⟨w,0,none⟩=some (.slice b (limbs x).length c):=t.cell 0;have S:=t.lt;have F:=LH (E d f);have r:=LH (Zz q f))
  | (go_at_call 103
     refine F.out.mono ?_;rintro e M⟨D,c3,rfl,L,I⟩))
 go_ret2;exact⟨Zz r I,.inr ⟨s,D,c3,rfl,L⟩⟩
theorem rf_here(Ar:Option Addr)(cr a:Nat)(b:Option Addr)(ns c:Nat)(d:Bool)(x:Nat)(w:World)(o:Zq .u32 w Ar (limbs a).length cr (limbs a))(z:a<big)(q:Z1 w b ns c d x):
 Calls prog 77 #[.slice Ar (limbs a).length cr,.agg #[.slice b ns c,.bool d]] w λe w'=>e = .returned (.bool (decide (a<x)))/\Below w w w':=by
 have k:=Zy w (.cells #[.slice b ns c,.bool d] 110);have j:=Blk.new w 110 #[.slice b ns c,.bool d];have p:=o.below k;have l:=q.below k;have n:=LH k;have t:=LH p;go_enter func77,ntmps77;go_upto_region 1 with fail;generalize w.alloc (.cells #[.slice b ns c,.bool d] 110)=m at *;have B:m.cell? ⟨w,0,none⟩=some (.slice b ns c):=j.cell 0;have C:m.cell? ⟨w,1,none⟩=some (.bool d):=j.cell 1;have D:=j.lt;rcases l.cases with ⟨r,rfl,ex⟩ | ⟨r,rfl,ex⟩
 case inr =>
  have u:Hid (decide (a<x)=true):=DW AA;go_wp2_with fail;go_ret;exact⟨by rw[u];rfl,n⟩
 have g:=l.2;rw[ex] at g;obtain rfl:=g.len;have f:=Le Ar _ cr (limbs a) b _ c (limbs x) m t g (Z9 _) (Z9 _);rw[Zvu z r] at f;unfold Quiet at f;have f:=LH f;have hd:decide (Vm a x<0)=decide (a<x):=by
  by_cases h:a<x
  ·rw[DW h,DW (Q5.2 h)]
  rw[BR h,BR λv=>h (Q5.1 v)]
 go_wp2_with (first
  | (go_at_call 36
     refine f.out.mono ?_;rintro e A⟨rfl,y⟩;have s:=LH (Zz n (y.below _))))
 go_ret;exact⟨by first | rfl | rw[hd],s⟩
theorem Ztz(h:GH)(G:Gr)(n:Nat)(w:World)(B:Yf w h G)(h1:h.n1<=100)(h2:h.n2<=100)(h3:h.n3<=100)(hP:Xq G)(hO:Ni G (N5 G).1)(hn:n<=100):
 Calls prog 30 #[GV h G.start,.int .i64 (n:Int)] w (RetMake G n w):=by
 obtain⟨a1,n1,c1,a2,n2,c2,a3,n3,c3⟩:=h;have e2:G.nons.length=n2:=B.nons.len;have e3:G.rules.length=n3:=B.rules.len;have k2:=B.nons.cap;have k3:=B.rules.cap;simp only[] at h1 h2 h3 k2 k3;have Hg:=LH B;have bq:=Zy w (.cells #[.slice a1 n1 c1,.slice a2 n2 c2,.slice a3 n3 c3,.int .i64 G.start] 26);have bx:=Y1.new w 26 ⟨a1,n1,c1,a2,n2,c2,a3,n3,c3⟩ G.start;clear B;go_enter func30,ntmps30;have⟨z5,z0,z1,z2,z3⟩:=bx;simp only[] at z0 z1 z2 z3;go_wp2_with fail;generalize w.alloc (.cells #[.slice a1 n1 c1,.slice a2 n2 c2,.slice a3 n3 c3,.int .i64 G.start] 26)=W0 at *;(with_reducible refine (rf_Order ⟨a1,n1,c1,a2,n2,c2,a3,n3,c3⟩ G W0 (Hg.out.below bq) (by simp only[];omega) (by simp only[];omega) (by simp only[];omega)).mono ?_);rintro e y⟨bv,Ao,co,rfl,hI⟩;have cd:=LH (Zz bq bv);have aq:=LH (bx.below bv);have hr:=hI.cap;have HP:=LH hP;have be:=LH hP.fits;have HO:=LH hO;have fy:(Z6 (N5 G).1).length=(N5 G).1.length:=by simp[Z6]
 generalize (N5 G).2=er at *;generalize (N5 G).1=C at *;have HI:=LH hI;clear z0 z1 z2 z3 z5 bx bv bq hI hP hO fy;go_wp2_with fail;go_loopw [5,8] (λcv i wr=>∃(m:Nat) (A:Option Addr) (c:Nat) (R:List Nat) (tab:Nat->Nat->Nat),m<=n+1/\i = .int .i64 (m:Int)/\cv = .slice A m c/\Hid (Jc wr y.heap.size A m c n2 R tab)/\Hid (Ll G C tab m 0)/\Hid (∀k,m<=k->∀i,tab k i=0)/\Hid (Below y.heap.size y wr)) (λ_ i _=>n+1-(intOf i).toNat)
 case atStart=>exact⟨0,none,0,[],λ_ _=>0,AS _,rfl,rfl,LH (Jc.start _ _ _ _),LH (Ll.start G C),LH λ_ _ _=>rfl,LH (AL _ _)⟩
 obtain⟨m,A,c,R,tab,hm,rfl,rfl,z,HD,HZ,q⟩:=hrel;have O:=aq.out.below q.out;have⟨y5,y0,y1,y2,y3⟩:=O;simp only[] at y0 y1 y2 y3;clear O;by_cases hf:m<=n
 case neg =>
  obtain rfl:n+1=m:=AA
  have hl:¬(((n+1:Nat):Int)<=(n:Int)):=AA
  have d3:Hid (RetMake G n w (.returned (.slice A (n+1) c)) wr):=LH ⟨Zz cd.out q.out,A,c,tab,rfl,by rw[e2];exact z.out.tab,λk hk i hi=>HD.out.low k AA i hi⟩;go_wp2_with fail;go_ret;exact d3.out
 have fx:=Zzv n2 AA;have dl:=Vp.new wr 110 n2;have dk:=Zy wr (.cells (zeroCells n2) 110);have dh:(wr.alloc (.cells (zeroCells n2) 110)).heap.size=wr.heap.size+1:=Zl _ _;have b3:=Zy (wr.alloc (.cells (zeroCells n2) 110)) (.cells #[.slice (some ⟨wr.heap.size,0,none⟩) n2 n2] 115);have dc:((wr.alloc (.cells (zeroCells n2) 110)).alloc (.cells #[.slice (some ⟨wr.heap.size,0,none⟩) n2 n2] 115)).cell? ⟨(wr.alloc (.cells (zeroCells n2) 110)).heap.size,0,none⟩=some (.slice (some ⟨wr.heap.size,0,none⟩) n2 n2):=(Blk.new _ 115 #[.slice (some ⟨wr.heap.size,0,none⟩) n2 n2]).cell 0;have bh:=LH (Zz dk b3);have bj:=LH (dl.below b3);have af:=LH (z.out.below bh.out);have df:∀g∈R,g<wr.heap.size:=λg B=>by
  obtain⟨j,hj⟩:=BU B;exact (z.out.row j g hj).2.lt
 have cl:=LH df;have bi:=LH dc;have ay:y.heap.size<=wr.heap.size:=q.out.size;have bw:y.heap.size<=((wr.alloc (.cells (zeroCells n2) 110)).alloc (.cells #[.slice (some ⟨wr.heap.size,0,none⟩) n2 n2] 115)).heap.size:=by rw[Zl,Zl];omega
 have d9:=LH Tryz.infoValS;have cn:=LH dh;clear dl dk b3 dc df dh;go_upto_region 7 with (at_builtin;refine Zqv rfl _ _ 70 rfl y.heap.size 115 _ 24 underlying70 d9.out AC (by intro u hu k x he;subst he;simp[Value.cells] at hu) A m c (R.map λg=>Value.slice (some ⟨g,0,none⟩) n2 n2) rfl af.out.own af.out.noInt slices_noInt _ 1 (.slice (some ⟨wr.heap.size,0,none⟩) n2 n2) rfl (by first | exact bi.out | (rw[<-cn.out];exact bi.out)) rfl (by intro k x he;cases he) AA AA bw ?_;intro A5 c5 w5 ho B ha dd);have dx:Hid (Jc w5 y.heap.size A5 (m+1) c5 n2 (R++[wr.heap.size]) tab):=LH (af.out.snoc ho B dd (by rw[<-zero_row n2 m λi=>HZ.out m (AJ _) i];exact bj.out) ay λfv=>Nat.lt_irrefl _ (cl.out _ fv));have ds:Hid (Below y.heap.size y w5):=LH ((q.out.trans (bh.out.mono ay)).trans ((Off.of_grown B).is_below bw λk hk=>(af.out.own.lt k hk).1));have g8:wr.heap.size<w5.heap.size:=AK bj.out.lt B.size;have bg:Hid ((R++[wr.heap.size])[m]? = some wr.heap.size):=LH (by rw[BV (by rw[z.out.len];exact AJ _),z.out.len,Nat.sub_self];rfl);have g7:y.heap.size<=wr.heap.size:=ay;clear ho B ha dd fx bw ay y0 y1 y2 y3 y5;generalize wr.heap.size=L at *;generalize R++[L]=ag at *;clear z af q bh bj cl bi cn;go_wp2_with fail;go_loopw [9] (λi Y=>∃(p:Nat) (f:Nat->Nat->Nat),p<=C.length/\i = .int .i64 (p:Int)/\Hid (Jc Y y.heap.size A5 (m+1) c5 n2 ag f)/\Hid (Ll G C f m p)/\Hid (∀k,m<k->∀i,f k i=0)/\Hid (Below y.heap.size y Y)) (λi _=>C.length-(intOf i).toNat)
 case atStart=>exact⟨0,tab,AS _,rfl,dx,HD,LH λk hk i=>HZ.out k AA i,ds⟩
 obtain⟨p,f,d,rfl,z,a7,bb,q⟩:=hrel;have O:=aq.out.below q.out;have⟨y5,y0,y1,y2,y3⟩:=O;simp only[] at y0 y1 y2 y3;clear O;by_cases b4:p<C.length
 case neg =>
  obtain rfl:p=C.length:=AA
  have a8:Hid (Ll G C f (m+1) 0):=LH (a7.out.row HO.out λi=>bb.out (m+1) AA i);have bd:Hid (∀k,m+1<=k->∀i,f k i=0):=LH λk hk i=>bb.out k AA i;go_wp2_with fail;go_roundw
  case rel=>exact⟨m+1,A5,c5,ag,f,AA,AF,rfl,z,a8,bd,q⟩
  simp[intOf] <;> omega
 have br:=Zy wr (.cells #[.slice none 0 0,.bool false] 110);have c8:=Blk.new wr 110 #[.slice none 0 0,.bool false];obtain⟨o,ar⟩:∃o,Hid (C[p]? = some o):=⟨_,LH (AM b4)⟩;have da:o<n2:=by rw[<-e2];exact HO.out.lt o (AN ar.out)
 have di:∀g∈ag,g<wr.heap.size:=λg B=>by
  obtain⟨j,hj⟩:=BU B;exact (z.out.row j g hj).2.lt
 have dj:∀b,(Value.slice A5 (m+1) c5).ownBlock=some b->b<wr.heap.size:=λb U=>(z.out.own.lt b U).2;have dy:=LH (z.out.below br);have du:=LH (q.out.trans (br.mono q.out.size));have g9:y.heap.size<=wr.heap.size:=q.out.size;go_upto_region 11 with fail;generalize wr.alloc (.cells #[.slice none 0 0,.bool false] 110)=WS at *;generalize wr.heap.size=H at *;have d2:=LH c8;have fe:=LH di;have ff:=LH dj;clear c8 di dj br z q y0 y1 y2 y3 y5;go_wp2_with fail;go_loopw [11] (λi Y=>∃(k:Nat) (I:Option Addr) (ns cs:Nat) (J:Bool),k<=n3/\i = .int .i64 (k:Int)/\Hid (Jc Y y.heap.size A5 (m+1) c5 n2 ag f)/\Hid (Blk Y H 110 #[.slice I ns cs,.bool J])/\Hid (Z1 Y I ns cs J (Yc (Yk f) (G.rules.take k) o m))/\Hid (Below y.heap.size y Y)) (λi _=>n3-(intOf i).toNat)
 case atStart=>exact⟨0,none,0,0,false,AS _,rfl,dy,d2,LH (Z1.zero _ _ _ AA),du⟩
 obtain⟨k,I,ns,cs,J,hk,rfl,z,Z,HV,q⟩:=hrel;have O:=aq.out.below q.out;have⟨y5,y0,y1,y2,y3⟩:=O;simp only[] at y0 y1 y2 y3;clear O;have x0:wr.cell? ⟨H,0,none⟩=some (.slice I ns cs):=Z.out.cell 0;have x1:wr.cell? ⟨H,1,none⟩=some (.bool J):=Z.out.cell 1;have xl:=Z.out.lt;obtain⟨V,W,ov,rfl,hq,fa,fl⟩:=(HI.out.below q.out).get (j:=p) (by first | exact b4 | (simp[Z6];exact b4));have fz:ov=(o:Int):=by have:=fa.out;unfold Z6 at this;rw[BB,ar.out] at this;simpa using this.symm
 subst fz;by_cases fw:k<n3
 case neg =>
  obtain rfl:k=n3:=AA
  as_aux_lemma =>
   have cp:Hid (Yc (Yk f) (G.rules.take k) o m=Zv G (-1-(o:Int)) m):=LH (by rw[AR AA];exact a7.out.next HP.out HO.out ar.out);obtain⟨tb,tu,rfl,_,ht,fd,gx,_⟩:=Gh z.out.own (j:=m) AA;have f3:tu = .slice (some ⟨L,0,none⟩) n2 n2:=by have:=fd.out;rw[BB,bg.out] at this;simpa using this.symm
   subst f3;have ak:=(z.out.row m L bg.out).2;obtain⟨Aq,nq,cq,dq,g0,g1,_⟩:=ak.get (j:=o) (by simp;exact da);have cw:=ak.frozen (o*2);have cx:=ak.frozen (o*2+1);have az:=ak.lt;have cf:=LH λx:Ext wr=>(z.out.below (Zr wr x)).put bg.out da (HV.out.below (Zr wr x));have fs:=q.out.size;have a8:Hid (Ll G C (U6 f m o (Yc (Yk f) (G.rules.take k) o m)) m (p+1)):=LH (a7.out.put ar.out _ cp.out);have bd:Hid (∀k',m<k'->∀i,U6 f m o (Yc (Yk f) (G.rules.take k) o m) k' i=0):=LH λk' b2 i=>by unfold U6;rw[if_neg AA];exact bb.out k' b2 i
   clear ak cp;generalize Yc (Yk f) (G.rules.take k) o m=vN at *;go_upto_region 16 with fail;have bc:=Yt wr;have bf:=Kh wr;refine Yx 10 AB AB ?_;simp only[List.take_succ_cons,List.take_zero,List.drop_succ_cons,Ed];repeat (go_big_quiet_step (fail))
   refine BL ?_;rintro _⟨x,rfl⟩;have c0:=(bc x L (o*2) az).trans g0;have c1:=(bc x L (o*2+1) az).trans g1;have d0:=(bf x L (o*2) az).trans cw;have d1:=(bf x L (o*2+1) az).trans cx;have f2:=Lb wr x;go_wp2_with fail;go_roundw
   case rel=>exact⟨p+1,_,AA,AF,LH (cf.out x).1,a8,bd,LH ((q.out.trans ((Zr wr x).mono q.out.size)).trans ((cf.out x).2.is_below (BC fs f2) λk' b2=>AA))⟩
   simp[intOf] <;> omega
 obtain⟨D,F,r,Ar,cr,rfl,a4,Hr,q0,q1,q2,dg⟩:=(Hg.out.below (Zz cd.out q.out)).rules.get fw;have a0:=AN Hr.out;obtain⟨l1,l2⟩:=be.out.left r a0;have hc:=be.out.len r a0;have b5:=be.out.symB a0;rw[e2] at b5;have au:=LH (rulesT_take (T:=Yk f) Hr.out o m);obtain⟨E,db⟩:∃E:Nat,r.left=(E:Int):=⟨r.left.toNat,AA⟩;have cj:Hid (r.left.toNat=E):=LH AA;rw[db] at q0;have bc:=Yt wr;have fc:=LH b5;have cm:=LH dg;clear b5 dg l1 l2 db a0;by_cases b1:E=o
 case neg =>
  as_aux_lemma =>
   have ft:((E:Int)==(o:Int))=false:=by rw[AQ];omega
   have ai:Yc (Yk f) (G.rules.take (k+1)) o m=Yc (Yk f) (G.rules.take k) o m:=by rw[au.out,if_neg (by rw[cj.out];exact b1),DO]
   have ba:=LH ai;clear b1 ai au;go_upto_region 14 with fail;refine Zs AB AB ?_;repeat (go_big_quiet_step (fail))
   refine BL ?_;rintro _⟨x,rfl⟩;go_wp2_with fail;go_roundw
   case rel=>exact⟨k+1,I,ns,cs,J,AA,AF,LH (z.out.below (Zr wr x)),LH (Blk.ext Z.out (Zr wr x)),LH (by rw[ba.out];exact HV.out.below (Zr wr x)),LH (q.out.trans ((Zr wr x).mono q.out.size))⟩
   simp[intOf] <;> omega
 subst b1;have ft:((E:Int)==(E:Int))=true:=AE
 have ai:Yc (Yk f) (G.rules.take (k+1)) E m=Yc (Yk f) (G.rules.take k) E m+Zx (Yk f) r.right m:=by rw[au.out,if_pos cj.out]
 have ba:=LH ai;clear ai au;generalize Yc (Yk f) (G.rules.take k) E m=vN at *;go_upto_region 14 with fail;refine Zs AB AB ?_;repeat (go_big_quiet_step (fail))
 refine BL ?_;rintro _⟨x,rfl⟩;have cg:=LH (z.out.below (Zr wr x));have ap:=LH (Blk.ext Z.out (Zr wr x));have dz:=LH (HV.out.below (Zr wr x));have an:=LH (q.out.trans ((Zr wr x).mono q.out.size));have f0:D<(bl wr x).heap.size:=AK a4 (Lb wr x);have gm:=(bc x D (F+k*3) a4).trans q0;have dn:=(bc x D (F+k*3+1) a4).trans q1;have fb:=LH (cm.out.below (Zr wr x));generalize bl wr x=WY at *;clear z Z HV q cm q0 q1 q2 bc a4 x0 x1 xl fl y0 y1 y2 y3 y5 x;have⟨y5,y0,y1,y2,y3⟩:=aq.out.below an.out;simp only[] at y0 y1 y2 y3;have x0:WY.cell? ⟨H,0,none⟩=some (.slice I ns cs):=ap.out.cell 0;have x1:WY.cell? ⟨H,1,none⟩=some (.bool J):=ap.out.cell 1;have xl:=ap.out.lt;go_upto_region 15 with fail;refine Xh (λX=>Below WY.heap.size WY X) (λX X'=>Below X.heap.size X X') (λu=>(⟨(GV ⟨a1,n1,c1,a2,n2,c2,some ⟨D,F,none⟩,n3,c3⟩ G.start::Value.int IntKind.i64 (n:Int)::Value.pointer (some ⟨w.heap.size,0,none⟩)::undef::Value.slice none 0 0::Value.slice A5 (m+1) c5::Value.slice (some ⟨V,W,none⟩) C.length co::Value.int IntKind.i64 er::Value.int IntKind.i64 (m:Int)::Value.int IntKind.i64 (p:Int)::Value.pointer (some ⟨H,0,none⟩)::Value.int IntKind.i64 (k:Int)::Value.tuple #[Value.slice (some ⟨V,W,none⟩) C.length co,Value.int IntKind.i64 er]::Value.agg #[Value.slice a1 n1 c1,Value.slice a2 n2 c2,Value.slice (some ⟨D,F,none⟩) n3 c3,Value.int IntKind.i64 G.start]::Value.tuple #[Value.slice (some ⟨V,W,none⟩) C.length co,Value.int IntKind.i64 er]::Value.slice (some ⟨V,W,none⟩) C.length co::Value.int IntKind.i64 er::Value.int IntKind.i64 (m:Int)::Value.int IntKind.i64 (n:Int)::Value.bool true::u20::u21::Value.slice A m c::Value.pointer (some ⟨w.heap.size,1,none⟩)::Value.slice a2 n2 c2::Value.int IntKind.i64 (n2:Int)::Value.slice (some ⟨L,0,none⟩) n2 n2::Value.slice (some ⟨L+1,0,none⟩) 1 1::Value.slice A5 (m+1) c5::Value.int IntKind.i64 (p:Int)::Value.slice (some ⟨V,W,none⟩) C.length co::Value.int IntKind.i64 (C.length:Int)::Value.bool true::u33::u34::Value.agg #[Value.slice none 0 0,Value.bool false]::Value.int IntKind.i64 (k:Int)::Value.pointer (some ⟨w.heap.size,2,none⟩)::Value.slice (some ⟨D,F,none⟩) n3 c3::Value.int IntKind.i64 (n3:Int)::Value.bool true::u41::u42::Value.pointer (some ⟨w.heap.size,2,none⟩)::Value.slice (some ⟨D,F,none⟩) n3 c3::Value.int IntKind.i64 (k:Int)::Value.pointer (some ⟨D,F+k*3,none⟩)::Value.pointer (some ⟨D,F+k*3,none⟩)::Value.int IntKind.i64 (E:Int)::Value.slice (some ⟨V,W,none⟩) C.length co::Value.int IntKind.i64 (p:Int)::Value.pointer (some ⟨V,W+p,none⟩)::Value.int IntKind.i64 (E:Int)::Value.bool true::u 0::u 1::u 2::u 3::u 4::u 5::u 6::u 7::u 8::u 9::u 10::u65::u66::u67::u68::u69::u70::u71::u72::u73::u74::undef::[]).toArray,[]⟩:Act)) [u54,u55,u56,u57,u58,u59,u60,u61,u62,u63,u64] [λv X=>v=Value.agg #[Value.slice I ns cs,Value.bool J],λv X=>v=Value.slice A5 (m+1) c5,λv X=>v=Value.pointer (some ⟨w.heap.size,2,none⟩),λv X=>v=Value.slice (some ⟨D,F,none⟩) n3 c3,λv X=>v=Value.int .i64 (k:Int),λv X=>v=Value.pointer (some ⟨D,F+k*3,none⟩),λv X=>v=Value.pointer (some ⟨D,F+k*3+1,none⟩),λv X=>v=Value.slice Ar r.right.length cr,λv X=>v=Value.int .i64 (m:Int),λv X=>∃A n c b,v=Value.agg #[Value.slice A n c,Value.bool b]/\Z1 X A n c b (Zx (Yk f) r.right m),λv X=>∃A n c b,v=Value.agg #[Value.slice A n c,Value.bool b]/\Z1 X A n c b (vN+Zx (Yk f) r.right m)] (λu X=>∃At P M N,Jc X y.heap.size A5 (m+1) c5 n2 ag f/\Blk X H 110 #[Value.slice At P M,Value.bool N]/\Z1 X At P M N (vN+Zx (Yk f) r.right m)/\Below y.heap.size y X) (l:=[_,_,_,_,_,_,_,_,_,_,_]) AB AB AB rfl rfl (AL _ _).drew ⟨AI,AI,AI,AI,AI,AI,AI,AI,AI,(λ_ _ _ ⟨A,n,c,b,e,h⟩ U=>⟨A,n,c,b,e,h.below U⟩),(λ_ _ _ ⟨A,n,c,b,e,h⟩ U=>⟨A,n,c,b,e,h.below U⟩),trivial⟩ ?_ ?_ ?_
 ·refine Zk.con (λQ u X a d KK t=>?_) ?_
  ·have bk:=(a.cell (p:=⟨H,0,none⟩) xl).trans x0;have fk:=(a.cell (p:=⟨H,1,none⟩) xl).trans x1;go_simp;exact t _ _ a (AL _ _) rfl
  refine Zk.con (λQ u X a d KK t=>?_) ?_
  ·go_simp;exact t _ _ a (AL _ _) rfl
  refine Zk.con (λQ u X a d KK t=>?_) ?_
  ·have hw:=AK y5 a.size;go_simp;exact t _ _ a (AL _ _) rfl
  refine Zk.con (λQ u X a d KK t=>?_) ?_
  ·have p2:u 2=_:=d 2 rfl;clear d;rw[p2] at t⊢;have bk:=(a.cell (p:=⟨w.heap.size,2,none⟩) y5).trans y2;go_simp;exact t _ _ a (AL _ _) rfl
  refine Zk.con (λQ u X a d KK t=>?_) ?_
  ·go_simp;exact t _ _ a (AL _ _) rfl
  refine Zk.con (λQ u X a d KK t=>?_) ?_
  ·have p3:u 3=_:=d 3 rfl;have p4:u 4=_:=d 4 rfl;clear d;rw[p3,p4] at t⊢;go_simp;exact t _ _ a (AL _ _) rfl
  refine Zk.con (λQ u X a d KK t=>?_) ?_
  ·have p5:u 5=_:=d 5 rfl;clear d;rw[p5] at t⊢;go_simp;exact t _ _ a (AL _ _) rfl
  refine Zk.con (λQ u X a d KK t=>?_) ?_
  ·have p6:u 6=_:=d 6 rfl;clear d;rw[p6] at t⊢;have bk:=(a.cell (p:=⟨D,F+k*3+1,none⟩) f0).trans dn;go_simp;exact t _ _ a (AL _ _) rfl
  refine Zk.con (λQ u X a d KK t=>?_) ?_
  ·go_simp;exact t _ _ a (AL _ _) rfl
  refine Zk.con (λQ u X a d KK t=>?_) ?_
  ·have p1:u 1=_:=d 1 rfl;have p7:u 7=_:=d 7 rfl;have p8:u 8=_:=d 8 rfl;clear d;rw[p1,p7,p8] at t⊢;have fq:=cg.out.tab.below a;have fp:=fb.out.below a;go_simp;(with_reducible refine (Kd A5 (m+1) c5 n2 f Ar cr r.right m X fq (Em m) AA AA fp AA λs hs=>by have:=fc.out s hs;omega).mono ?_);rintro e w2⟨ah,a6,nr,bm,dr,rfl,b6⟩;go_simp;exact t _ _ (Zz a ah) ah ⟨a6,nr,bm,dr,rfl,b6⟩
  refine Zk.con (λQ u X a d KK t=>?_) ?_
  ·have p0:u 0=_:=d 0 rfl;obtain⟨a6,nr,bm,dr,p9,b6⟩:=d 9 rfl;clear d;rw[p0] at t⊢;generalize u 9=x9 at *;subst p9;have f5:=dz.out.below a;go_simp;(with_reducible refine (Zuc I ns cs J _ a6 nr bm dr _ X f5 b6).mono ?_);rintro e w2⟨ah,At,P,M,N,rfl,b7⟩;go_simp;exact t _ _ (Zz a ah) ah ⟨At,P,M,N,rfl,b7⟩
  exact Zk.nil
 ·intro Q u X a d KK t;obtain⟨At,P,M,N,gd,b7⟩:=d 10 AC;clear d;generalize u 10=hz at *;subst gd;have S:=Blk.ext ap.out a;have ad:=valcell_set S At P M N;have bk:X.cell? ⟨H,0,none⟩=some (.slice I ns cs):=S.cell 0;have fk:X.cell? ⟨H,1,none⟩=some (.bool J):=S.cell 1;have cw:=S.frozen 0;have cx:=S.frozen 1;have hv:=S.lt;have c7:=(cg.out.below a).off ad.1 (λb U e=>by have:=ff.out b U;omega) (λg B e=>by have:=fe.out g B;omega) ad.2.2;have c4:=(an.out.trans (a.mono an.out.size)).trans (ad.1.is_below (BC an.out.size a.size) λk' b2=>AA);have d4:=LH (And.intro c7 (And.intro ad.2.1 (And.intro (b7.kept ad.2.2) c4)));clear c7 c4 ad S;go_simp;exact t (λi=>([u 0,u 1,u 2,u 3,u 4,u 5,u 6,u 7,u 8,u 9,Value.agg #[Value.slice At P M,Value.bool N]]:List Value).getD i undef) _ (⟨At,P,M,N,d4.out⟩)
 intro u W9 fu;obtain⟨A9,n9,c9,b9,g1,g2,g3,g4⟩:=fu;have d5:=LH g1;have d6:=LH g2;have d8:=LH g4;rw[<-ba.out] at g3;have d7:=LH g3;clear g1 g2 g3 g4 x0 x1 gm dn y0 y1 y2 y3 y5;go_wp2_with fail;go_roundw
 case rel=>exact⟨k+1,A9,n9,c9,b9,AA,AF,d5,d6,d7,d8⟩
 simp[intOf] <;> omega
section
variable {W0:World} {k:BkH} {h:GH} {G:Gr} {S':Nat->Prop} {w:World} {gR:Nat} {b:Nat->Bool} {u:Nat->Value} {X:World}
variable {W0:World} {k:BkH} {h:GH} {G:Gr} {mk:Nat} {cs:List Nat} {S:Nat->Prop} {A:Option Addr} {c:Nat} {W:World}
theorem Me.push{n b:World}{g:Nat}(M:Me W0 k h G mk cs S A c W)(u:Below W W n)(r:M4 b W0 f (cs.length+1) g (cs.map (λi:Nat=>(i:Int))++[(i:Int)]))(E:n.grownBy b (Value.slice A cs.length c).ownBlock)(L:cs.length≠300):
 Blk b mk 99 #[.pointer (some ⟨k.c,0,none⟩),.slice A cs.length c]/\MkAt W0 k h G mk (cs++[i]) (b.setCell ⟨mk,1,none⟩ (.slice f (cs.length+1) g))/\Zu W (b.setCell ⟨mk,1,none⟩ (.slice f (cs.length+1) g)):=by
 have d:=M.below u;have p:Off (λq=>(Value.slice A cs.length c).ownBlock=some q) n b:=Off.of_grown E;have y:Zu n b:=Zu.of_off p λq a=>d.row.no32 q a;have F:(Value.slice A cs.length c).ownBlock≠some mk:=λe=>by
  obtain⟨_,_,v,j⟩:=d.row.blk e;exact absurd (j.same_ty d.box) AC
 have s:=d.bk.moveN p y λq a=>by
  obtain⟨J,N,v,j⟩:=d.row.blk a;refine⟨d.own.2 q a,J,λe=>?_,d.bk.not_map j⟩;have h1:=d.bk.box;rw[<-e] at h1;exact absurd (h1.same_ty j) AC
 have l:=p.blk d.box F;have m:=Off.of_set b mk 1 (.slice f (cs.length+1) g);have H:∀o z,b.cell? ⟨mk,o,none⟩≠some (Value.int .u32 z):=λo z x=>by
  rw[l.cell o] at x;rcases o with _ | _ | o <;> cases x
 have B:Zu b (b.setCell ⟨mk,1,none⟩ (.slice f (cs.length+1) g)):=Zu.of_off m λq a o z=>by rw[a];exact H o z
 have C:(Value.slice f (cs.length+1) g).ownBlock≠some mk:=λe=>by
  obtain⟨_,_,v,j⟩:=r.blk e;exact absurd (j.same_ty l) AC
 have D:=(s.moveN m B λq a=>by
  subst a;exact⟨M.own.1,M.low,M.ne_c,s.not_map l⟩).wide (P:=λq=>(Value.slice f (cs.length+1) g).ownBlock=some q) λq a v j=>by
   obtain⟨_,_,O,I⟩:=(r.off m λq a e=>C (by rw[a,e])).blk a;exact absurd (j.same_ty I) AC
 have t:=r.off m λq a e=>C (by rw[a,e]);refine⟨l,⟨_,f,g,D,?_,?_,⟨.inl M.own.1,λq a => .inr ?_⟩,λq a=>?_,M.low,?_⟩,((Zu.of_below u).trans y).trans B⟩
 ·rw[AV];exact l.set 1 _
 ·rw[AV,DJ];exact t
 ·rw[AV] at a;exact a
 ·rcases a with a | a
  ·exact AK (d.lt q a) (BC p.size m.size)
  exact (t.blk a).2.1
 have:=M.few;rw[AV,CX];omega
end
section
variable {W X:World} {L:List Qr} {b:Nat->Bool} {u:Nat->Value}
theorem VMs.more{k:World}(M:VMs W L b u X)(l:Below X X k)(hi:∀p∈L,i≠p.ia/\i≠p.is/\(i=p.ic->b p.is=false))(v:Value):VMs W L (Mz b i) (upd u i v) k:=by
 refine⟨Zz M.below l,λp f h=>?_,λp f q n y h1 j=>?_⟩
 ·obtain⟨h1,j,s⟩:=hi p f;rw[Ys h1.symm] at h;obtain⟨g,o,e,x,t,d⟩:=M.at_ p f h;refine⟨g,o,by rw[Yj h1.symm];exact e,x,t.ext l,?_⟩;rw[Ys j.symm];rcases d with d | ⟨d,r⟩
  ·exact .inl d
  refine .inr ⟨d,?_⟩;by_cases m:i=p.ic
  ·rw[s m] at d;cases d
  rw[Yj λe=>m e.symm];exact r
 have a:=(hi p f).1;have c:=(hi q n).1;rw[Ys a.symm] at h1;rw[Ys c.symm] at j;rw[Yj a.symm,Yj c.symm];exact M.apart p f q n y h1 j
theorem VMs.idle(M:VMs W L b u X)(c:Below X X a)(i:Nat)(hi:L.all (λp=>p.ia != i&&p.is != i&&p.ic != i)=true)(v:Value):VMs W L (Mz b i) (upd u i v) a :=
 M.more c (λp d=>by
   have h:=BG.1 hi p d;simp only[AU,BK] at h;exact⟨h.1.1.symm,h.1.2.symm,λe=>absurd e.symm h.2⟩) v
theorem VMs.call(M:VMs W L b u X)(c:Below X X a)(i:Nat){j:Nat}(f:b j=false)(hi:L.all (λp=>p.ia != i&&p.is != i&&(p.ic != i || p.is==j))=true)(v:Value):VMs W L (Mz b i) (upd u i v) a :=
 M.more c (λp d=>by
   have h:=BG.1 hi p d;simp only[AU,BK,CJ,BW] at h;exact⟨h.1.1.symm,h.1.2.symm,λe=>h.2.elim (λh=>absurd e.symm h) λh=>by rw[h];exact f⟩) v
theorem VMs.made(M:VMs W L b u X)(A:p∈L)(y:b p.is=false)(m:∀q∈L,(q.ia=p.ia->q=p)/\q.is≠p.ia/\q.ic≠p.ia):VMs W L (Mz b p.ia) (upd u p.ia (.pointer (some ⟨X,0,none⟩))) (X.alloc (.cells p.z p.ty)):=by
 have t:=Zy X (.cells p.z p.ty);have s:∀q∈L,q.ia≠p.ia->Mz b p.ia q.ia=true->∃g f,u q.ia = .pointer (some ⟨g,0,none⟩)/\W.heap.size<=g/\Blk X g q.ty f/\((b q.is=false/\f=q.z)\/(b q.is=true/\u q.ic = .agg f)):=λq c l h=>by
  rw[Ys l] at h;exact M.at_ q c h
 refine⟨Zz M.below t,λq c h=>?_,λq c r v l h1 n=>?_⟩
 ·by_cases d:q.ia=p.ia
  ·obtain rfl:=(m q c).1 d;exact⟨X,q.z,D1,M.below.size,Blk.new X q.ty q.z,.inl ⟨by rw[Ys (m q c).2.1];exact y,rfl⟩⟩
  obtain⟨g,f,e,o,k,x⟩:=s q c d h;exact⟨g,f,by rw[Yj d];exact e,o,k.ext t,by rw[Ys (m q c).2.1,Yj (m q c).2.2];exact x⟩
 by_cases d:q.ia=p.ia
 ·have j:r.ia≠p.ia:=λe=>l (d.trans e.symm);obtain⟨g,f,e,o,k,_⟩:=s r v j n;rw[d,D1,Yj j,e];intro a;injection a with a;injection a with a;injection a with a;have:=k.lt;omega
 by_cases j:r.ia=p.ia
 ·obtain⟨g,f,e,o,k,_⟩:=s q c d h1;rw[j,D1,Yj d,e];intro a;injection a with a;injection a with a;injection a with a;have:=k.lt;omega
 rw[Yj d,Yj j];rw[Ys d] at h1;rw[Ys j] at n;exact M.apart q c r v l h1 n
theorem VMs.wrote{f:World}(M:VMs W L b u X)(I:p∈L)(h:b p.ia=true){g:Nat}(e:u p.ia = .pointer (some ⟨g,0,none⟩))(y:W.heap.size<=g)(J:u p.ic = .agg j)(D:Blk f g p.ty j)(z:Off (λq=>q=g) X f)(n:∀q∈L,(q.ia=p.ia->q=p)/\q.ia≠p.is/\q.ic≠p.is/\(q.is=p.is->q=p))(v:Value):VMs W L (Mz b p.is) (upd u p.is v) f:=by
 refine⟨M.below.trans (z.is_below M.below.size λq d=>by rw[d];exact y),λq d k=>?_,λq d r A l h1 x=>?_⟩
 ·obtain⟨N,o,B,O⟩:=n q d;rw[Ys o] at k;by_cases m:q=p
  ·subst m;exact⟨g,j,by rw[Yj o];exact e,y,D,.inr ⟨Ztw,by rw[Yj B];exact J⟩⟩
  obtain⟨t,C,s,G,E,F⟩:=M.at_ q d k;have l:t≠g:=λH=>M.apart q d p I (λe=>m (N e)) k h (by rw[s,e,H]);refine⟨t,C,by rw[Yj o];exact s,G,z.blk E l,?_⟩;rw[Ys λe=>m (O e),Yj B];exact F
 have a:=(n q d).2.1;have c:=(n r A).2.1;rw[Ys a] at h1;rw[Ys c] at x;rw[Yj a,Yj c];exact M.apart q d r A l h1 x
theorem VMs.put2(M:VMs W L b u X)(m:p∈L)(h:b p.ia=true)(s:b p.is=false)(t:∀q∈L,(q.ia=p.ia->q=p)/\q.ia≠p.is/\q.ic≠p.is/\(q.is=p.is->q=p)){j k a c:Value}(y:p.z=#[j,k])(h0:∀q,j ≠ .int .u32 q)(h1:∀q,k ≠ .int .u32 q)(x:u p.ic = .agg #[a,c]):
 ∃g,u p.ia = .pointer (some ⟨g,0,none⟩)/\Blk X g p.ty #[j,k]/\(∀v,VMs W L (Mz b p.is) (upd u p.is v) ((X.setCell ⟨g,0,none⟩ a).setCell ⟨g,1,none⟩ c))/\Zu X ((X.setCell ⟨g,0,none⟩ a).setCell ⟨g,1,none⟩ c):=by
 obtain⟨g,e,n,d⟩:=M.there m h s;rw[y] at d;have l:Off (λq=>q=g) X ((X.setCell ⟨g,0,none⟩ a).setCell ⟨g,1,none⟩ c):=(Off.of_set X g 0 a).trans (Off.of_set _ g 1 c) λ_ _ h=>h;refine⟨g,e,d,λv=>M.wrote m h e n x ((d.set 0 a).set 1 c) l t v,Zu.of_off l λq r o z f=>?_⟩;rw[r,d.cell o] at f;rcases o with _ | _ | o
 ·exact h0 z (BH f)
 ·exact h1 z (BH f)
 cases f
end
section
variable {W0:World} {h:GH} {G:Gr} {At:Option Addr} {nt ct wk:Nat} {cs:List Nat} {full:Bool} {A:Option Addr} {c:Nat} {W:World}
theorem Bp.below{b:World}(M:Bp W0 h G At nt ct wk cs full A c W)(a:Below W W b):Bp W0 h G At nt ct wk cs full A c b :=
 ⟨Zz M.base a,M.box.ext a,M.row.off (Off.of_below (S:=λ_=>False) a) λ_ _=>id,M.low,M.few⟩
theorem Bp.push{j:World}{f:Nat}(M:Bp W0 h G At nt ct wk cs full A c W)(r:Below W W j)(p:M4 a W0 d (cs.length+1) f (cs.map (λi:Nat=>(i:Int))++[(i:Int)]))(t:j.grownBy a (Value.slice A cs.length c).ownBlock)(D:cs.length≠300):
 Blk a wk 87 #[.slice h.a1 h.n1 h.c1,.slice h.a2 h.n2 h.c2,.slice h.a3 h.n3 h.c3,.int .i64 G.start,.slice At nt ct,.slice A cs.length c,.bool full]/\WkAt W0 h G At nt ct wk (cs++[i]) full (a.setCell ⟨wk,5,none⟩ (.slice d (cs.length+1) f))/\Zu W (a.setCell ⟨wk,5,none⟩ (.slice d (cs.length+1) f)):=by
 have g:=M.below r;have l:Off (λq=>(Value.slice A cs.length c).ownBlock=some q) j a:=Off.of_grown t;have u:Zu j a:=Zu.of_off l λq b=>g.row.no32 q b;have k:=l.blk g.box g.apart;have m:=Off.of_set a wk 5 (.slice d (cs.length+1) f);have y:∀o z,a.cell? ⟨wk,o,none⟩≠some (Value.int .u32 z):=λo z s=>by
  rw[k.cell o] at s;rcases o with _ | _ | _ | _ | _ | _ | _ | o <;> cases s
 have x:Zu a (a.setCell ⟨wk,5,none⟩ (.slice d (cs.length+1) f)):=Zu.of_off m λq b o z=>by rw[b];exact y o z
 have C:(Value.slice d (cs.length+1) f).ownBlock≠some wk:=λe=>by
  obtain⟨_,_,v,B⟩:=p.blk e;exact absurd (B.same_ty k) AC
 have n:=g.base.trans (l.is_below g.base.size λq b=>(g.row.blk b).1);refine⟨k,⟨d,f,n.trans (m.is_below n.size λq b=>by rw[b];exact M.low),?_,?_,M.low,?_⟩,((Zu.of_below r).trans u).trans x⟩
 ·rw[AV];exact k.set 5 _
 ·rw[AV,DJ];exact p.off m λq b e=>C (by rw[b,e])
 have:=M.few;rw[AV,CX];omega
end
theorem rf_Same9(h k:GH)(A B:Gr)(w:World)(L:Yf w h A)(M:Yf w k B):
 Calls prog 118 #[GV h A.start,GV k B.start] w λe w'=>e = .returned (.bool (eqG A B))/\Below w w w':=by
 obtain⟨a1,n1,c1,a2,n2,c2,a3,n3,c3⟩:=h;obtain⟨b1,O,d1,b2,P,d2,b3,R,d3⟩:=k;have X:A.terms.length=n1:=L.terms.len;have Y:A.nons.length=n2:=L.nons.len;have Z:A.rules.length=n3:=L.rules.len;have g1:B.terms.length=O:=M.terms.len;have g2:B.nons.length=P:=M.nons.len;have g3:B.rules.length=R:=M.rules.len;have k1:=L.terms.cap;have k2:=L.nons.cap;have k3:=L.rules.cap;have l1:=M.terms.cap;have l2:=M.nons.cap;have l3:=M.rules.cap;simp only[] at k1 k2 k3 l1 l2 l3;have HA:=LH L;have HB:=LH M;have bk:=Y1.new w 26 ⟨a1,n1,c1,a2,n2,c2,a3,n3,c3⟩ A.start;have am:=Y1.new (w.alloc (.cells #[.slice a1 n1 c1,.slice a2 n2 c2,.slice a3 n3 c3,.int .i64 A.start] 26)) 26 ⟨b1,O,d1,b2,P,d2,b3,R,d3⟩ B.start;have bd:=Zy w (.cells #[.slice a1 n1 c1,.slice a2 n2 c2,.slice a3 n3 c3,.int .i64 A.start] 26);have a0:=Zy (w.alloc (.cells #[.slice a1 n1 c1,.slice a2 n2 c2,.slice a3 n3 c3,.int .i64 A.start] 26)) (.cells #[.slice b1 O d1,.slice b2 P d2,.slice b3 R d3,.int .i64 B.start] 26);have bf:(w.alloc (.cells #[.slice a1 n1 c1,.slice a2 n2 c2,.slice a3 n3 c3,.int .i64 A.start] 26)).heap.size=w.heap.size+1:=Zl _ _;have az:=bk.below a0;have hW:=Zz bd a0;clear L M bk bd a0;go_enter func118,ntmps118;go_upto_region 1 with fail;generalize (w.alloc (.cells #[.slice a1 n1 c1,.slice a2 n2 c2,.slice a3 n3 c3,.int .i64 A.start] 26)).alloc (.cells #[.slice b1 O d1,.slice b2 P d2,.slice b3 R d3,.int .i64 B.start] 26)=W at *;rw[bf] at am;have C:=LH az;have D:=LH am;have b:=LH hW;have⟨y5,y0,y1,y2,y3⟩:=az;simp only[] at y0 y1 y2 y3;have⟨z5,z0,z1,z2,z3⟩:=am;simp only[] at z0 z1 z2 z3;clear az am bf hW;have s:A≠B->Hid (eqG A B=false):=λh=>LH (eqG_no h);by_cases q1:n1=O
 case neg =>
  have m:=s (by rintro rfl;omega);have i1:((n1:Int) != (O:Int))=true:=by rw[BK];omega
  clear s q1 X Y Z g1 g2 g3;go_wp2_with fail;go_ret;exact⟨by rw[m.out];rfl,b.out⟩
 have i1:((n1:Int) != (O:Int))=false:=by rw[BM];omega
 by_cases q2:n2=P
 case neg =>
  have m:=s (by rintro rfl;omega);have i2:((n2:Int) != (P:Int))=true:=by rw[BK];omega
  clear s q1 q2 X Y Z g1 g2 g3;go_wp2_with fail;go_ret;exact⟨by rw[m.out];rfl,b.out⟩
 have i2:((n2:Int) != (P:Int))=false:=by rw[BM];omega
 by_cases q3:n3=R
 case neg =>
  have m:=s (by rintro rfl;omega);have y:((n3:Int) != (R:Int))=true:=by rw[BK];omega
  clear s q1 q2 q3 X Y Z g1 g2 g3;go_wp2_with fail;go_ret;exact⟨by rw[m.out];rfl,b.out⟩
 have y:((n3:Int) != (R:Int))=false:=by rw[BM];omega
 by_cases q4:A.start=B.start
 case neg =>
  have m:=s (by rintro rfl;exact q4 rfl);have i4:(A.start != B.start)=true:=by rw[BK];exact q4
  clear s q1 q2 q3 q4 X Y Z g1 g2 g3;go_wp2_with fail;go_ret;exact⟨by rw[m.out];rfl,b.out⟩
 have i4:(A.start != B.start)=false:=by rw[BM];exact q4
 have b0:=LH q4;have E1:=LH X;have E2:=LH Y;have E3:=LH Z;have G1:=LH g1;have G2:=LH g2;have G3:=LH g3;obtain rfl:n1=O:=q1;obtain rfl:n2=P:=q2;obtain rfl:n3=R:=q3;have m:=LH s;clear s q4 X Y Z g1 g2 g3;go_wp2_with fail;clear i1 i2 y i4 y0 y1 y2 y3 z0 z1 z2 z3;go_loopw [5] (λi wr=>∃q:Nat,q<=n1/\i = .int .i64 (q:Int)/\Hid (A.terms.take q=B.terms.take q)/\Hid (Below W W wr)) (λi _=>n1-(intOf i).toNat)
 case atStart=>exact⟨0,AS _,rfl,LH rfl,LH (AL _ _)⟩
 obtain⟨q,hq,rfl,n,a⟩:=hrel;have⟨y5',y0,y1,y2,y3⟩:=C.out.below a.out;simp only[] at y0 y1 y2 y3;have⟨z5',z0,z1,z2,z3⟩:=D.out.below a.out;simp only[] at z0 z1 z2 z3;by_cases N:q<n1
 case pos =>
  obtain⟨tb,bn,t,rfl,bg,E,p0,p1,p2⟩:=(HA.out.below (Zz b.out a.out)).terms.get N;obtain⟨ub,bp,u,rfl,bi,F,r0,r1,r2⟩:=(HB.out.below (Zz b.out a.out)).terms.get N;have ae:=eq_trm t u;have cm:=Tryz.guardTerm;have bc:=Yt wr;cases v:trmB t u
  case false =>
   have d:=m.out (λe=>by
    have h1:=E.out;rw[e,F.out] at h1;have:u=t:=by simpa using h1
    rw[this,Bf.2 rfl] at v;cases v)
   rw[v] at ae;go_wp2_with fail;refine Zs AB AB ?_;repeat (go_big_quiet_step (fail))
   refine BL ?_;rintro _⟨x,rfl⟩;go_wp2_with fail;go_ret;exact⟨by rw[d.out];rfl,Zz b.out (a.out.trans ((Zr wr x).mono a.out.size))⟩
  obtain rfl:=Bf.1 v;rw[v] at ae;go_wp2_with fail;refine Zs AB AB ?_;repeat (go_big_quiet_step (fail))
  refine BL ?_;rintro _⟨x,rfl⟩;go_wp2_with fail;go_roundw
  case rel=>exact⟨q+1,AA,AF,LH (Qc n.out E.out F.out),LH (a.out.trans ((Zr wr x).mono a.out.size))⟩
  simp[intOf];omega
 obtain rfl:q=n1:=AA
 have HT:Hid (A.terms=B.terms):=LH (by have:=n.out;rwa [AR (by rw[E1.out];exact AJ _),AR (by rw[G1.out];exact AJ _)] at this);have ai:=LH (Zz b.out a.out);have aj:=LH (C.out.below a.out);have ak:=LH (D.out.below a.out);go_wp2_with fail;clear y0 y1 y2 y3 z0 z1 z2 z3 y5' z5' n a C D b;have C:=aj;have D:=ak;have b:=ai;clear aj ak ai;generalize wr=W at *;go_loopw [6] (λi wr=>∃q:Nat,q<=n2/\i = .int .i64 (q:Int)/\Hid (A.nons.take q=B.nons.take q)/\Hid (Below W W wr)) (λi _=>n2-(intOf i).toNat)
 case atStart=>exact⟨0,AS _,rfl,LH rfl,LH (AL _ _)⟩
 obtain⟨q,hq,rfl,n,a⟩:=hrel;have⟨y5',y0,y1,y2,y3⟩:=C.out.below a.out;simp only[] at y0 y1 y2 y3;have⟨z5',z0,z1,z2,z3⟩:=D.out.below a.out;simp only[] at z0 z1 z2 z3;by_cases N:q<n2
 case pos =>
  obtain⟨tb,bn,t,rfl,bg,E,p0⟩:=(HA.out.below (Zz b.out a.out)).nons.get N;obtain⟨ub,bp,u,rfl,bi,F,r0⟩:=(HB.out.below (Zz b.out a.out)).nons.get N;have bc:=Yt wr;by_cases v:t=u
  case neg =>
   have ae:(t==u)=false:=by
    cases h:t==u
    ·rfl
    exact absurd (Zx5.1 h) v
   have b6:(t.toList==u.toList)=false:=by rw[<-beq_toListBytes];exact ae
   have d:=m.out (λe=>by
    have h1:=E.out;rw[e,F.out] at h1;exact v (by simpa using h1.symm))
   clear v;go_wp2_with fail;refine Zs AB AB ?_;repeat (go_big_quiet_step (fail))
   refine BL ?_;rintro _⟨x,rfl⟩;go_wp2_with fail;go_ret;exact⟨by rw[d.out];rfl,Zz b.out (a.out.trans ((Zr wr x).mono a.out.size))⟩
  subst v;have ae:(t==t)=true:=Zx5.2 rfl;have b6:(t.toList==t.toList)=true:=by rw[<-beq_toListBytes];exact ae
  go_wp2_with fail;refine Zs AB AB ?_;repeat (go_big_quiet_step (fail))
  refine BL ?_;rintro _⟨x,rfl⟩;go_wp2_with fail;go_roundw
  case rel=>exact⟨q+1,AA,AF,LH (Qc n.out E.out F.out),LH (a.out.trans ((Zr wr x).mono a.out.size))⟩
  simp[intOf];omega
 obtain rfl:q=n2:=AA
 have HN:Hid (A.nons=B.nons):=LH (by have:=n.out;rwa [AR (by rw[E2.out];exact AJ _),AR (by rw[G2.out];exact AJ _)] at this);have ai:=LH (Zz b.out a.out);have aj:=LH (C.out.below a.out);have ak:=LH (D.out.below a.out);go_wp2_with fail;clear y0 y1 y2 y3 z0 z1 z2 z3 y5' z5' n a C D b;have C:=aj;have D:=ak;have b:=ai;clear aj ak ai;generalize wr=W at *;go_loopw [7] (λi wr=>∃q:Nat,q<=n3/\i = .int .i64 (q:Int)/\Hid (A.rules.take q=B.rules.take q)/\Hid (Below W W wr)) (λi _=>n3-(intOf i).toNat)
 case atStart=>exact⟨0,AS _,rfl,LH rfl,LH (AL _ _)⟩
 obtain⟨q,hq,rfl,n,a⟩:=hrel;have⟨y5',y0,y1,y2,y3⟩:=C.out.below a.out;simp only[] at y0 y1 y2 y3;have⟨z5',z0,z1,z2,z3⟩:=D.out.below a.out;simp only[] at z0 z1 z2 z3;by_cases N:q<n3
 case neg =>
  obtain rfl:q=n3:=AA
  have HR:Hid (A.rules=B.rules):=LH (by have:=n.out;rwa [AR (by rw[E3.out];exact AJ _),AR (by rw[G3.out];exact AJ _)] at this);have b4:=LH (eqG_yes HT.out HN.out HR.out b0.out);go_wp2_with fail;go_ret;exact⟨by rw[b4.out];rfl,Zz b.out a.out⟩
 obtain⟨tb,bn,t,At,I,rfl,bg,E,p0,p1,p2,bh⟩:=(HA.out.below (Zz b.out a.out)).rules.get N;obtain⟨ub,bp,u,H,J,rfl,bi,F,r0,r1,r2,bj⟩:=(HB.out.below (Zz b.out a.out)).rules.get N;have a9:=LH bh;have ba:=LH bj;clear bh bj;go_upto_region 16 with fail;have V:Hid (t≠u->Hid (eqG A B=false)):=LH λb7=>m.out (λe=>by
  have h1:=E.out;rw[e,F.out] at h1;exact b7 (by simpa using h1.symm))
 go_region
 ·as_aux_lemma =>
   obtain⟨G,p,r⟩:=Zs0 wr 60 #[.int .i64 t.left,.slice At t.right.length I,.int .i64 t.prec] #[.int .i64 u.left,.slice H u.right.length J,.int .i64 u.prec];generalize ((wr.alloc (.cells #[.int .i64 t.left,.slice At t.right.length I,.int .i64 t.prec] 60)).alloc (.cells #[.int .i64 u.left,.slice H u.right.length J,.int .i64 u.prec] 60)).drew=f at *;have z:=LH (a.out.trans (G.mono a.out.size));have ce:f.cell? ⟨wr,0,none⟩=some (.int .i64 t.left):=p.cell 0;have cf:f.cell? ⟨wr,1,none⟩=some (.slice At t.right.length I):=p.cell 1;have cg:f.cell? ⟨wr,2,none⟩=some (.int .i64 t.prec):=p.cell 2;have ci:f.cell? ⟨(wr.heap.size+1),0,none⟩=some (.int .i64 u.left):=r.cell 0;have cj:f.cell? ⟨(wr.heap.size+1),1,none⟩=some (.slice H u.right.length J):=r.cell 1;have ck:f.cell? ⟨(wr.heap.size+1),2,none⟩=some (.int .i64 u.prec):=r.cell 2;have ch:=p.lt;have cl:=r.lt;have j:=LH (Mr At t.right.length I t.right H u.right.length J u.right f (a9.out.below G) (ba.out.below G));clear G p r y0 y1 y2 y3 z0 z1 z2 z3 p0 p1 p2 r0 r1 r2;by_cases c:t.left=u.left
   case neg =>
    have i1:(t.left != u.left)=true:=by rw[BK];exact c
    have d:=V.out λe=>c (by rw[e]);clear c;go_wp2_with (go_at_call 11;(with_reducible refine j.out.mono ?_);rintro e U⟨rfl,o⟩);go_ret;exact⟨by rw[d.out];rfl,Zz b.out z.out⟩
   have i1:(t.left != u.left)=false:=by rw[BM];exact c
   by_cases g:t.prec=u.prec
   case neg =>
    have i2:(t.prec != u.prec)=true:=by rw[BK];exact g
    have d:=V.out λe=>g (by rw[e]);clear c g;go_wp2_with (go_at_call 11;(with_reducible refine j.out.mono ?_);rintro e U⟨rfl,o⟩);go_ret;exact⟨by rw[d.out];rfl,Zz b.out z.out⟩
   have i2:(t.prec != u.prec)=false:=by rw[BM];exact g
   by_cases l:t.right=u.right
   case neg =>
    have y:(t.right==u.right)=false:=by rw[AQ];exact l
    have d:=V.out λe=>l (by rw[e]);rw[y] at j;clear c g l;go_wp2_with (go_at_call 11;(with_reducible refine j.out.mono ?_);rintro e U⟨rfl,o⟩);have S:=LH (z.out.trans (o.below _));go_ret;exact⟨by rw[d.out];rfl,Zz b.out S.out⟩
   have y:(t.right==u.right)=true:=by rw[BW];exact l
   have T:=LH (And.intro c (And.intro g l));rw[y] at j;clear c g l;go_wp2_with (go_at_call 11;(with_reducible refine j.out.mono ?_);rintro e U⟨rfl,o⟩);have S:=LH (z.out.trans (o.below _));go_roundw
   case rel=>exact⟨q+1,AA,AF,LH (Qc n.out E.out (by rw[F.out,Zwu.1 (by unfold rulB;rw[T.out.1,T.out.2.1,T.out.2.2];simp:rulB t u=true)])),S⟩
   simp[intOf];omega
 as_aux_lemma =>
  obtain⟨G,r,p⟩:=Zs0 wr 60 #[.int .i64 u.left,.slice H u.right.length J,.int .i64 u.prec] #[.int .i64 t.left,.slice At t.right.length I,.int .i64 t.prec];generalize ((wr.alloc (.cells #[.int .i64 u.left,.slice H u.right.length J,.int .i64 u.prec] 60)).alloc (.cells #[.int .i64 t.left,.slice At t.right.length I,.int .i64 t.prec] 60)).drew=f at *;have z:=LH (a.out.trans (G.mono a.out.size));have ce:f.cell? ⟨(wr.heap.size+1),0,none⟩=some (.int .i64 t.left):=p.cell 0;have cf:f.cell? ⟨(wr.heap.size+1),1,none⟩=some (.slice At t.right.length I):=p.cell 1;have cg:f.cell? ⟨(wr.heap.size+1),2,none⟩=some (.int .i64 t.prec):=p.cell 2;have ci:f.cell? ⟨wr,0,none⟩=some (.int .i64 u.left):=r.cell 0;have cj:f.cell? ⟨wr,1,none⟩=some (.slice H u.right.length J):=r.cell 1;have ck:f.cell? ⟨wr,2,none⟩=some (.int .i64 u.prec):=r.cell 2;have ch:=p.lt;have cl:=r.lt;have j:=LH (Mr At t.right.length I t.right H u.right.length J u.right f (a9.out.below G) (ba.out.below G));clear G p r y0 y1 y2 y3 z0 z1 z2 z3 p0 p1 p2 r0 r1 r2;by_cases c:t.left=u.left
  case neg =>
   have i1:(t.left != u.left)=true:=by rw[BK];exact c
   have d:=V.out λe=>c (by rw[e]);clear c;go_wp2_with (go_at_call 11;(with_reducible refine j.out.mono ?_);rintro e U⟨rfl,o⟩);go_ret;exact⟨by rw[d.out];rfl,Zz b.out z.out⟩
  have i1:(t.left != u.left)=false:=by rw[BM];exact c
  by_cases g:t.prec=u.prec
  case neg =>
   have i2:(t.prec != u.prec)=true:=by rw[BK];exact g
   have d:=V.out λe=>g (by rw[e]);clear c g;go_wp2_with (go_at_call 11;(with_reducible refine j.out.mono ?_);rintro e U⟨rfl,o⟩);go_ret;exact⟨by rw[d.out];rfl,Zz b.out z.out⟩
  have i2:(t.prec != u.prec)=false:=by rw[BM];exact g
  by_cases l:t.right=u.right
  case neg =>
   have y:(t.right==u.right)=false:=by rw[AQ];exact l
   have d:=V.out λe=>l (by rw[e]);rw[y] at j;clear c g l;go_wp2_with (go_at_call 11;(with_reducible refine j.out.mono ?_);rintro e U⟨rfl,o⟩);have S:=LH (z.out.trans (o.below _));go_ret;exact⟨by rw[d.out];rfl,Zz b.out S.out⟩
  have y:(t.right==u.right)=true:=by rw[BW];exact l
  have T:=LH (And.intro c (And.intro g l));rw[y] at j;clear c g l;go_wp2_with (go_at_call 11;(with_reducible refine j.out.mono ?_);rintro e U⟨rfl,o⟩);have S:=LH (z.out.trans (o.below _));go_roundw
  case rel=>exact⟨q+1,AA,AF,LH (Qc n.out E.out (by rw[F.out,Zwu.1 (by unfold rulB;rw[T.out.1,T.out.2.1,T.out.2.2];simp:rulB t u=true)])),S⟩
  simp[intOf];omega
theorem rf_Is(h:GH)(G:Gr)(w:World)(D:Yf w h G)(h1:h.n1<=100)(y:h.n2<=100)(z:h.n3<=100):
 Calls prog 59 #[GV h G.start] w λe w'=>e = .returned (.bool (Q9 G))/\Below w w w':=by
 obtain⟨a1,n1,c1,a2,n2,c2,a3,n3,c3⟩:=h;simp only[] at h1 y z;have v:=LH D;have t:=Zy w (.cells #[.slice a1 n1 c1,.slice a2 n2 c2,.slice a3 n3 c3,.int .i64 G.start] 26);have o:=Y1.new w 26 ⟨a1,n1,c1,a2,n2,c2,a3,n3,c3⟩ G.start;clear D;go_enter func59,ntmps59;have⟨z5,z0,z1,z2,z3⟩:=o;simp only[] at z0 z1 z2 z3;go_wp2_with fail;generalize w.alloc (.cells #[.slice a1 n1 c1,.slice a2 n2 c2,.slice a3 n3 c3,.int .i64 G.start] 26)=O at *;have g:=Zuv ⟨a1,n1,c1,a2,n2,c2,a3,n3,c3⟩ G O (v.out.below t) h1 y z;unfold Dh at g;(with_reducible refine g.mono ?_);rintro e a⟨n,⟨I,R,U,rfl⟩ | ⟨J,S,Y,nk,Z,rfl,E,V,W,X⟩⟩
 ·have b:=Zz t n;have p:Q9 G=false:=by unfold Q9;rw[I];rfl
  have ab:(R==0)=false:=by rw[AQ];exact U
  clear g I z0 z1 z2 z3 z5 o;go_wp2_with fail;go_ret;exact⟨by rw[p];rfl,b.trans ((Zy a _).mono b.size)⟩
 have b:=Zz t n;have A:=o.below n;obtain⟨c,q,j,d,r,k,f,s,l⟩:=S;have p:Q9 G=eqG G (Zi G):=by unfold Q9;rw[J];rfl
 generalize Zi G=H at *;clear g z0 z1 z2 z3 z5 o J;have m:=Zy a (.cells #[.slice c q j,.slice d r k,.slice f s l,.int .i64 H.start] 26);have C:=Y1.new a 26 ⟨c,q,j,d,r,k,f,s,l⟩ H.start;have B:=A.below m;have u:=Zz b m;have F:=E.below m;go_upto_region 2 with fail;generalize a.alloc (.cells #[.slice c q j,.slice d r k,.slice f s l,.int .i64 H.start] 26)=P at *;generalize a.heap.size=gH at *;have x:=rf_Same9 ⟨a1,n1,c1,a2,n2,c2,a3,n3,c3⟩ ⟨c,q,j,d,r,k,f,s,l⟩ G H P (v.out.below u) F;have L:=LH x;have N:=LH p;have M:=LH u;have⟨y5,y0,y1,y2,y3⟩:=B;simp only[] at y0 y1 y2 y3;have⟨x5,x0,x1,x2,x3⟩:=C;simp only[] at x0 x1 x2 x3;clear x p u B C F m n b A E V W X;go_wp2_with (go_at_call 118;(with_reducible refine L.out.mono ?_);rintro e w6⟨rfl,T⟩);go_ret;exact⟨by rw[N.out];rfl,Zz M.out T⟩
theorem rf_Of22(h:GH)(G:Gr)(Al:Option Addr)(J:Nat)(l:List Int)(n:Int)(w:World)(A:Yf w h G)(h1:h.n1<=100)(h2:h.n2<=100)(h3:h.n3<=100)(T:Za .i64 w Al l.length J l)(hi:∀s∈l,U3 s):
 Calls prog 28 #[GV h G.start,.slice Al l.length J,.int .i64 n] w (Xr w (Wi G l n)):=by
 obtain⟨a1,n1,c1,a2,n2,c2,a3,n3,c3⟩:=h;have e1:G.terms.length=n1:=A.terms.len;have e2:G.nons.length=n2:=A.nons.len;simp only[] at h1 h2 h3;have b2:=T.cap;have z:=LH A;have Hl:=LH T;have Hi:=LH hi;have L:=Zy w (.cells #[.slice a1 n1 c1,.slice a2 n2 c2,.slice a3 n3 c3,.int .i64 G.start] 26);have S:=Y1.new w 26 ⟨a1,n1,c1,a2,n2,c2,a3,n3,c3⟩ G.start;clear A T hi;go_enter func28,ntmps28;have⟨z5,z0,z1,z2,z3⟩:=S;simp only[] at z0 z1 z2 z3;go_upto_region 1 with fail;generalize w.alloc (.cells #[.slice a1 n1 c1,.slice a2 n2 c2,.slice a3 n3 c3,.int .i64 G.start] 26)=W0 at *;have g:=LH (rf_Is ⟨a1,n1,c1,a2,n2,c2,a3,n3,c3⟩ G W0 (z.out.below L) h1 h2 h3);have r:=LH L;have a8:=LH S;have c:(Q9 G=false\/6<l.length\/n<0\/10<n\/(∃s∈l,G.has s=false))->Wi G l n=([],1):=λd=>by unfold Wi;rw[if_pos d]
 have t:Hid (∀w',Below w w w'->Wi G l n=([],1)->Xr w (Wi G l n) (.returned (.tuple #[.slice none 0 0,.int .i64 1])) w'):=LH λw' hb he=>by rw[he];exact⟨none,0,rfl,Zq.nil _ _ _ _ AA,hb⟩
 clear L S;cases v:Q9 G
 case false =>
  have f:=LH (c (.inl v));rw[v] at g;clear c;go_wp2_with (go_at_call 59;(with_reducible refine g.out.mono ?_);rintro e V⟨rfl,b⟩);go_ret2;exact t.out _ (Zz r.out b) f.out
 rw[v] at g;by_cases bq:6<l.length
 case pos =>
  have f:=LH (c (.inr (.inl bq)));have i1:(6:Int)<(l.length:Int):=AA
  clear c;go_wp2_with (go_at_call 59;(with_reducible refine g.out.mono ?_);rintro e V⟨rfl,b⟩);go_ret2;exact t.out _ (Zz r.out b) f.out
 have i1:¬((6:Int)<(l.length:Int)):=AA
 by_cases ar:n<0
 case pos =>
  have f:=LH (c (.inr (.inr (.inl ar))));clear c;go_wp2_with (go_at_call 59;(with_reducible refine g.out.mono ?_);rintro e V⟨rfl,b⟩);go_ret2;exact t.out _ (Zz r.out b) f.out
 by_cases au:10<n
 case pos =>
  have f:=LH (c (.inr (.inr (.inr (.inl au)))));clear c;go_wp2_with (go_at_call 59;(with_reducible refine g.out.mono ?_);rintro e V⟨rfl,b⟩);go_ret2;exact t.out _ (Zz r.out b) f.out
 obtain⟨m,rfl⟩:∃m:Nat,n=(m:Int):=⟨n.toNat,AA⟩;have hm:m<=10:=AA
 have i2:¬((m:Int)<0):=AA
 have i3:¬(10<(m:Int)):=AA
 have a7:=LH λs (a:s∈l) (d:G.has s=false)=>c (.inr (.inr (.inr (.inr ⟨s,a,d⟩))));have Hr:=LH v;clear c ar au v;go_wp2_with (go_at_call 59;(with_reducible refine g.out.mono ?_);rintro e W1⟨rfl,P⟩);have y:=LH (Zz r.out P);have ab:=LH (a8.out.below P);clear P g z0 z1 z2 z3 z5 i1 i2 i3;go_wp2_with fail;go_loopw [8] (λi wr=>∃q:Nat,q<=l.length/\i = .int .i64 (q:Int)/\Hid (∀j,j<q->∀s,l[j]? = some s->G.has s=true)/\Hid (Below W1 W1 wr)) (λi _=>l.length-(intOf i).toNat)
 case atStart=>exact⟨0,AS _,rfl,LH λj u=>absurd u (Nat.not_lt_zero j),LH (AL _ _)⟩
 obtain⟨q,hq,rfl,I,k⟩:=hrel;have⟨y5,y0,y1,y2,y3⟩:=ab.out.below k.out;simp only[] at y0 y1 y2 y3;by_cases br:q<l.length
 case pos =>
  obtain⟨lb,lo,E,rfl,b3,ag,b0⟩:=(Hl.out.below (Zz y.out k.out)).get br;have B:=AN ag.out;have bc:=Yt wr;have CH:=LH λx:Ext wr=>rf_has ⟨a1,n1,c1,a2,n2,c2,a3,n3,c3⟩ G E (bl wr x) ((z.out.below (Zz y.out k.out)).below (Zr wr x)) (Hi.out E B) (by simp only[];omega) (by simp only[];omega);cases d:G.has E
  case false =>
   have f:=LH (a7.out E B d);rw[d] at CH;clear B d;go_wp2_with fail;refine Zs AB AB ?_;repeat (go_big_quiet_step ((go_at_call 60;with_reducible exact Ve (CH.out _))))
   refine BL ?_;rintro _⟨x,rfl⟩;go_wp2_with fail;go_ret2;exact t.out _ (Zz (Zz y.out k.out) (Zr wr x)) f.out
  have be:Hid (∀j,j<q+1->∀s,l[j]? = some s->G.has s=true):=LH λj u s a=>by
   rcases (AA:j<q\/j=q) with h | rfl
   ·exact I.out j h s a
   rw[ag.out] at a;rw[<-BH a];exact d
  rw[d] at CH;clear B d;go_wp2_with fail;refine Zs AB AB ?_;repeat (go_big_quiet_step ((go_at_call 60;with_reducible exact Ve (CH.out _))))
  refine BL ?_;rintro _⟨x,rfl⟩;go_wp2_with fail;go_roundw
  case rel=>exact⟨q+1,AA,AF,be,LH (k.out.trans ((Zr wr x).mono k.out.size))⟩
  simp[intOf];omega
 obtain rfl:q=l.length:=AA
 have O:∀s∈l,G.has s=true:=λs a=>by
  obtain⟨j,u⟩:=BU a;exact I.out j (AO.1 u).1 s u
 have o:Wi G l (m:Int)=if Vh G≠0 then ([],10) else Xm (Zx (Zv G) l m):=by
  unfold Wi;rw[if_neg]
  ·rfl
  rintro (h | h | h | h | ⟨s,a,h⟩)
  ·rw[Hr.out] at h;cases h
  ·omega
  ·omega
  ·omega
  rw[O s a] at h;cases h
 have Y:=LH (Zz y.out k.out);have aa:=LH O;have ae:=LH o;clear I O o;go_wp2_with fail;(with_reducible refine (Zvc ⟨a1,n1,c1,a2,n2,c2,a3,n3,c3⟩ G wr (z.out.below Y.out) (by simp only[];omega) (by simp only[];omega) (by simp only[];omega)).mono ?_);rintro e W3⟨R,rfl⟩;have F:=LH (Zz Y.out R);have a9:=LH ((ab.out.below k.out).below R);have b4:=Ztq G;have o:=ae.out;clear y0 y1 y2 y3 y5 R ae;by_cases p:Vh G=0
 case neg =>
  have H:=LH o;have i4:(((Vh G:Nat):Int) != 0)=true:=by rw[BK];omega
  have Hc:=LH p;clear o p;go_wp2_with fail;go_ret2;rw[H.out,if_pos Hc.out];exact⟨none,0,rfl,Zq.nil _ _ _ _ AA,F.out⟩
 have i4:(((Vh G:Nat):Int) != 0)=false:=by rw[p];rfl
 rw[if_neg (by rw[p];simp)] at o;obtain⟨C,aq⟩:=Zzn.1 Hr.out;have D:G.right=true/\(Zt G).getD G.start.toNat false=true:=by unfold Xp at C;rw[AU] at C;exact C
 obtain⟨M,ao,hO⟩:=U7 D.1 D.2 aq p;have aw:(N5 G).1=(Y4 (Yz G) (Qm G) G.nons.length G.nons.length).1:=by unfold N5;rw[D.1,ao];rfl
 have H:=LH o;have HP:=LH M;have X:=LH (Ztz ⟨a1,n1,c1,a2,n2,c2,a3,n3,c3⟩ G m W3 (z.out.below F.out) (by simp only[];omega) (by simp only[];omega) (by simp only[];omega) M (by rw[aw];exact hO) AA);clear o C aq D M ao hO aw p;generalize Vh G=cy at *;have⟨y5,y0,y1,y2,y3⟩:=a9.out;simp only[] at y0 y1 y2 y3;go_wp2_with fail;(with_reducible refine X.out.mono ?_);rintro e W4⟨am,A4,c4,tab,rfl,N,ax⟩;have Z:=LH (Zz F.out am);rw[e2] at N;have an:∀s∈l,-(n2:Int)<=s/\s<=1000:=λs a=>by
  have:=H7 (aa.out s a);rw[e1,e2] at this;omega
 have ap:=told_forest ax (l:=l) (λs a h0=>by
  have:=H7 (aa.out s a);unfold Zp;omega) (AJ m)
 have W:=LH (Kd A4 (m+1) c4 n2 tab Al J l m W4 N (Em m) AA AA (Hl.out.below Z.out) AA an);have bb:=LH ap;clear X am N ax an ap y0 y1 y2 y3 y5;go_wp2_with fail;(with_reducible refine W.out.mono ?_);rintro e W5⟨bo,A5,k5,c5,b5,rfl,U⟩;have a4:=LH (Zz Z.out bo);rw[bb.out] at U;go_wp2_with fail;(with_reducible refine (rf_told A5 k5 c5 b5 _ W5 U).mono ?_);rintro e W6⟨A6,c6,rfl,av,b⟩;have a6:=LH av;have a5:=LH (Zz a4.out b);clear U av b W;generalize Xm (Zx (Zv G) l m)=b9 at *;go_wp2_with fail;go_ret2;rw[H.out];exact⟨A6,c6,rfl,a6.out,a5.out⟩
theorem Lj(h:GH)(G:Gr)(n:Int)(w:World)(hg:Yf w h G)(h1:h.n1<=100)(W:h.n2<=100)(X:h.n3<=100):
 Calls prog 15 #[GV h G.start,.int .i64 n] w (Xr w (Z2 G n)):=by
 obtain⟨a1,n1,c1,a2,n2,c2,a3,n3,c3⟩:=h;simp only[] at h1 W X;have V:=LH hg;have F:=Zy w (.cells #[.slice a1 n1 c1,.slice a2 n2 c2,.slice a3 n3 c3,.int .i64 G.start] 26);have N:=Y1.new w 26 ⟨a1,n1,c1,a2,n2,c2,a3,n3,c3⟩ G.start;clear hg;go_enter func15,ntmps15;have⟨z5,z0,z1,z2,z3⟩:=N;simp only[] at z0 z1 z2 z3;go_upto_region 1 with fail;generalize w.alloc (.cells #[.slice a1 n1 c1,.slice a2 n2 c2,.slice a3 n3 c3,.int .i64 G.start] 26)=W0 at *;have b:=LH (Jr ⟨a1,n1,c1,a2,n2,c2,a3,n3,c3⟩ G W0 (V.below F) (by simp only[];omega) (by simp only[];omega) (by simp only[];omega));have o:=LH F;have au:=LH N;have c:(G.right=false\/n<0\/10<n)->Z2 G n=([],1):=λhh=>by unfold Z2;rw[if_pos hh]
 have p:Hid (∀w' k,Below w w w'->Z2 G n=([],k)->Xr w (Z2 G n) (.returned (.tuple #[.slice none 0 0,.int .i64 (k:Int)])) w'):=LH λw' k hb he=>by rw[he];exact⟨none,0,rfl,Zq.nil _ _ _ _ AA,hb⟩
 clear F N;cases f:G.right
 case false =>
  have g:=LH (c (.inl f));rw[f] at b;clear c;go_wp2_with (go_at_call 26;refine b.out.mono ?_;rintro e w6⟨rfl,a⟩);go_ret2;exact p _ 1 (Zz o a) g
 rw[f] at b;by_cases ah:n<0
 case pos =>
  have g:=LH (c (.inr (.inl ah)));clear c;go_wp2_with (go_at_call 26;refine b.out.mono ?_;rintro e w6⟨rfl,a⟩);go_ret2;exact p _ 1 (Zz o a) g
 by_cases ai:10<n
 case pos =>
  have g:=LH (c (.inr (.inr ai)));clear c;go_wp2_with (go_at_call 26;refine b.out.mono ?_;rintro e w6⟨rfl,a⟩);go_ret2;exact p _ 1 (Zz o a) g
 have Hr:=LH f;have ag:Z2 G n=if Xp G=false then ([],0) else Wi (Zi G) [-1-(Zi G).start] n:=by
  unfold Z2;rw[if_neg];rintro (h | h | h)
  ·rw[f] at h;cases h
  ·exact ah h
  exact ai h
 have E:=LH ag;clear c ag f;go_wp2_with (
  go_at_call 26;refine b.out.mono ?_;rintro e W1⟨rfl,L⟩;obtain⟨y5,R,S,T,U⟩:=au.below L;simp only[] at R S T U)
 have I:=Zz o L;clear b z0 z1 z2 z3 z5 L;have u:=Zuv ⟨a1,n1,c1,a2,n2,c2,a3,n3,c3⟩ G W1 (V.below I) h1 W X;unfold Dh at u;refine u.mono ?_;rintro e j⟨M,⟨ak,k,a5,rfl⟩ | ⟨m,h',Ak,nk,ck,rfl,ae,m1,m2,m3⟩⟩
 ·have l:=Zz I M;have bg:(k != 0)=true:=by rw[BK];exact a5
  have D:Hid (Z2 G n=([],0)):=LH (by rw[E,if_pos ak]);clear u ak R S T U y5;go_wp2_with fail;go_ret2;exact p _ 0 (l.trans ((Zy j _).mono l.size)) D
 have l:=Zz I M;have P:G.right=true/\(Zt G).getD G.start.toNat false=true:=by unfold Xp at m;rw[AU] at m;exact m
 have Z:=Ju P.1 P.2;have D:Hid (Z2 G n=Wi (Zi G) [-1-(Zi G).start] n):=LH (by rw[E,if_neg (by rw[m];simp)]);obtain⟨q,z,v,r,A,x,t,B,y⟩:=h';generalize Zi G=H at *;obtain⟨bk,bl,bm⟩:=Zsk Z;clear u R S T U y5 m P Z E;simp only[] at m1 m2 m3;have J:=Zy j (.cells #[.slice q z v,.slice r A x,.slice t B y,.int .i64 H.start] 26);have ab:=Y1.new j 26 ⟨q,z,v,r,A,x,t,B,y⟩ H.start;have Y:=Zz l J;have af:=ae.below J;go_upto_region 4 with fail;generalize j.alloc (.cells #[.slice q z v,.slice r A x,.slice t B y,.int .i64 H.start] 26)=d at *;generalize j.heap.size=gH at *;have av:=LH af;have ao:=LH Y;have⟨x5,x0,x1,x2,x3⟩:=ab;simp only[] at x0 x1 x2 x3;have bh:IntKind.i64.wrap (-1-H.start)=-1-H.start:=Cc _ AA;have O:=Zy d (.cells #[.int .i64 (-1-H.start)] 3);have hL:Za .i64 (d.alloc (.cells #[.int .i64 (-1-H.start)] 3)) (some ⟨d,0,none⟩) 1 1 [-1-H.start]:=N6 d 3 (ints .i64 [-1-H.start]) 1 _ rfl rfl AC;have C:=LH (rf_Of22 ⟨q,z,v,r,A,x,t,B,y⟩ H (some ⟨d,0,none⟩) 1 [-1-H.start] n (d.alloc (.cells #[.int .i64 (-1-H.start)] 3)) (av.below O) (by simp only[];omega) (by simp only[];omega) (by simp only[];omega) hL (λs hs=>by rw[BP.1 hs];unfold U3;omega));have ap:=LH (Zz ao O);simp only[AY,DE,BF] at C;clear hL O af Y J ae l M ab;go_wp2_with fail;refine C.out.mono ?_;rintro e W6⟨A6,c6,rfl,aj,a⟩;have ar:=LH aj;have aq:=LH (Zz ap a);clear aj a C;generalize Wi H [-1-H.start] n=bj at *;go_wp2_with fail;go_ret2;rw[D];exact⟨A6,c6,rfl,ar,aq⟩
