/- how many forests any symbols have: the program's Of, walked. -/
import Derived.Test.YtggbjdmpjidhgaaGreatDoorV25
import Derived.Test.YtggbjdmpjidhgaaGreatDoorV26
import Derived.Test.YtggbjdmpjidhgaaGreatDoorV27
set_option linter.all false
set_option maxHeartbeats 1500000
set_option maxRecDepth 100000
namespace Go.Proofs.YtggbjdmpjidhgaaGreatDoor
open Go.RowKit Go.Proofs.Tryz
variable{W0:World}{k:BkH}{l:List Int}
theorem tr_cOf(h:GH)(G:Gr)(Al:Option Addr)(v:Nat)(l:List Int)(n:Int)(w:World)(R:Yf w h G)(o:∀t∈G.terms,t.name.size<=maxLen)(a4:Q2 w)(h1:h.n1<=100)(h2:h.n2<=100)(h3:h.n3<=100)(y:Za .i64 w Al l.length v l)(hi:∀s∈l,U3 s):
 Calls prog 15 #[GV h G.start,.slice Al l.length v,.int .i64 n] w (Xr w (Wi G l n)):=by
 obtain⟨a1,n1,c1,a2,n2,c2,a3,n3,c3⟩:=h;have e1:G.terms.length=n1:=R.terms.len;have e2:G.nons.length=n2:=R.nons.len;simp only[] at h1 h2 h3;have ca:=y.cap;have O:=LH R;have Hl:=LH y;have Hi:=LH hi;have Z:=LH o;have bh:=LH a4;have aa:=Zy w (.cells #[.slice a1 n1 c1,.slice a2 n2 c2,.slice a3 n3 c3,.int .i64 G.start] 26);have ah:=Y1.new w 26 ⟨a1,n1,c1,a2,n2,c2,a3,n3,c3⟩ G.start;clear R y hi o a4;go_enter func15,ntmps15;have⟨z5,z0,z1,z2,z3⟩:=ah;simp only[] at z0 z1 z2 z3;go_upto_region 1 with fail;generalize w.alloc (.cells #[.slice a1 n1 c1,.slice a2 n2 c2,.slice a3 n3 c3,.int .i64 G.start] 26)=W0 at *;have f:=LH (tr_Is ⟨a1,n1,c1,a2,n2,c2,a3,n3,c3⟩ G W0 (O.out.below aa) Z.out h1 h2 h3);have r:=LH aa;have N:=LH ah;have d:(Q9 G=false\/6<l.length\/n<0\/10<n\/(∃s∈l,G.has s=false))->Wi G l n=([],1):=λhh=>by unfold Wi;rw[if_pos hh]
 have P:Hid (∀w',Below w w w'->Wi G l n=([],1)->Xr w (Wi G l n) (.returned (.tuple #[.slice none 0 0,.int .i64 1])) w'):=LH λw' hb he=>by rw[he];exact⟨none,0,rfl,Zq.nil _ _ _ _ AA,hb⟩
 clear aa ah;cases H:Q9 G
 case false =>
  have u:=LH (d (.inl H));rw[H] at f;clear d;go_wp2_with (go_at_call 42;(with_reducible refine f.out.mono ?_);rintro e U⟨rfl,a⟩);go_ret2;exact P.out _ (Zz r.out a) u.out
 rw[H] at f;by_cases bz:6<l.length
 case pos =>
  have u:=LH (d (.inr (.inl bz)));have i1:(6:Int)<(l.length:Int):=AA
  clear d;go_wp2_with (go_at_call 42;(with_reducible refine f.out.mono ?_);rintro e U⟨rfl,a⟩);go_ret2;exact P.out _ (Zz r.out a) u.out
 have i1:¬((6:Int)<(l.length:Int)):=AA
 by_cases hn:0<=n/\n<=10
 case neg =>
  have u:=LH (d (by rcases (AA:n<0\/10<n) with h | h;exact .inr (.inr (.inl h));exact .inr (.inr (.inr (.inl h)))));have E:(decide (0<=n)&&decide (n<=10))=false:=by rw[Bool.and_eq_false_iff,AY,AY];omega
  have p:=λX=>Ld n X;rw[E] at p;have A:=LH p;clear d E p hn;go_wp2_with (first
   | (go_at_call 42;(with_reducible refine f.out.mono ?_);rintro e U⟨rfl,a⟩)
   | (go_at_call 43;(with_reducible refine (A.out _).mono ?_);rintro e w7⟨rfl,rfl⟩))
  go_ret2;exact P.out _ (Zz r.out a) u.out
 obtain⟨m,rfl⟩:∃m:Nat,n=(m:Int):=⟨n.toNat,AA⟩;have hm:m<=10:=AA
 have E:(decide (0<=(m:Int))&&decide ((m:Int)<=10))=true:=by rw[AR,BB,BB];exact hn
 have p:=λX=>Ld (m:Int) X;rw[E] at p;have A:=LH p;have Hr:=LH H;clear E p hn H;have F:(l.any λs=>!G.has s)=!l.all G.has:=by rw[List.all_eq_not_any_not];simp
 have z:Hid (∀W,Below w w W->Y1 W w ⟨a1,n1,c1,a2,n2,c2,a3,n3,c3⟩ G.start->Calls prog 44 #[.slice Al l.length v,.func (.func 45) #[] #[.pointer (some ⟨w,0,none⟩)]] W λe w'=>e = .returned (.bool (!l.all G.has))/\Below W W w'):=LH λW D hX=>by
  have hT:Zyw 45 #[.pointer (some ⟨w,0,none⟩)] (Value.int .i64) W l (λs=>!G.has s):=λs b0 w' a5 =>
   tr_cof1 ⟨a1,n1,c1,a2,n2,c2,a3,n3,c3⟩ G w s w' ((O.out.below D).below a5) (Hi.out s b0) (by simp only[];omega) (by simp only[];omega) (hX.below a5)
  have g:=U1 Al l.length v l 45 _ (λs=>!G.has s) W enters_cof1 (Hl.out.below D) hT;rwa [F] at g
 cases c:l.all G.has
 case false =>
  have u:=LH (d (.inr (.inr (.inr (.inr (by
   rw[List.all_eq_false] at c;obtain⟨s,o,hh⟩:=c;exact⟨s,o,by simpa using hh⟩))))))
  rw[c] at z;clear d c F;go_wp2_with (first
   | (go_at_call 42;(with_reducible refine f.out.mono ?_);rintro e U⟨rfl,a⟩)
   | (go_at_call 43;(with_reducible refine (A.out _).mono ?_);rintro e w7⟨rfl,rfl⟩)
   | (go_at_call 44;(with_reducible refine (z.out _ (Zz r.out a) (N.out.below a)).mono ?_);rintro e w8⟨rfl,x⟩))
  go_ret2;exact P.out _ (Zz (Zz r.out a) x) u.out
 have j:Wi G l (m:Int)=if Vh G≠0 then ([],10) else Xm (Zx (Zv G) l m):=by
  unfold Wi;rw[if_neg]
  ·rfl
  rintro (h | h | h | h | ⟨s,o,h⟩)
  ·rw[Hr.out] at h;cases h
  ·omega
  ·omega
  ·omega
  rw[BG] at c;rw[c s o] at h;cases h
 have bi:=LH (BG.1 c);have av:=LH j;rw[c] at z;clear d c F j;have CY:Hid (∀W,Below w w W->Calls prog 47 #[GV ⟨a1,n1,c1,a2,n2,c2,a3,n3,c3⟩ G.start] W λe w'=>Below W W w'/\e = .returned (.int .u32 ((Vh G:Nat):Int))):=LH λW D =>
  tr_Cycles stepsSaid ⟨a1,n1,c1,a2,n2,c2,a3,n3,c3⟩ G W (O.out.below D) Z.out (bh.out.below D) (by simp only[];omega) (by simp only[];omega) (by simp only[];omega)
 go_wp2_with (first
  | (go_at_call 42;(with_reducible refine f.out.mono ?_);rintro e U⟨rfl,a⟩)
  | (go_at_call 43;(with_reducible refine (A.out _).mono ?_);rintro e w7⟨rfl,rfl⟩)
  | (go_at_call 44
     (with_reducible refine (z.out _ (Zz r.out a) (N.out.below a)).mono ?_);rintro e w8⟨rfl,x⟩;obtain⟨y5,I,J,L,M⟩:=N.out.below (Zz a x);simp only[] at I J L M))
 have V:=LH (Zz (Zz r.out a) x);have ar:=LH (N.out.below (Zz a x));clear a x f z A z0 z1 z2 z3 z5;(with_reducible refine (CY.out _ V.out).mono ?_);rintro e w9⟨ag,rfl⟩;have C:=LH (Zz V.out ag);have bj:=LH (ar.out.below ag);have cb:=Ztq G;have j:=av.out;clear I J L M y5 ag av CY V ar;by_cases g:Vh G=0
 case neg =>
  have Y:=LH j;have i4:(((Vh G:Nat):Int) != 0)=true:=by rw[BN];omega
  have Hc:=LH g;clear j g;go_wp2_with fail;go_ret2;rw[Y.out,if_pos Hc.out];exact⟨none,0,rfl,Zq.nil _ _ _ _ AA,C.out⟩
 have i4:(((Vh G:Nat):Int) != 0)=false:=by rw[g];rfl
 rw[if_neg (by rw[g];simp)] at j;obtain⟨S,a7⟩:=Zzn.1 Hr.out;have T:G.right=true/\(Zt G).getD G.start.toNat false=true:=by unfold Xp at S;rw[AR] at S;exact S
 obtain⟨hP,bx,hO⟩:=U7 T.1 T.2 a7 g;have Y:=LH j;have HP:=LH hP;have ai:=O.out.below C.out;have CS:=LH (tr_start ⟨a1,n1,c1,a2,n2,c2,a3,n3,c3⟩ G w9 ai Z.out (by simp only[];omega) (by simp only[];omega) (by simp only[];omega) T.1);have a6:∀s∈l,-(n2:Int)<=s/\s<=1000:=λs o=>by
  have:=H7 (bi.out s o);rw[e1,e2] at this;omega
 have CF:Hid (∀k:CH,ForC w9 k ⟨a1,n1,c1,a2,n2,c2,a3,n3,c3⟩ G Al l.length v l m):=LH λk=>tr_forest (k:=k) hP ai (by simp only[];omega) (by simp only[];omega) l Al v m (Hl.out.below C.out) a6 AA AA;have⟨y5,I,J,L,M⟩:=bj.out;simp only[] at I J L M;clear j S a7 T hP bx hO g ai a6;generalize Vh G=cy at *;go_wp2_with fail;(with_reducible refine CS.out.mono ?_);rintro e ce⟨af,k,rfl,ab⟩;have an:=LH (CF.out k _ _ ab (λb hb=>hb.elim));have aq:=LH (Zz C.out af);have a8:=ab.low;clear I J L M y5 CS CF ab;have bm:=LH a8;have b8:=LH af;clear a8 af;go_wp2_with fail;(with_reducible refine an.out.mono ?_);rintro e b4⟨bs,a0,A5,k5,c5,b5,rfl,hv⟩;have be:=LH (aq.out.trans ((a0.is_below (B:=w.heap.size) aq.out.size λq F=>by
  have h9:=C.out.size;have y:=bm.out;rcases F with rfl | rfl
  ·exact BC h9 y.1
  exact BC h9 y.2)))
 clear bs a0 an;go_wp2_with fail;(with_reducible refine (tr_told A5 k5 c5 b5 _ b4 hv).mono ?_);rintro e cf⟨A6,c6,rfl,a9,a⟩;have bg:=LH a9;have bf:=LH (Zz be.out a);clear hv a9 a;generalize Xm (Zx (Zv G) l m)=cd at *;go_wp2_with fail;go_ret2;rw[Y.out];exact⟨A6,c6,rfl,bg.out,bf.out⟩
section
open Go.Maps (Keyed IsMap Tidy)
open Go.Maps (Keyed IsMap Tidy)
theorem Zzz{h:GH}{G:Gr}(hB:BkG W0 h G){n:Nat}(hk:J1 l n)(hh:∀s∈l,G.has s=true)(S:Nat->Prop)(w:World)(Al:Option Addr)(cl:Nat)(C:Wd W0 k h G S w)(hS:∀b,S b->b<w.heap.size)(hl:Za .i64 w Al l.length cl l):
 Calls prog 125 #[.pointer (some ⟨k.c,0,none⟩),.slice Al l.length cl,.int .i64 (n:Int)] w (Zuw W0 k h G S w (Zx (Zv G) l n)):=by
 have fg:=hl.cap;have fk:=hk.len;have dm:=hk.n;have a7:=Zy w (.cells #[.slice none 0 0,.bool false] 174);have cb:=Blk.new w 174 #[.slice none 0 0,.bool false];have b8:=C.more a7 (AI w.heap.size);have T:=LH hB;have HK:=LH hk;have Hh:=LH hh;have HS:=LH hS;have bb:=LH (hl.below a7);have bf:=LH cb;have bp:=LH b8;have bw:Hid (Off k.map w (w.alloc (.cells #[.slice none 0 0,.bool false] 174))):=LH (Off.of_below a7);have cf:W0.heap.size<=w.heap.size:=C.base.size;clear hB hk hh C hS hl cb b8;go_enter func125,ntmps125;go_upto_region 1 with fail;generalize w.alloc (.cells #[.slice none 0 0,.bool false] 174)=J at *;have c8:Hid ((prog.info? 5).map (λi=>(i.zero,i.size,i.bytes))=some (some (.int .u8 0),1,1)):=LH AB;have b3:Hid (J.ownsRow J.heap.size 5 1 (.slice none 0 0) 0 (nums .u8 (Vr (l.take 0)))):=LH (BJ _ _ _ _);clear a7;go_wp2_with fail;go_loopw [7,16] (λv i wr=>∃(q:Nat) (A:Option Addr) (c:Nat),q<=l.length/\i = .int .i64 (q:Int)/\v = .slice A q c/\Hid (wr.ownsRow J.heap.size 5 1 (.slice A q c) q (nums .u8 (Vr (l.take q))))/\Hid (Below J.heap.size J wr)) (λ_ i _=>l.length-(intOf i).toNat)
 case atStart=>exact⟨0,none,0,AU _,rfl,rfl,b3,LH (AK _ _)⟩
 clear b3;obtain⟨q,A,c,hq,rfl,rfl,Ho,E⟩:=hrel;have av:J.heap.size<=wr.heap.size:=E.out.size;by_cases dn:q<l.length
 case pos =>
  obtain⟨lb,lo,s,rfl,fj,b4,cs⟩:=(bb.out.below E.out).get dn;obtain⟨s1,s2⟩:=HK.out.sym s (AL b4.out);obtain⟨m,hm⟩:∃m:Nat,s+16=(m:Int):=⟨(s+16).toNat,AA⟩;have fl:IntKind.i64.wrap (s+16)=(m:Int):=by rw[hm];exact BT _ AA
  have fm:IntKind.u8.wrap (m:Int)=(m:Int):=IntWalk.u8_in _ AA;have da:Hid (Vr (l.take (q+1))=Vr (l.take q)++[m]):=LH (by rw[symT_snoc b4.out,show (s+16).toNat=m by omega]);clear hm;go_wp2_with (first
   | (at_builtin;refine Ye rfl _ _ 72 rfl J.heap.size 5 _ 1 1 underlying72 c8.out AC AC A q c (nums .u8 (Vr (l.take q))) rfl Ho.out [.int .u8 (m:Int)] rfl rfl (by simp[Value.oneCell']) AA AA av ?_;intro A5 c5 w5 ho hg ha
      have cw:=LH (E.out.trans ((Off.of_grown hg).is_below av λk hk=>(Ho.out.lt k hk).1));have c9:Hid (w5.ownsRow J.heap.size 5 1 (.slice A5 (q+1) c5) (q+1) (nums .u8 (Vr (l.take (q+1))))):=LH (by
       rw[da.out,show nums .u8 (Vr (l.take q)++[m])=nums .u8 (Vr (l.take q))++[.int .u8 (m:Int)] by simp[nums]];exact ho)
      clear ho hg ha))
  go_roundw
  case rel=>exact⟨q+1,A5,c5,AA,AF,rfl,c9,cw⟩
  simp[intOf] <;> omega
 obtain rfl:q=l.length:=AA
 have cp:Zq .u8 wr A l.length c (Vr l):=by
  have h1:=Yl Ho.out;rw[List.take_length] at h1;exact h1
 have bm:(Vr l).length=l.length:=by unfold Vr;rw[BF]
 have b2:Hid ((convert 72 9 (.slice A l.length c)).run prog wr = .ok (.string (str (Vr l))) wr):=LH (by
  have:=Ux wr 72 5 9 underlying72 underlying5 underlying9 A c (Vr l) (by rw[bm];exact cp);rwa [bm] at this)
 have dj:=b2.out;have au:=Zy wr (.cells #[.string (str (Vr l)),.int .i64 (n:Int)] 223);have aq:=Blk.new wr 223 #[.string (str (Vr l)),.int .i64 (n:Int)];have aa:=LH ((bp.out.below E.out).below au);have be:=LH ((bw.out.map_trans (Off.of_below E.out)).map_trans (Off.of_below au));have bg:=LH ((bf.out.ext E.out).ext au);have br:=LH ((bb.out.below E.out).below au);have dl:w.heap.size<wr.heap.size:=(bf.out.ext E.out).lt;go_upto_region 8 with fail;clear dj b2 cp bm Ho E au bp bw bf bb;generalize wr.alloc (.cells #[.string (str (Vr l)),.int .i64 (n:Int)] 223)=r at *;generalize wr.heap.size=B at *;have b1:=LH aq;obtain⟨ts,W⟩:=aa.out.known;have F:=W.look HK.out;unfold kB at F;have H:=aa.out.box.lt;have Y:r.cell? ⟨k.c,4,none⟩=some (.map (some k.t)):=aa.out.box.cell 4;have N:r.cell? ⟨B,0,none⟩=some (.string (str (Vr l))):=aq.cell 0;have O:r.cell? ⟨B,1,none⟩=some (.int .i64 (n:Int)):=aq.cell 1;have P:=aq.lt;have bc:=Yt r;clear aq W;rcases F with ⟨bv,F,hv,di⟩ | F
 case inl =>
  as_aux_lemma =>
   obtain⟨Av,nv,cv,dv,V,aw⟩:=hv;refine Zs AB AB ?_;repeat (go_big_quiet_step (fail))
   refine BK ?_;rintro _⟨y,rfl⟩;have j:=Zr r y;have x:=LH (aa.out.below j);have aj:=LH (be.out.map_trans (Off.of_below j));have o:=bg.out.ext j;have a8:=V.ext j;have cy:=LH (aw.below j);have ak:=LH (Zxm (S:=S) x.out o cy.out aj.out (.inr rfl) cf (AI _) λq hq => .inl hq);have c0:(bl r y).cell? ⟨w.heap.size,0,none⟩=some (.slice none 0 0):=o.cell 0;have c1:(bl r y).cell? ⟨w.heap.size,1,none⟩=some (.bool false):=o.cell 1;have f0:=o.frozen 0;have f1:=o.frozen 1;have l5:=o.lt;have v0:(bl r y).cell? ⟨bv,0,none⟩=some (.slice Av nv cv):=a8.cell 0;have v1:(bl r y).cell? ⟨bv,1,none⟩=some (.bool dv):=a8.cell 1;have l6:=a8.lt;clear F V aw bc j o a8 H Y N O P x aj;generalize bl r y=W3 at *;go_wp2_with fail;refine AV (By (p:=6) AB _ _ w.heap.size 174 #[.slice Av nv cv,.bool dv] (0,0) _ rfl ak.out.1 underlying174 rfl AB) rfl ?_;exact ak.out.2
 refine Zs AB AB ?_;repeat (go_big_quiet_step (fail))
 refine BK ?_;rintro _⟨y,rfl⟩;have j:=Zr r y;have x:=LH (aa.out.below j);have aj:=LH (be.out.map_trans (Off.of_below j));have b0:=LH (bg.out.ext j);have bt:=LH (b1.out.ext j);have bs:=LH (br.out.below j);have fh:w.heap.size<B:=dl;clear F bc j H Y N O P aa be bg b1 br;generalize bl r y=W3 at *;obtain⟨gc,M⟩:=k;obtain⟨a1,n1,c1,a2,n2,c2,a3,n3,c3⟩:=h;have H:=x.out.box.lt;have k0:W3.cell? ⟨gc,0,none⟩=some (.slice a1 n1 c1):=x.out.box.cell 0;have k1:W3.cell? ⟨gc,1,none⟩=some (.slice a2 n2 c2):=x.out.box.cell 1;have k2:W3.cell? ⟨gc,2,none⟩=some (.slice a3 n3 c3):=x.out.box.cell 2;have k3:W3.cell? ⟨gc,3,none⟩=some (.int .i64 G.start):=x.out.box.cell 3;have bj:=x.out.base;have co:=Zua T.out.told (l:=l) (n:=n) HK.out.len dm Hh.out;have h1:=T.out.n1;have h2:=T.out.n2;have h3:=T.out.n3;simp only[] at h1 h2 h3;have Z:=tr_cOf ⟨a1,n1,c1,a2,n2,c2,a3,n3,c3⟩ G Al cl l (n:Int) W3 (T.out.at_.below bj) T.out.names (T.out.tab.below bj) (by simp only[];omega) (by simp only[];omega) (by simp only[];omega) bs.out (λs hs=>by have:=HK.out.sym s hs;unfold U3;omega);rw[co] at Z;obtain⟨R,er,bq,cd,ff,cq⟩:=fit_val (Zx (Zv G) l n);rw[cd] at Z;have Z:=LH Z;have b5:=LH cq;clear co bj cd cq;go_upto_region 12 with (
  go_at_call 15;(with_reducible refine Z.out.mono ?_);rintro e U⟨I,L,rfl,cm,ar⟩)
 have ab:=LH (x.out.below ar);have bx:=LH (aj.out.map_trans (Off.of_below ar));have az:=LH (b0.out.ext ar);have ad:=LH (bt.out.ext ar);have bu:=LH cm;clear Z H k0 k1 k2 k3 cm ar x aj b0 bt bs;have H:=ab.out.box.lt;have Y:U.cell? ⟨gc,4,none⟩=some (.map (some M)):=ab.out.box.cell 4;have N:U.cell? ⟨B,0,none⟩=some (.string (str (Vr l))):=ad.out.cell 0;have O:U.cell? ⟨B,1,none⟩=some (.int .i64 (n:Int)):=ad.out.cell 1;have P:=ad.out.lt;have dr:=az.out.lt;refine Xh (λX=>Below U.heap.size U X) (λX X'=>Below X.heap.size X X') (λu=>(⟨(.pointer (some ⟨gc,0,none⟩) :: .slice Al l.length cl :: .int .i64 (n:Int)::undef::undef::undef :: .pointer (some ⟨w.heap.size,0,none⟩) :: .slice A l.length c::undef::u9 :: .pointer (some ⟨B,0,none⟩) :: .pointer none :: .slice I R.length L :: .int .i64 (er:Int) :: .slice Al l.length cl :: .int .i64 (l.length:Int) :: .int .i64 (l.length:Int) :: .bool false::u18::u19::u20::u21::u22::u23::u24::u25::u26 :: .slice A l.length c :: .string (str (Vr l)) :: .int .i64 (n:Int) :: .agg #[.string (str (Vr l)),.int .i64 (n:Int)] :: .pointer (some ⟨gc,0,none⟩) :: .pointer (some ⟨gc,0,none⟩) :: .pointer (some ⟨gc,4,none⟩) :: .map (some M) :: .agg #[.string (str (Vr l)),.int .i64 (n:Int)] :: .pointer none :: .pointer none :: .bool false::undef::undef::undef :: .tuple #[.slice I R.length L,.int .i64 (er:Int)] :: .pointer (some ⟨gc,0,none⟩) :: .pointer (some ⟨gc,0,none⟩) :: .pointer (some ⟨gc,0,none⟩) :: .agg #[.slice a1 n1 c1,.slice a2 n2 c2,.slice a3 n3 c3,.int .i64 G.start] :: .slice Al l.length cl :: .int .i64 (n:Int) :: .tuple #[.slice I R.length L,.int .i64 (er:Int)] :: .slice I R.length L :: .int .i64 (er:Int)::u 0::u 1::u 2::u 3::u 4::u 5::u 6::u 7::u 8::u 9::undef::undef::undef::undef::undef::undef::undef::undef::[]).toArray,[]⟩:Act)) [undef,undef,undef,undef,undef,undef,undef,undef,undef,undef] [λv X=>v = .pointer (some ⟨gc,0,none⟩),λv X=>v = .pointer (some ⟨gc,0,none⟩),λv X=>v = .pointer (some ⟨gc,4,none⟩),λv X=>v = .map (some M),λv X=>v = .agg #[.string (str (Vr l)),.int .i64 (n:Int)],λv X=>v = .slice I R.length L,λv X=>v = .int .i64 (er:Int),λv X=>v = .bool bq,λv X=>v = .agg #[.slice I R.length L,.bool bq],λv X=>∃D,v=Value.pointer (some ⟨D,0,none⟩)/\U.heap.size<=D/\Blk X D 174 #[.slice I R.length L,.bool bq]] (λu X=>∃D ts,Wd W0 ⟨gc,M⟩ ⟨a1,n1,c1,a2,n2,c2,a3,n3,c3⟩ G (λb=>S b\/b=w.heap.size) X/\Off (BkH.map ⟨gc,M⟩) U X/\Gk X M G (λb=>S b\/b=w.heap.size) (((l,n),D)::ts)) (l:=[_,_,_,_,_,_,_,_,_,_]) AB AB AB rfl rfl (AK _ _).drew ⟨λ_ _ _ h _=>h,λ_ _ _ h _=>h,λ_ _ _ h _=>h,λ_ _ _ h _=>h,λ_ _ _ h _=>h,λ_ _ _ h _=>h,λ_ _ _ h _=>h,λ_ _ _ h _=>h,λ_ _ _ h _=>h,(λ_ _ _ ⟨g,e,h,h2⟩ hb=>⟨g,e,h,Blk.ext h2 hb⟩),trivial⟩ ?_ ?_ ?_
 ·refine Zk.cons rfl (λ_ _=>rfl) (λQ u X a d KK f=>?_) ?_
  ·go_simp;exact f _ _ a (AK _ _) rfl
  refine Zk.cons rfl (λ_ _=>rfl) (λQ u X a d KK f=>?_) ?_
  ·have p0:u 0=_:=d 0 rfl;clear d;generalize u 0=N at *;subst p0;go_simp;exact f _ _ a (AK _ _) rfl
  refine Zk.cons rfl (λ_ _=>rfl) (λQ u X a d KK f=>?_) ?_
  ·have p1:u 1=_:=d 1 rfl;clear d;generalize u 1=O at *;subst p1;go_simp;exact f _ _ a (AK _ _) rfl
  refine Zk.cons rfl (λ_ _=>rfl) (λQ u X a d KK f=>?_) ?_
  ·have p2:u 2=_:=d 2 rfl;clear d;generalize u 2=x2 at *;subst p2;have dc:=(a.cell (p:=⟨gc,4,none⟩) H).trans Y;go_simp;exact f _ _ a (AK _ _) rfl
  refine Zk.cons rfl (λ_ _=>rfl) (λQ u X a d KK f=>?_) ?_
  ·have dc:=(a.cell (p:=⟨B,0,none⟩) P).trans N;have fc:=(a.cell (p:=⟨B,1,none⟩) P).trans O;go_simp;exact f _ _ a (AK _ _) rfl
  iterate 2
   refine Zk.cons rfl (λ_ _=>rfl) (λQ u X a d KK f=>?_) ?_
   ·go_simp;exact f _ _ a (AK _ _) rfl
  refine Zk.cons rfl (λ_ _=>rfl) (λQ u X a d KK f=>?_) ?_
  ·have p6:u 6=_:=d 6 rfl;clear d;generalize u 6=x6 at *;subst p6;go_simp;exact f _ _ a (AK _ _) rfl
  refine Zk.cons rfl (λ_ _=>rfl) (λQ u X a d KK f=>?_) ?_
  ·have p5:u 5=_:=d 5 rfl;have p7:u 7=_:=d 7 rfl;clear d;generalize u 5=x5 at *;subst p5;generalize u 7=x7 at *;subst p7;go_simp;exact f _ _ a (AK _ _) rfl
  refine Zk.cons rfl (λ_ _=>rfl) (λQ u X a d KK f=>?_) ?_
  ·have p8:u 8=_:=d 8 rfl;clear d;generalize u 8=x8 at *;subst p8;go_simp;exact f _ _ (Zo a _) (Zy _ _) ⟨_,rfl,a.size,Blk.new _ _ _⟩
  exact Zk.nil
 ·intro Q u X a d KK f;have p3:u 3=_:=d 3 AC;have p4:u 4=_:=d 4 AC;obtain⟨D,p9,fi,av⟩:=d 9 AC;clear d;generalize u 3=x3 at *;subst p3;generalize u 4=x4 at *;subst p4;generalize u 9=x9 at *;subst p9;have bi:=ab.out.below a;obtain⟨ts,W⟩:=bi.known;have cg:U4 prog 223 (kB l n):=Zs6 AA AA;obtain⟨w',dp,ck,ch⟩:=W.map.put (b:=D) Tryz.keyKB underlying168 W.few cg;have a9:=bi.put W HK.out ⟨I,R.length,L,bq,av,b5.out _ _ _ (bu.out.below a)⟩ (by rintro (h | h);exact absurd (HS.out _ h) AA;omega) ck ch;have c6:=LH (And.intro a9.1 (And.intro ((Off.of_below a).trans a9.2.1 λ_ _ h=>h) a9.2.2));unfold kB at dp;clear a9 ck ch cg W bi av;go_simp;exact f (λi=>([u 0,u 1,u 2,.map (some M),.agg #[.string (str (Vr l)),.int .i64 (n:Int)],u 5,u 6,u 7,u 8,Value.pointer (some ⟨D,0,none⟩)]:List Value).getD i undef) _ (⟨D,ts,c6.out⟩)
 intro u z dk;obtain⟨D,ts,b9,a6,cc⟩:=dk;have ay:=LH b9;have bz:=LH (bx.out.map_trans a6);have cz:=LH (a6.blk az.out (ab.out.not_map az.out));have bd:=LH (a6.blk ad.out (ab.out.not_map ad.out));obtain⟨bv,F,hv,di⟩:=cc.there (AX ..);obtain⟨Av,nv,cv,dv,V,aw⟩:=hv;unfold kB at F;clear H Y N O P dr b9 a6 cc ab bx az ad bu b5;have H:=ay.out.box.lt;have Y:z.cell? ⟨gc,4,none⟩=some (.map (some M)):=ay.out.box.cell 4;have N:z.cell? ⟨B,0,none⟩=some (.string (str (Vr l))):=bd.out.cell 0;have O:z.cell? ⟨B,1,none⟩=some (.int .i64 (n:Int)):=bd.out.cell 1;have P:=bd.out.lt;have v0:z.cell? ⟨bv,0,none⟩=some (.slice Av nv cv):=V.cell 0;have v1:z.cell? ⟨bv,1,none⟩=some (.bool dv):=V.cell 1;have vl:=V.lt;have bc:=Yt z;go_upto_region 13 with fail;refine Yx 8 AB AB ?_;simp only[List.take_succ_cons,List.take_zero,List.drop_succ_cons,Eg];repeat (go_big_quiet_step (fail))
 refine BK ?_;rintro _⟨y,rfl⟩;have j:=Zr z y;have o:=cz.out.ext j;have ak:=LH (Zxm (S:=S) (ay.out.below j) o (aw.below j) (bz.out.map_trans (Off.of_below j)) (.inr rfl) cf (AI _) λq hq => .inl hq);have d0:(bl z y).cell? ⟨w.heap.size,0,none⟩=some (.slice none 0 0):=o.cell 0;have d1:(bl z y).cell? ⟨w.heap.size,1,none⟩=some (.bool false):=o.cell 1;have f0:=o.frozen 0;have f1:=o.frozen 1;have l5:=o.lt;clear F V aw bc j o H Y N O P v0 v1 vl ay bz;generalize bl z y=WZ at *;go_wp2_with fail;refine AV (By (p:=6) AB _ _ w.heap.size 174 #[.slice Av nv cv,.bool dv] (0,0) _ rfl ak.out.1 underlying174 rfl AB) rfl ?_;exact ak.out.2
end
theorem tr_pair{h:GH}{G:Gr}(hB:BkG W0 h G){s:Int}{kk n:Nat}(hk:J1 (s::l) n)(dy:kk<=n)(hh:∀x∈s::l,G.has x=true)(S:Nat->Prop)(w:World)(A:Option Addr)(c:Nat)(C:Wd W0 k h G S w)(hS:∀b,S b->b<w.heap.size)(hl:Za .i64 W0 A (s::l).length c (s::l)):
 Calls prog 176 #[.pointer (some ⟨k.c,0,none⟩),.slice A (s::l).length c,.int .i64 (kk:Int),.int .i64 (n:Int)] w (Zuw W0 k h G S w (Zx (Zv G) [s] kk*Zx (Zv G) l (n-kk))):=by
 have b1:=hl.cap;have c5:=hk.len;have d4:=hk.n;obtain⟨ab,ao,_,rfl,_,_,_⟩:=hl.get (j:=0) AE;have bg:=hl.tail1;rw[show (s::l).length-1=l.length from rfl] at bg;obtain⟨At,cz⟩:∃At:Option Addr,(if c=1 then some (⟨ab,ao,none⟩:Addr) else some ⟨ab,ao+1,none⟩)=At:=⟨_,rfl⟩;rw[cz] at bg;have dx:(1:Int)<=(c:Int):=by simp at b1;omega
 have cf:=hl.take 1 c AE (by simp at b1;omega) b1.2;have K1:Hid (J1 [s] kk):=LH ⟨λx O=>hk.sym x (by simp at O ⊢;exact .inl O),AE,AA⟩;have K2:Hid (J1 l (n-kk)):=LH ⟨λx O=>hk.sym x (.tail _ O),by simp at c5;omega,AA⟩;have H1:Hid (∀x∈[s],G.has x=true):=LH λx O=>hh x (by simp at O ⊢;exact .inl O);have H2:Hid (∀x∈l,G.has x=true):=LH λx O=>hh x (.tail _ O);have b0:=(Zy w (.cells #[.slice none 0 0,.bool false] 174)).drew;have bz:=(Blk.new w 174 #[.slice none 0 0,.bool false]).drew;have ci:=C.more b0 (AI w.heap.size);have HB:=LH hB;have cq:Hid (Za .i64 W0 (some ⟨ab,ao,none⟩) [s].length c [s]):=LH (by simpa using cf);have cr:=LH bg;have HM:Hid (PM W0 k h G (λb=>S b\/b=w.heap.size) w w.heap.size (λ_=>false) (λi=>([]:List Value).getD i undef) (w.alloc (.cells #[.slice none 0 0,.bool false] 174)).drew):=LH ⟨⟨_,ci,λq h=>h,λq R=>by
  have:=bz.lt;rcases R with R | rfl
  ·have:=hS q R;omega
  omega,nofun,nofun⟩,Off.of_below b0,bz,nofun⟩
 have b2:W0.heap.size<=w.heap.size:=C.base.size;have HS:=LH hS;clear hB hk hh C hS hl bz ci b0 cf bg;go_enter func176,ntmps176;go_upto_region 1 with fail;refine wp_region_free (Γ:=Unit) (λ_ b u X=>PM W0 k h G (λb=>S b\/b=w.heap.size) w w.heap.size b u X) (λX X'=>Zf X X') () (λu=>(⟨(.pointer (some ⟨k.c,0,none⟩) :: .slice (some ⟨ab,ao,none⟩) (l.length+1) c :: .int .i64 (kk:Int) :: .int .i64 (n:Int)::undef::undef::undef::undef :: .pointer (some ⟨w.heap.size,0,none⟩)::u 12::u 13::undef::undef::u 0::u 1::u 2::u 3::u 4::u 5::u 6::u 7::u 8::u 9::u 10::u 11::undef::undef::undef::undef::undef::undef::undef::undef::undef::undef::undef::undef::undef::undef::undef::undef::undef::undef::undef::undef::undef::undef::undef::undef::undef::undef::undef::undef::undef::undef::undef::undef::undef::undef::undef::undef::undef::undef::undef::undef::undef::[]).toArray,[]⟩:Act)) [] [λv X=>v = .pointer (some ⟨k.c,0,none⟩),λv X=>v = .slice (some ⟨ab,ao,none⟩) (l.length+1) c,λv X=>v = .slice (some ⟨ab,ao,none⟩) 1 c,λv X=>v = .int .i64 (kk:Int),λv X=>∃z n1 c1 L,v = .agg #[.slice z n1 c1,.bool L]/\Z1 X z n1 c1 L (Zx (Zv G) [s] kk),λv X=>v = .pointer (some ⟨k.c,0,none⟩),λv X=>v = .slice (some ⟨ab,ao,none⟩) (l.length+1) c,λv X=>v = .slice At l.length (c-1),λv X=>v = .int .i64 (n:Int),λv X=>v = .int .i64 (kk:Int),λv X=>v = .int .i64 ((n-kk:Nat):Int),λv X=>∃z n1 c1 L,v = .agg #[.slice z n1 c1,.bool L]/\Z1 X z n1 c1 L (Zx (Zv G) l (n-kk)),λv X=>True,λv X=>True,λv X=>True,λv X=>True] (l:=[_,_,_,_,_,_,_,_,_,_,_,_,_,_,_,_]) AB AB rfl HM.out ⟨λ_ _ _ h _=>h,λ_ _ _ h _=>h,λ_ _ _ h _=>h,λ_ _ _ h _=>h,(λv X X' ⟨z,n1,c1,L,e,h⟩ hb=>⟨z,n1,c1,L,e,h.kept hb⟩),λ_ _ _ h _=>h,λ_ _ _ h _=>h,λ_ _ _ h _=>h,λ_ _ _ h _=>h,λ_ _ _ h _=>h,λ_ _ _ h _=>h,(λv X X' ⟨z,n1,c1,L,e,h⟩ hb=>⟨z,n1,c1,L,e,h.kept hb⟩),λ_ _ _ h _=>h,λ_ _ _ h _=>h,λ_ _ _ h _=>h,λ_ _ _ h _=>h,trivial⟩ ?_ ?_
 ·refine Zw.cons rfl (λ_ _=>rfl) (λQ g b u X f H a d K m=>?_) ?_
  ·have t:=λv=>a.idle 0 v AC;clear a f;clear d;go_simp;exact m _ () _ ⟨AI _,λ_ _ _=>rfl⟩ (t _) (rfl)
  refine Zw.cons rfl (λ_ _=>rfl) (λQ g b u X f H a d K m=>?_) ?_
  ·have t:=λv=>a.idle 1 v AC;clear a f;clear d;go_simp;exact m _ () _ ⟨AI _,λ_ _ _=>rfl⟩ (t _) (rfl)
  refine Zw.cons rfl (λ_ _=>rfl) (λQ g b u X f H a d K m=>?_) ?_
  ·have p1:u 1=_:=(d 1 rfl).2;have t:=λv=>a.idle 2 v AC;clear a f;clear d;generalize u 1=x1 at *;subst p1;go_simp;exact m _ () _ ⟨AI _,λ_ _ _=>rfl⟩ (t _) (rfl)
  refine Zw.cons rfl (λ_ _=>rfl) (λQ g b u X f H a d K m=>?_) ?_
  ·have t:=λv=>a.idle 3 v AC;clear a f;clear d;go_simp;exact m _ () _ ⟨AI _,λ_ _ _=>rfl⟩ (t _) (rfl)
  refine Zw.cons rfl (λ_ _=>rfl) (λQ g b u X f H a d K m=>?_) ?_
  ·have p0:u 0=_:=(d 0 rfl).2;have p2:u 2=_:=(d 2 rfl).2;have p3:u 3=_:=(d 3 rfl).2;have ap:b 14=false:=AZ.2 λh=>by have:=f 14 _ rfl h 4 rfl;rw[H] at this;cases this
   obtain⟨S2,al,bb,bw⟩:=a.asked 4 (.inl ⟨rfl,ap⟩);have CC:Calls prog 125 #[.pointer (some ⟨k.c,0,none⟩),.slice (some ⟨ab,ao,none⟩) 1 c,.int .i64 (kk:Int)] X _:=Zzz HB.out K1.out H1.out S2 X _ _ al bb (cq.out.below al.base);clear a f;clear d;generalize u 0=x0 at *;subst p0;generalize u 2=x2 at *;subst p2;generalize u 3=x3 at *;subst p3;go_simp;go_at_call 125;(with_reducible refine CC.mono ?_);rintro e X'⟨bv,a6,z,n1,c1,L,rfl,hv⟩;go_simp;exact m _ () _ (al.keep a6) (bw _ _ bv a6) ⟨z,n1,c1,L,rfl,hv⟩
  refine Zw.cons rfl (λ_ _=>rfl) (λQ g b u X f H a d K m=>?_) ?_
  ·have t:=λv=>a.idle 5 v AC;clear a f;clear d;go_simp;exact m _ () _ ⟨AI _,λ_ _ _=>rfl⟩ (t _) (rfl)
  refine Zw.cons rfl (λ_ _=>rfl) (λQ g b u X f H a d K m=>?_) ?_
  ·have t:=λv=>a.idle 6 v AC;clear a f;clear d;go_simp;exact m _ () _ ⟨AI _,λ_ _ _=>rfl⟩ (t _) (rfl)
  refine Zw.cons rfl (λ_ _=>rfl) (λQ g b u X f H a d K m=>?_) ?_
  ·have p6:u 6=_:=(d 6 rfl).2;have dz:(1:Int)<=(l.length:Int)+1:=AA
   have t:=λv=>a.idle 7 v AC;clear a f;clear d;generalize u 6=x6 at *;subst p6;go_simp;exact m _ () _ ⟨AI _,λ_ _ _=>rfl⟩ (t _) (rfl)
  refine Zw.cons rfl (λ_ _=>rfl) (λQ g b u X f H a d K m=>?_) ?_
  ·have t:=λv=>a.idle 8 v AC;clear a f;clear d;go_simp;exact m _ () _ ⟨AI _,λ_ _ _=>rfl⟩ (t _) (rfl)
  refine Zw.cons rfl (λ_ _=>rfl) (λQ g b u X f H a d K m=>?_) ?_
  ·have t:=λv=>a.idle 9 v AC;clear a f;clear d;go_simp;exact m _ () _ ⟨AI _,λ_ _ _=>rfl⟩ (t _) (rfl)
  refine Zw.cons rfl (λ_ _=>rfl) (λQ g b u X f H a d K m=>?_) ?_
  ·have p8:u 8=_:=(d 8 rfl).2;have p9:u 9=_:=(d 9 rfl).2;have hw:IntKind.i64.wrap ((n:Int)-(kk:Int))=((n-kk:Nat):Int):=by rw[BT _ AA];omega
   have t:=λv=>a.idle 10 v AC;clear a f;clear d;generalize u 8=x8 at *;subst p8;generalize u 9=x9 at *;subst p9;go_simp;exact m _ () _ ⟨AI _,λ_ _ _=>rfl⟩ (t _) (by first | rfl | rw[hw])
  refine Zw.cons rfl (λ_ _=>rfl) (λQ g b u X f H a d K m=>?_) ?_
  ·have p5:u 5=_:=(d 5 rfl).2;have p7:u 7=_:=(d 7 rfl).2;have dc:u 10=_:=(d 10 rfl).2;have ap:b 15=false:=AZ.2 λh=>by have:=f 15 _ rfl h 11 rfl;rw[H] at this;cases this
   obtain⟨S2,al,bb,bw⟩:=a.asked 11 (.inr ⟨rfl,ap⟩);have CC:Calls prog 125 #[.pointer (some ⟨k.c,0,none⟩),.slice At l.length (c-1),.int .i64 ((n-kk:Nat):Int)] X _:=Zzz HB.out K2.out H2.out S2 X _ _ al bb (cr.out.below al.base);clear a f;clear d;generalize u 5=x5 at *;subst p5;generalize u 7=x7 at *;subst p7;generalize u 10=fb at *;subst dc;go_simp;go_at_call 125;(with_reducible refine CC.mono ?_);rintro e X'⟨bv,a6,z,n1,c1,L,rfl,hv⟩;go_simp;exact m _ () _ (al.keep a6) (bw _ _ bv a6) ⟨z,n1,c1,L,rfl,hv⟩
  refine Zw.cons rfl (λ_ _=>rfl) (λQ g b u X f H a d K m=>?_) ?_
  ·have ap:b 14=false:=AZ.2 λh=>by have:=f 14 _ rfl h 12 rfl;rw[H] at this;cases this
   have t:=a.made 12 (.inl ⟨rfl,ap⟩);clear a f;clear d;go_simp;exact m _ () _ (.of_below (Zy _ _)) t trivial
  refine Zw.cons rfl (λ_ _=>rfl) (λQ g b u X f H a d K m=>?_) ?_
  ·have ap:b 15=false:=AZ.2 λh=>by have:=f 15 _ rfl h 13 rfl;rw[H] at this;cases this
   have t:=a.made 13 (.inr ⟨rfl,ap⟩);clear a f;clear d;go_simp;exact m _ () _ (.of_below (Zy _ _)) t trivial
  refine Zw.cons rfl (λ_ _=>rfl) (λQ g b u X f H a d K m=>?_) ?_
  ·obtain⟨z,n1,c1,L,p4,hv⟩:=(d 4 rfl).2;obtain⟨gC,A0,n0,c0,d0,dd,P,a8⟩:=a.wrote 14 12 4 (.inl ⟨rfl,rfl,rfl⟩) (d 12 rfl).1 p4 (AI _) b2;clear d a f;generalize u 12=fd at *;subst dd;generalize u 4=x4 at *;subst p4;have y0:=P.cell 0;have y1:=P.cell 1;have y2:=P.frozen 0;have y3:=P.frozen 1;have y4:=P.lt;clear P;go_simp;exact m undef () _ (a8 undef).2 (a8 undef).1 trivial
  refine Zw.cons rfl (λ_ _=>rfl) (λQ g b u X f H a d K m=>?_) ?_
  ·obtain⟨z,n1,c1,L,cl,hv⟩:=(d 11 rfl).2;obtain⟨gC,A0,n0,c0,d0,de,P,a8⟩:=a.wrote 15 13 11 (.inr ⟨rfl,rfl,rfl⟩) (d 13 rfl).1 cl (AI _) b2;clear d a f;generalize u 13=fe at *;subst de;generalize u 11=fc at *;subst cl;have y0:=P.cell 0;have y1:=P.cell 1;have y2:=P.frozen 0;have y3:=P.frozen 1;have y4:=P.lt;clear P;go_simp;exact m undef () _ (a8 undef).2 (a8 undef).1 trivial
  exact Zw.nil
 intro _ b u J a7 a hd;obtain⟨z,n1,c1,L,e4,b5⟩:=hd 4 AC;obtain⟨A2,n2,c2,d2,bt,b6⟩:=hd 11 AC;obtain⟨⟨S2,hC,b4,bb,cd,ce⟩,hO,hR,c7⟩:=a;obtain⟨g1,B1,m1,k1,q1,b9,c9,dm,X1,t1⟩:=cd (a7 12 AC);obtain⟨g2,B2,m2,k2,q2,ca,da,dn,X2,t2⟩:=ce (a7 13 AC);have t1:=e4.symm.trans (t1 (a7 14 AC));have t2:=bt.symm.trans (t2 (a7 15 AC));injection t1 with t1;injection t2 with t2;simp only[Array.mk.injEq,List.cons.injEq,Value.slice.injEq,Value.bool.injEq,and_true] at t1 t2;obtain⟨⟨rfl,rfl,rfl⟩,rfl⟩:=t1;obtain⟨⟨rfl,rfl,rfl⟩,rfl⟩:=t2;rw[e4,bt,b9,ca];clear c7 cd ce a7 hd HM e4 bt b9 ca;clear t1 t2;generalize u 0=z0 at *;generalize u 1=z1 at *;generalize u 2=z2 at *;generalize u 3=z3 at *;generalize u 5=z5 at *;generalize u 6=z6 at *;generalize u 7=z7 at *;generalize u 8=z8 at *;generalize u 9=z9 at *;generalize u 10=fp at *;clear u;have bl:J.cell? ⟨g1,0,none⟩=some (.slice z n1 c1):=X1.cell 0;have bm:J.cell? ⟨g1,1,none⟩=some (.bool L):=X1.cell 1;have bn:J.cell? ⟨g2,0,none⟩=some (.slice A2 n2 c2):=X2.cell 0;have bo:J.cell? ⟨g2,1,none⟩=some (.bool d2):=X2.cell 1;have bp:=X1.lt;have br:=X2.lt;have r0:J.cell? ⟨w.heap.size,0,none⟩=some (.slice none 0 0):=hR.cell 0;have r1:J.cell? ⟨w.heap.size,1,none⟩=some (.bool false):=hR.cell 1;have f0:=hR.frozen 0;have f1:=hR.frozen 1;have l0:=hR.lt;have HC:=LH hC;have HO:=LH hO;have HR:=LH hR;have bc:=LH X1;have bd:=LH X2;have ae:=LH b5;have af:=LH b6;have cu:Hid (∀q,S q->S2 q):=LH λq R=>b4 q (.inl R);have ct:Hid (S2 w.heap.size):=LH (b4 _ (.inr rfl));have k1:=Zs5 b5;have k2:=Zs5 b6;clear hC hO hR X1 X2 b5 b6 b4 bb c9 da dm dn;generalize Zx (Zv G) [s] kk=x at *;generalize Zx (Zv G) l (n-kk)=y at *;have ai:Hid (∀(W:World) (A':Option Addr) (n' c':Nat) (b':Bool),Below J.heap.size J W->Z1 W A' n' c' b' (x*y)->
  Blk ((W.setCell ⟨w.heap.size,0,none⟩ (.slice A' n' c')).setCell ⟨w.heap.size,1,none⟩ (.bool b')) w.heap.size 174 #[.slice A' n' c',.bool b']/\Zuw W0 k h G S w (x*y) (.returned (.agg #[.slice A' n' c',.bool b'])) ((W.setCell ⟨w.heap.size,0,none⟩ (.slice A' n' c')).setCell ⟨w.heap.size,1,none⟩ (.bool b'))):=LH λW A' n' c' b' hb hv =>
  Zxm (S:=S) (HC.out.below hb) (HR.out.ext hb) hv (HO.out.map_trans (Off.of_below hb)) ct.out b2 (AI _) cu.out
 rcases k1 with ⟨rfl,rfl,rfl⟩ | ⟨O,d3,rfl⟩ | ⟨O,rfl,rfl⟩
 case inl =>
  clear k2;have B:=LH (ai.out J none 0 0 false (AK _ _) (by rw[Nat.zero_mul];exact Z1.zero J none 0 AA));go_wp2_with fail;refine AV (By (p:=8) AB _ _ w.heap.size 174 #[.slice none 0 0,.bool false] (0,0) _ rfl B.out.1 underlying174 rfl AB) rfl ?_;exact B.out.2
 case inr.inl =>
  rcases k2 with ⟨rfl,rfl,rfl⟩ | ⟨hy,c6,rfl⟩ | ⟨hy,rfl,rfl⟩
  case inl =>
   have B:=LH (ai.out J none 0 0 false (AK _ _) (by rw[Nat.mul_zero];exact Z1.zero J none 0 AA));go_wp2_with fail;refine AV (By (p:=8) AB _ _ w.heap.size 174 #[.slice none 0 0,.bool false] (0,0) _ rfl B.out.1 underlying174 rfl AB) rfl ?_;exact B.out.2
  case inr.inl =>
   obtain⟨zs,er,Z,I⟩:=Bk O hy;obtain⟨U,R⟩:∃U,((er:Int) != 0)=U:=⟨_,rfl⟩;rw[R] at I;have D:=F2 z _ c1 (Vk x).1 A2 _ c2 (Vk y).1 J ae.out.2 af.out.2 (Wx x) (Wx y);rw[Z] at D;have V:=ae.out.1;have Y:=af.out.1;rw[<-V,<-Y] at I;have D:=LH D;have aj:=LH I;clear Z I V Y;go_wp2_with (first
    | (go_at_call 177
       (with_reducible refine D.out.mono ?_);rintro e T⟨M,c3,rfl,N,r⟩;simp only[] at N;have B:=LH (ai.out T M zs.length c3 _ r (aj.out T M c3 N));have E:=bc.out.ext r;have F:=bd.out.ext r;have o:=HR.out.ext r;have bl:=E.cell 0;have bm:=E.cell 1;have bn:=F.cell 0;have bo:=F.cell 1;have bp:=E.lt;have br:=F.lt;have r0:=o.cell 0;have r1:=o.cell 1;have f0:=o.frozen 0;have f1:=o.frozen 1;have l0:=o.lt;clear r N E F o))
   refine AV (By (p:=8) AB _ _ w.heap.size 174 #[.slice M zs.length c3,.bool _] (0,0) _ rfl B.out.1 underlying174 rfl AB) rfl ?_;exact B.out.2
  obtain⟨zs,er,Z,I⟩:=Bk O hy;obtain⟨U,R⟩:∃U,((er:Int) != 0)=U:=⟨_,rfl⟩;rw[R] at I;have D:=F2 z _ c1 (Vk x).1 A2 _ c2 (Vk y).1 J ae.out.2 af.out.2 (Wx x) (Wx y);rw[Z] at D;have V:=ae.out.1;have Y:=af.out.1;rw[<-V,<-Y] at I;have D:=LH D;have aj:=LH I;clear Z I V Y;go_wp2_with (first
   | (go_at_call 177
      (with_reducible refine D.out.mono ?_);rintro e T⟨M,c3,rfl,N,r⟩;simp only[] at N;have B:=LH (ai.out T M zs.length c3 _ r (aj.out T M c3 N));have E:=bc.out.ext r;have F:=bd.out.ext r;have o:=HR.out.ext r;have bl:=E.cell 0;have bm:=E.cell 1;have bn:=F.cell 0;have bo:=F.cell 1;have bp:=E.lt;have br:=F.lt;have r0:=o.cell 0;have r1:=o.cell 1;have f0:=o.frozen 0;have f1:=o.frozen 1;have l0:=o.lt;clear r N E F o))
  refine AV (By (p:=8) AB _ _ w.heap.size 174 #[.slice M zs.length c3,.bool _] (0,0) _ rfl B.out.1 underlying174 rfl AB) rfl ?_;exact B.out.2
 rcases k2 with ⟨rfl,rfl,rfl⟩ | ⟨hy,c6,rfl⟩ | ⟨hy,rfl,rfl⟩
 case inl =>
  have B:=LH (ai.out J none 0 0 false (AK _ _) (by rw[Nat.mul_zero];exact Z1.zero J none 0 AA));go_wp2_with fail;refine AV (By (p:=8) AB _ _ w.heap.size 174 #[.slice none 0 0,.bool false] (0,0) _ rfl B.out.1 underlying174 rfl AB) rfl ?_;exact B.out.2
 case inr.inl =>
  obtain⟨zs,er,Z,I⟩:=Bk O hy;obtain⟨U,R⟩:∃U,((er:Int) != 0)=U:=⟨_,rfl⟩;rw[R] at I;have D:=F2 z _ c1 (Vk x).1 A2 _ c2 (Vk y).1 J ae.out.2 af.out.2 (Wx x) (Wx y);rw[Z] at D;have V:=ae.out.1;have Y:=af.out.1;rw[<-V,<-Y] at I;have D:=LH D;have aj:=LH I;clear Z I V Y;go_wp2_with (first
   | (go_at_call 177
      (with_reducible refine D.out.mono ?_);rintro e T⟨M,c3,rfl,N,r⟩;simp only[] at N;have B:=LH (ai.out T M zs.length c3 _ r (aj.out T M c3 N));have E:=bc.out.ext r;have F:=bd.out.ext r;have o:=HR.out.ext r;have bl:=E.cell 0;have bm:=E.cell 1;have bn:=F.cell 0;have bo:=F.cell 1;have bp:=E.lt;have br:=F.lt;have r0:=o.cell 0;have r1:=o.cell 1;have f0:=o.frozen 0;have f1:=o.frozen 1;have l0:=o.lt;clear r N E F o))
  refine AV (By (p:=8) AB _ _ w.heap.size 174 #[.slice M zs.length c3,.bool _] (0,0) _ rfl B.out.1 underlying174 rfl AB) rfl ?_;exact B.out.2
 obtain⟨zs,er,Z,I⟩:=Bk O hy;obtain⟨U,R⟩:∃U,((er:Int) != 0)=U:=⟨_,rfl⟩;rw[R] at I;have D:=F2 z _ c1 (Vk x).1 A2 _ c2 (Vk y).1 J ae.out.2 af.out.2 (Wx x) (Wx y);rw[Z] at D;have V:=ae.out.1;have Y:=af.out.1;rw[<-V,<-Y] at I;have D:=LH D;have aj:=LH I;clear Z I V Y;go_wp2_with (first
  | (go_at_call 177
     (with_reducible refine D.out.mono ?_);rintro e T⟨M,c3,rfl,N,r⟩;simp only[] at N;have B:=LH (ai.out T M zs.length c3 _ r (aj.out T M c3 N));have E:=bc.out.ext r;have F:=bd.out.ext r;have o:=HR.out.ext r;have bl:=E.cell 0;have bm:=E.cell 1;have bn:=F.cell 0;have bo:=F.cell 1;have bp:=E.lt;have br:=F.lt;have r0:=o.cell 0;have r1:=o.cell 1;have f0:=o.frozen 0;have f1:=o.frozen 1;have l0:=o.lt;clear r N E F o))
 refine AV (By (p:=8) AB _ _ w.heap.size 174 #[.slice M zs.length c3,.bool _] (0,0) _ rfl B.out.1 underlying174 rfl AB) rfl ?_;exact B.out.2
end Go.Proofs.YtggbjdmpjidhgaaGreatDoor
