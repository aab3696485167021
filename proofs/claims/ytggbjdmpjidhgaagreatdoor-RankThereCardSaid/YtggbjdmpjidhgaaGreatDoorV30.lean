/- the program's counter: forest, and how it is made: walked. -/
import Derived.Test.YtggbjdmpjidhgaaGreatDoorV25
import Derived.Test.YtggbjdmpjidhgaaGreatDoorV27
import Derived.Test.YtggbjdmpjidhgaaGreatDoorV28
set_option linter.all false
set_option maxHeartbeats 1500000
set_option maxRecDepth 100000
namespace Go.Proofs.YtggbjdmpjidhgaaGreatDoor
open Go.RowKit Go.Proofs.Tryz
theorem Zs0(w:World)(t:TypeId)(c1 c2:Array Value):Below w w ((w.alloc (.cells c1 t)).alloc (.cells c2 t)).drew/\Blk ((w.alloc (.cells c1 t)).alloc (.cells c2 t)).drew w t c1/\Blk ((w.alloc (.cells c1 t)).alloc (.cells c2 t)).drew (w.heap.size+1) t c2:=by
 have h1:=Blk.new w t c1;have b:=Blk.new (w.alloc (.cells c1 t)) t c2;have c:=Zy w (.cells c1 t);have a:=Zy (w.alloc (.cells c1 t)) (.cells c2 t);rw[Zl] at b;exact⟨(Zz c a).drew,Blk.drew (h1.ext a),Blk.drew b⟩
theorem nat_quo(C:Option Addr)(n c1:Nat)(xs:List Nat)(D:Option Addr)(m c2:Nat)(ys:List Nat)(w:World)(h1:Zq .u32 w C n c1 xs)(p:Zq .u32 w D m c2 ys)(J:Lim xs)(ly:Lim ys):
 Calls prog 182 #[.slice C n c1,.slice D m c2] w (RetQuo w (M2 xs ys)):=by
 obtain rfl:=h1.len;obtain rfl:=p.len;by_cases N:Zm xs=true
 case neg =>
  have ca:Zm xs=false:=by simpa using N
  have l:M2 xs ys=([],[],1):=by simp[M2,ca]
  rw[l];clear l N;go_enter func182,ntmps182;go_wp2_with (first
   | (go_at_call 75;(with_reducible refine (Zb _ _ _ _ _ h1).mono ?_);rintro e w'⟨rfl,rfl⟩)
   | (go_at_call 75;(with_reducible refine (Zb _ _ _ _ _ p).mono ?_);rintro e w'⟨rfl,rfl⟩))
  go_ret3
  unfold RetQuo;exact⟨none,0,none,0,rfl,Zq.nil _ _ _ _ AE,Zq.nil _ _ _ _ AE,AK _ _⟩
 by_cases O:Zm ys=true
 case neg =>
  have cb:Zm ys=false:=by simpa using O
  have l:M2 xs ys=([],[],1):=by simp[M2,cb]
  rw[l];clear l O;go_enter func182,ntmps182;go_wp2_with (first
   | (go_at_call 75;(with_reducible refine (Zb _ _ _ _ _ h1).mono ?_);rintro e w'⟨rfl,rfl⟩)
   | (go_at_call 75;(with_reducible refine (Zb _ _ _ _ _ p).mono ?_);rintro e w'⟨rfl,rfl⟩))
  go_ret3
  unfold RetQuo;exact⟨none,0,none,0,rfl,Zq.nil _ _ _ _ AE,Zq.nil _ _ _ _ AE,AK _ _⟩
 by_cases y:ys.length=0
 ·have l:M2 xs ys=([],[],1):=by simp[M2,y]
  rw[l];clear l;have b8:((ys.length:Int)==0)=true:=by simp[y]
  clear y;go_enter func182,ntmps182;go_wp2_with (first
   | (go_at_call 75;(with_reducible refine (Zb _ _ _ _ _ h1).mono ?_);rintro e w'⟨rfl,rfl⟩)
   | (go_at_call 75;(with_reducible refine (Zb _ _ _ _ _ p).mono ?_);rintro e w'⟨rfl,rfl⟩))
  go_ret3
  unfold RetQuo;exact⟨none,0,none,0,rfl,Zq.nil _ _ _ _ AE,Zq.nil _ _ _ _ AE,AK _ _⟩
 have b8:((ys.length:Int)==0)=false:=by rw[AP];omega
 have co:xs.length<=32:=by simp[Zm] at N;omega
 have ty:=X8 ys O;have aq:0<val ys:=by
  rcases DM (val ys) with h | h
  ·have:=Mf ys ly ty;rw[h,Va] at this;rw[<-this] at y;simp at y
  exact h
 have bw:=Wm (P:=prog) 31 49 .u32 4 underlying31 Tryz.info34 xs.length AA AA;have l:M2 xs ys=(limbs (val xs / val ys),limbs (val xs % val ys),0):=by simp[M2,N,O,y]
 have a2:Zz9 xs=bitLen (val xs):=by simp[Zz9,N]
 have ch:bitLen (val xs)<=1024:=by
  rcases BD 1024 (bitLen (val xs)) with h | h
  ·have:=bit_in xs J 1024 h;omega
  exact h
 rw[l];have bh:=LH a2;clear l a2;go_enter func182,ntmps182;go_wp2_with (first
  | (go_at_call 75;(with_reducible refine (Zb _ _ _ _ _ h1).mono ?_);rintro e w'⟨rfl,rfl⟩)
  | (go_at_call 75;(with_reducible refine (Zb _ _ _ _ _ p).mono ?_);rintro e w'⟨rfl,rfl⟩)
  | (go_at_call 211;(with_reducible refine (nat_bits _ _ _ _ _ (h1.below ((AK _ _).alloc (AI _) _)) J).mono ?_);rintro e w'⟨rfl,rfl⟩;rw[bh.out]))
 go_loopw [8,9] (QuoRel w xs (val ys)) (λ_ i _=>(intOf i+1).toNat)
 case atStart =>
  have hz:val xs / 2 ^ bitLen (val xs)=0:=Nat.div_eq_of_lt (bitLen_lt _);have e1:(List.replicate xs.length 0).length=xs.length:=AE
  have e2:val (List.replicate xs.length 0)=val xs / 2 ^ bitLen (val xs) / val ys*2 ^ bitLen (val xs):=by rw[hz,zz_val];simp
  have e3:[]=limbs (val xs / 2 ^ bitLen (val xs) % val ys):=by rw[hz,Nat.zero_mod,Va]
  exact⟨bitLen (val xs),none,0,List.replicate xs.length 0,[],rfl,AI _,rfl,Zq.nil _ _ _ _ AE,(λ_ _ h=>by cases h),Own.new w 49 .u32 (List.replicate xs.length 0),(AK _ _).alloc (AI _) _,
   LH e1,zz_lim _,LH e2,LH e3⟩
 clear bw;obtain⟨k,A,c,qs,o,rfl,hk,rfl,an,ck,W,q,E,I,S,U⟩:=hrel;have X:=W.lt;by_cases bv:0<k
 ·obtain⟨i,rfl⟩:∃i,k=i+1:=⟨k-1,AA⟩;clear bv;have a7:((i+1:Nat):Int)-1=(i:Int):=AA
  rw[a7];clear a7;have V:=bit_in xs J i AA;have R:=LH (bit_of xs J i);have ax:=LH (Zsy (val xs) (val ys) i aq);obtain⟨j,r,a8,hr⟩:∃j r,i=32*j+r/\r<32:=⟨i / 32,i % 32,AA,AA⟩;have hj:i / 32=j:=AA
  have am:i % 32=r:=AA
  rw[hj] at V R;rw[am] at R;have cm:(i:Int) / 32=(j:Int):=AA
  have cr:(i:Int) % 32=(r:Int):=AA
  have cd:=LH a8;have Hj:=LH hj;have Hr:=LH am;clear a8 hj am;obtain⟨b1,o1,u,rfl,cg,Hu,ci⟩:=(h1.below q).get (j:=j) V;have b6:=J.of_get Hu.out;have cq:(2:Int) ^ r=((2 ^ r:Nat):Int):=AE
  have cu:(u:Int) / ((2 ^ r:Nat):Int)=((u / 2 ^ r:Nat):Int):=AE
  have a6:=Yn (d:=0) Hu.out;have a3:u / 2 ^ r % 2=val xs / 2 ^ i % 2:=by have:=R.out;rwa [a6] at this
  have b9:u / 2 ^ r<4294967296:=Ev (Nat.div_le_self _ _) b6;have cf:bits .and .u32 ((u / 2 ^ r:Nat):Int) 1=((u / 2 ^ r % 2:Nat):Int):=by
   have:=u32_and_nat (u / 2 ^ r) 1 b9 AC;rw[show ((1:Nat):Int)=1 from rfl] at this;rw[this,Nat.and_one_is_mod]
  have a4:u / 2 ^ r % 2<=1:=AA
  generalize u / 2 ^ r=z at *;generalize bs:z % 2=bt at *;have bi:=LH a3;clear bs a3 a6 R;have ap:val o=val xs / 2 ^ (i+1) % val ys:=by rw[U.out,Yd]
  have lr:Lim o:=by rw[U.out];exact Z9 _
  have bb:val ys<4294967296 ^ 32:=by
   have h1:=Ui ys ly;have p:ys.length<=32:=by simp[Zm] at O;omega
   exact AJ h1 (DD AC p)
  have cs:o.length<=32:=by
   rw[U.out,Vt];exact Nat.lt_trans (Nat.mod_lt _ aq) bb
  have Y:=ax.out;have cv:(limbs (2*val o+bt)).length<=33:=by
   rw[Vt,Nat.pow_succ];have:val o<val ys:=by rw[ap];exact Nat.mod_lt _ aq
   generalize (4294967296:Nat) ^ 32=B at *;omega
  have bn:=LH ap;simp only[] at Y;rw[<-bi.out,<-bn.out] at Y;have T:=LH Y;clear Y ax ap bb;obtain⟨s,ae⟩:∃s,Hid (qs[j]? = some s):=⟨_,LH (AM (by rw[E.out];exact V))⟩;have a9:=set_bit qs I i (by rw[Hj.out,E.out];exact V) _ S.out;rw[Hj.out,Hr.out,Yn ae.out] at a9;obtain⟨be,cx,bf⟩:=a9;have b3:=I.of_get ae.out;have bz:2 ^ r<4294967296:=by
   have:=Nat.pow_lt_pow_right (a:=2) AC hr;simpa using this
  have cp:bits .or .u32 (s:Int) ((2 ^ r:Nat):Int)=((s+2 ^ r:Nat):Int):=by
   rw[u32_or_nat _ _ b3 bz,be]
  generalize b0:(2:Nat) ^ r=M at *;have bm:=LH bf;clear b0 be bf;have ct:IntKind.u32.wrap (M:Int)=(M:Int):=by rw[IntKind.wrap_u32];omega
  have b1:(0:Int)<=(j:Int):=AA
  have b2:(j:Int)<(xs.length:Int):=AA
  by_cases x:val ys<=2*val o+bt
  ·have ai:decide (val ys<=2*val o+bt)=true:=by simpa using x
   have ad:=LH (T.out.1 x);have bj:=LH x;clear x T;generalize H:2*val o+bt=v2 at *;have af:=LH H;clear H;go_wp2_with (first
    | (go_at_call 212;(with_reducible refine (Zw7 _ _ _ _ bt _ an lr a4 AA).mono ?_);intro e w1 f;unfold RetNew at f;rw[af.out] at f;obtain⟨C,c3,rfl,Z,g,a5⟩:=f)
    | (go_at_call 213;(with_reducible refine (nat_tk _ _ _ _ _ _ _ _ _ Z ((p.below q).below g) (Z9 _) ly ty AA).mono ?_);intro e w2 f;unfold RetTk at f;rw[Yd,ai] at f;obtain⟨D,c4,ts,rfl,ht,t,aj,ay⟩:=f))
   have G:=(W.below g X).below t (AJ X g.size);have cj:=own_cell G ae.out;have cl:=G.frozen j;have F:=q.size;have ah:=g.size;have hB:=(q.trans (g.mono F)).trans (t.mono (BC F ah));go_region
   go_wp2;go_roundw
   case rel =>
    obtain⟨ar,au⟩:=ad.out;have bu:=nums_far ht (B:=w.heap.size) (λb L h=>by have:=aj b L h;omega) j (.int .u32 ((s+M:Nat):Int));have b5:=G.set_ j (s+M);refine⟨i,D,c4,qs.set j (s+M),ts,AF,AA,rfl,bu.drew,λb L h=>?_,b5.drew,(hB.setCell AE _).drew,LH (by rw[List.length_set];exact E.out),?_,LH ?_,LH ?_⟩
    ·have:=aj b L h;omega
    ·intro v hv;rcases List.mem_or_eq_of_mem_set hv with h | h
     ·exact I v h
     omega
    ·rw[bm.out,S.out,au,Nat.pow_succ,Nat.add_mul,Nat.one_mul,<-DV,Ej _ 2,DV]
    rw[ay.out bj.out,ar]
   simp[intOf] <;> omega
  have ai:decide (val ys<=2*val o+bt)=false:=by simpa using x
  have ad:=LH (T.out.2 AA);clear x T;generalize H:2*val o+bt=v2 at *;have af:=LH H;clear H;go_wp2_with (first
   | (go_at_call 212;(with_reducible refine (Zw7 _ _ _ _ bt _ an lr a4 AA).mono ?_);intro e w1 f;unfold RetNew at f;rw[af.out] at f;obtain⟨C,c3,rfl,Z,g,a5⟩:=f)
   | (go_at_call 213;(with_reducible refine (nat_tk _ _ _ _ _ _ _ _ _ Z ((p.below q).below g) (Z9 _) ly ty AA).mono ?_);intro e w2 f;unfold RetTk at f;rw[Yd,ai] at f;obtain⟨D,c4,ts,rfl,ht,t,aj,ay⟩:=f))
  have G:=(W.below g X).below t (AJ X g.size);have F:=q.size;have ah:=g.size;have hB:=(q.trans (g.mono F)).trans (t.mono (BC F ah));go_roundw
  case rel =>
   obtain⟨ar,au⟩:=ad.out;refine⟨i,C,c3,qs,limbs v2,AF,AA,rfl,Z.below t,λb L h=>?_,G,hB,E,I,LH ?_,LH ?_⟩
   ·have:=a5 b L h;omega
   ·rw[S.out,au,Nat.pow_succ,<-DV,Ej _ 2,DV]
   rw[ar]
  simp[intOf] <;> omega
 obtain rfl:k=0:=AA
 have bx:=W.nums (n:=xs.length) (c:=xs.length) E.out (AI _) AA;have av:=LH (Vg _ I);have al:=S.out;rw[Nat.pow_zero,Nat.div_one,Ep] at al;rw[al] at av;have ao:=U.out;rw[Nat.pow_zero,Nat.div_one] at ao;have bl:=LH ao;clear al ao;go_wp2_with (go_at_call 199;(with_reducible refine (Q3 _ _ _ _ _ bx).mono ?_);rintro e w'⟨rfl,hN,rfl⟩);go_ret3
 rw[av.out] at hN ⊢;rw[<-bl.out];unfold RetQuo;exact⟨_,_,_,_,rfl,hN,an,q⟩
theorem Zu6(Ar:Option Addr)(cr a:Nat)(b:Option Addr)(ns cs:Nat)(j:Bool)(x:Nat)(w:World)(v:Zq .u32 w Ar (limbs a).length cr (limbs a))(z:a<big)(A:Z1 w b ns cs j x):
 Calls prog 129 #[.slice Ar (limbs a).length cr,.agg #[.slice b ns cs,.bool j]] w (RetOver a x Ar cr w):=by
 have n:=Zy w (.cells #[.slice b ns cs,.bool j] 174);have m:=Blk.new w 174 #[.slice b ns cs,.bool j];have y:=v.below n;have o:=A.below n;have p:=LH n;have u:=LH y;clear v A n y;go_enter func129,ntmps129;go_upto_region 1 with fail;generalize w.alloc (.cells #[.slice b ns cs,.bool j] 174)=g at *;have M:g.cell? ⟨w.heap.size,0,none⟩=some (.slice b ns cs):=m.cell 0;have N:g.cell? ⟨w.heap.size,1,none⟩=some (.bool j):=m.cell 1;have O:=m.lt;have G:=LH m;clear m;rcases o.cases with ⟨B,rfl,ex⟩ | ⟨B,rfl,ex⟩
 case inr =>
  have f:a<x:=AA
  clear ex o;go_wp2_with fail;go_ret2;exact⟨p.out,.inl ⟨f,rfl⟩⟩
 have l:=o.2;rw[ex] at l;obtain rfl:=l.len;have F:=LH l;have k:=Zym Ar _ cr (limbs a) b _ cs (limbs x) g u.out l (Z9 _) (Z9 _);rw[Zvu z B] at k;have k:=LH k;clear ex o l;by_cases f:a<x
 case pos =>
  have I:Vm a x<0:=Q5.2 f;have r:=LH f;clear f;go_wp2_with (
   go_at_call 76;(with_reducible refine k.out.mono ?_);rintro e c⟨rfl,t⟩;have q:=LH (Zz p.out (t.below _)))
  go_ret2;exact⟨q.out,.inl ⟨r.out,rfl⟩⟩
 have I:¬Vm a x<0:=λh=>f (Q5.1 h);have r:Hid (x<=a):=LH AA;have D:Hid (∀c,Below g.heap.size g c->Calls prog 181 #[.slice Ar (limbs a).length cr,.slice b (limbs x).length cs] c (Xr c (limbs (a-x),0))):=LH λc d=>by
  have h:=nat_sub Ar _ cr (limbs a) b _ cs (limbs x) c (u.out.below d) (F.out.below d) (Z9 _) (Z9 _);rwa [Zw6 z AA] at h
 clear f;go_wp2_with (first
  | (go_at_call 76
     (with_reducible refine k.out.mono ?_);rintro e c⟨rfl,t⟩;have d:=t.below g.heap.size;have s:=G.out.ext d;have P:c.cell? ⟨w.heap.size,0,none⟩=some (.slice b (limbs x).length cs):=s.cell 0;have R:=s.lt;have E:=LH (D.out c d);have q:=LH (Zz p.out d);clear s d)
  | (go_at_call 181
     (with_reducible refine E.out.mono ?_);rintro e L⟨C,c3,rfl,J,H⟩))
 go_ret2;exact⟨Zz q.out H,.inr ⟨r.out,C,c3,rfl,J⟩⟩
theorem Ztz(h:GH)(G:Gr)(n:Nat)(w:World)(B:Yf w h G)(h1:h.n1<=100)(h2:h.n2<=100)(h3:h.n3<=100)(hP:Xq G)(hO:Ni G (N5 G).1)(hn:n<=100):
 Calls prog 54 #[GV h G.start,.int .i64 (n:Int)] w (RetMake G n w):=by
 obtain⟨a1,n1,c1,a2,n2,c2,a3,n3,c3⟩:=h;have e2:G.nons.length=n2:=B.nons.len;have e3:G.rules.length=n3:=B.rules.len;have k2:=B.nons.cap;have k3:=B.rules.cap;simp only[] at h1 h2 h3 k2 k3;have Hg:=LH B;have bq:=Zy w (.cells #[.slice a1 n1 c1,.slice a2 n2 c2,.slice a3 n3 c3,.int .i64 G.start] 26);have bx:=Y1.new w 26 ⟨a1,n1,c1,a2,n2,c2,a3,n3,c3⟩ G.start;clear B;go_enter func54,ntmps54;have⟨z5,z0,z1,z2,z3⟩:=bx;simp only[] at z0 z1 z2 z3;go_wp2_with fail;generalize w.alloc (.cells #[.slice a1 n1 c1,.slice a2 n2 c2,.slice a3 n3 c3,.int .i64 G.start] 26)=W0 at *;(with_reducible refine (rf_Order ⟨a1,n1,c1,a2,n2,c2,a3,n3,c3⟩ G W0 (Hg.out.below bq) (by simp only[];omega) (by simp only[];omega) (by simp only[];omega)).mono ?_);rintro e y⟨bv,Ao,co,rfl,hI⟩;have cd:=LH (Zz bq bv);have aq:=LH (bx.below bv);have hr:=hI.cap;have HP:=LH hP;have be:=LH hP.fits;have HO:=LH hO;have fy:(Z6 (N5 G).1).length=(N5 G).1.length:=by simp[Z6]
 generalize (N5 G).2=er at *;generalize (N5 G).1=C at *;have HI:=LH hI;clear z0 z1 z2 z3 z5 bx bv bq hI hP hO fy;go_wp2_with fail;go_loopw [5,8] (λcv i wr=>∃(m:Nat) (A:Option Addr) (c:Nat) (R:List Nat) (tab:Nat->Nat->Nat),m<=n+1/\i = .int .i64 (m:Int)/\cv = .slice A m c/\Hid (Jc wr y.heap.size A m c n2 R tab)/\Hid (Ll G C tab m 0)/\Hid (∀k,m<=k->∀i,tab k i=0)/\Hid (Below y.heap.size y wr)) (λ_ i _=>n+1-(intOf i).toNat)
 case atStart=>exact⟨0,none,0,[],λ_ _=>0,AU _,rfl,rfl,LH (Jc.start _ _ _ _),LH (Ll.start G C),LH λ_ _ _=>rfl,LH (AK _ _)⟩
 obtain⟨m,A,c,R,tab,hm,rfl,rfl,z,HD,HZ,q⟩:=hrel;have O:=aq.out.below q.out;have⟨y5,y0,y1,y2,y3⟩:=O;simp only[] at y0 y1 y2 y3;clear O;by_cases hf:m<=n
 case neg =>
  obtain rfl:n+1=m:=AA
  have hl:¬(((n+1:Nat):Int)<=(n:Int)):=AA
  have d3:Hid (RetMake G n w (.returned (.slice A (n+1) c)) wr):=LH ⟨Zz cd.out q.out,A,c,tab,rfl,by rw[e2];exact z.out.tab,λk hk i hi=>HD.out.low k AA i hi⟩;go_wp2_with fail;go_ret;exact d3.out
 have fx:=Zzv n2 AA;have dl:=Vp.new wr 46 n2;have dk:=Zy wr (.cells (zeroCells n2) 46);have dh:(wr.alloc (.cells (zeroCells n2) 46)).heap.size=wr.heap.size+1:=Zl _ _;have b3:=Zy (wr.alloc (.cells (zeroCells n2) 46)) (.cells #[.slice (some ⟨wr.heap.size,0,none⟩) n2 n2] 89);have dc:((wr.alloc (.cells (zeroCells n2) 46)).alloc (.cells #[.slice (some ⟨wr.heap.size,0,none⟩) n2 n2] 89)).cell? ⟨(wr.alloc (.cells (zeroCells n2) 46)).heap.size,0,none⟩=some (.slice (some ⟨wr.heap.size,0,none⟩) n2 n2):=(Blk.new _ 89 #[.slice (some ⟨wr.heap.size,0,none⟩) n2 n2]).cell 0;have bh:=LH (Zz dk b3);have bj:=LH (dl.below b3);have af:=LH (z.out.below bh.out);have df:∀g∈R,g<wr.heap.size:=λg B=>by
  obtain⟨j,hj⟩:=BU B;exact (z.out.row j g hj).2.lt
 have cl:=LH df;have bi:=LH dc;have ay:y.heap.size<=wr.heap.size:=q.out.size;have bw:y.heap.size<=((wr.alloc (.cells (zeroCells n2) 46)).alloc (.cells #[.slice (some ⟨wr.heap.size,0,none⟩) n2 n2] 89)).heap.size:=by rw[Zl,Zl];omega
 have d9:=LH Tryz.infoValS;have cn:=LH dh;clear dl dk b3 dc df dh;go_upto_region 7 with (at_builtin;refine wpl_appendV rfl _ _ 84 rfl y.heap.size 89 _ 24 underlying84 d9.out AC (by intro u hu k x he;subst he;simp[Value.cells] at hu) A m c (R.map λg=>Value.slice (some ⟨g,0,none⟩) n2 n2) rfl af.out.own af.out.noInt slices_noInt _ 1 (.slice (some ⟨wr.heap.size,0,none⟩) n2 n2) rfl (by first | exact bi.out | (rw[<-cn.out];exact bi.out)) rfl (by intro k x he;cases he) AA AA bw ?_;intro A5 c5 w5 ho B ha dd);have dx:Hid (Jc w5 y.heap.size A5 (m+1) c5 n2 (R++[wr.heap.size]) tab):=LH (af.out.snoc ho B dd (by rw[<-zero_row n2 m λi=>HZ.out m (AI _) i];exact bj.out) ay λfv=>Nat.lt_irrefl _ (cl.out _ fv));have ds:Hid (Below y.heap.size y w5):=LH ((q.out.trans (bh.out.mono ay)).trans ((Off.of_grown B).is_below bw λk hk=>(af.out.own.lt k hk).1));have g8:wr.heap.size<w5.heap.size:=AJ bj.out.lt B.size;have bg:Hid ((R++[wr.heap.size])[m]? = some wr.heap.size):=LH (by rw[BX (by rw[z.out.len];exact AI _),z.out.len,Nat.sub_self];rfl);have g7:y.heap.size<=wr.heap.size:=ay;clear ho B ha dd fx bw ay y0 y1 y2 y3 y5;generalize wr.heap.size=L at *;generalize R++[L]=ag at *;clear z af q bh bj cl bi cn;go_wp2_with fail;go_loopw [9] (λi Y=>∃(p:Nat) (f:Nat->Nat->Nat),p<=C.length/\i = .int .i64 (p:Int)/\Hid (Jc Y y.heap.size A5 (m+1) c5 n2 ag f)/\Hid (Ll G C f m p)/\Hid (∀k,m<k->∀i,f k i=0)/\Hid (Below y.heap.size y Y)) (λi _=>C.length-(intOf i).toNat)
 case atStart=>exact⟨0,tab,AU _,rfl,dx,HD,LH λk hk i=>HZ.out k AA i,ds⟩
 obtain⟨p,f,d,rfl,z,a7,bb,q⟩:=hrel;have O:=aq.out.below q.out;have⟨y5,y0,y1,y2,y3⟩:=O;simp only[] at y0 y1 y2 y3;clear O;by_cases b4:p<C.length
 case neg =>
  obtain rfl:p=C.length:=AA
  have a8:Hid (Ll G C f (m+1) 0):=LH (a7.out.row HO.out λi=>bb.out (m+1) AA i);have bd:Hid (∀k,m+1<=k->∀i,f k i=0):=LH λk hk i=>bb.out k AA i;go_wp2_with fail;go_roundw
  case rel=>exact⟨m+1,A5,c5,ag,f,AA,AF,rfl,z,a8,bd,q⟩
  simp[intOf] <;> omega
 have br:=Zy wr (.cells #[.slice none 0 0,.bool false] 46);have c8:=Blk.new wr 46 #[.slice none 0 0,.bool false];obtain⟨o,ar⟩:∃o,Hid (C[p]? = some o):=⟨_,LH (AM b4)⟩;have da:o<n2:=by rw[<-e2];exact HO.out.lt o (AL ar.out)
 have di:∀g∈ag,g<wr.heap.size:=λg B=>by
  obtain⟨j,hj⟩:=BU B;exact (z.out.row j g hj).2.lt
 have dj:∀b,(Value.slice A5 (m+1) c5).ownBlock=some b->b<wr.heap.size:=λb U=>(z.out.own.lt b U).2;have dy:=LH (z.out.below br);have du:=LH (q.out.trans (br.mono q.out.size));have g9:y.heap.size<=wr.heap.size:=q.out.size;go_upto_region 11 with fail;generalize wr.alloc (.cells #[.slice none 0 0,.bool false] 46)=WS at *;generalize wr.heap.size=H at *;have d2:=LH c8;have fe:=LH di;have ff:=LH dj;clear c8 di dj br z q y0 y1 y2 y3 y5;go_wp2_with fail;go_loopw [11] (λi Y=>∃(k:Nat) (I:Option Addr) (ns cs:Nat) (J:Bool),k<=n3/\i = .int .i64 (k:Int)/\Hid (Jc Y y.heap.size A5 (m+1) c5 n2 ag f)/\Hid (Blk Y H 46 #[.slice I ns cs,.bool J])/\Hid (Z1 Y I ns cs J (Yc (Yk f) (G.rules.take k) o m))/\Hid (Below y.heap.size y Y)) (λi _=>n3-(intOf i).toNat)
 case atStart=>exact⟨0,none,0,0,false,AU _,rfl,dy,d2,LH (Z1.zero _ _ _ AA),du⟩
 obtain⟨k,I,ns,cs,J,hk,rfl,z,Z,HV,q⟩:=hrel;have O:=aq.out.below q.out;have⟨y5,y0,y1,y2,y3⟩:=O;simp only[] at y0 y1 y2 y3;clear O;have x0:wr.cell? ⟨H,0,none⟩=some (.slice I ns cs):=Z.out.cell 0;have x1:wr.cell? ⟨H,1,none⟩=some (.bool J):=Z.out.cell 1;have xl:=Z.out.lt;obtain⟨V,W,ov,rfl,hq,fa,fl⟩:=(HI.out.below q.out).get (j:=p) (by first | exact b4 | (simp[Z6];exact b4));have fz:ov=(o:Int):=by have:=fa.out;unfold Z6 at this;rw[BA,ar.out] at this;simpa using this.symm
 subst fz;by_cases fw:k<n3
 case neg =>
  obtain rfl:k=n3:=AA
  as_aux_lemma =>
   have cp:Hid (Yc (Yk f) (G.rules.take k) o m=Zv G (-1-(o:Int)) m):=LH (by rw[AQ AA];exact a7.out.next HP.out HO.out ar.out);obtain⟨tb,tu,rfl,_,ht,fd,gx,_⟩:=Gh z.out.own (j:=m) AA;have f3:tu = .slice (some ⟨L,0,none⟩) n2 n2:=by have:=fd.out;rw[BA,bg.out] at this;simpa using this.symm
   subst f3;have ak:=(z.out.row m L bg.out).2;obtain⟨Aq,nq,cq,dq,g0,g1,_⟩:=ak.get (j:=o) (by simp;exact da);have cw:=ak.frozen (o*2);have cx:=ak.frozen (o*2+1);have az:=ak.lt;have cf:=LH λx:Ext wr=>(z.out.below (Zr wr x)).put bg.out da (HV.out.below (Zr wr x));have fs:=q.out.size;have a8:Hid (Ll G C (U6 f m o (Yc (Yk f) (G.rules.take k) o m)) m (p+1)):=LH (a7.out.put ar.out _ cp.out);have bd:Hid (∀k',m<k'->∀i,U6 f m o (Yc (Yk f) (G.rules.take k) o m) k' i=0):=LH λk' b2 i=>by unfold U6;rw[if_neg AA];exact bb.out k' b2 i
   clear ak cp;generalize Yc (Yk f) (G.rules.take k) o m=vN at *;go_upto_region 16 with fail;have bc:=Yt wr;have bf:=Kh wr;refine Yx 10 AB AB ?_;simp only[List.take_succ_cons,List.take_zero,List.drop_succ_cons,Eg];repeat (go_big_quiet_step (fail))
   refine BK ?_;rintro _⟨x,rfl⟩;have c0:=(bc x L (o*2) az).trans g0;have c1:=(bc x L (o*2+1) az).trans g1;have d0:=(bf x L (o*2) az).trans cw;have d1:=(bf x L (o*2+1) az).trans cx;have f2:=Lb wr x;go_wp2_with fail;go_roundw
   case rel=>exact⟨p+1,_,AA,AF,LH (cf.out x).1,a8,bd,LH ((q.out.trans ((Zr wr x).mono q.out.size)).trans ((cf.out x).2.is_below (BC fs f2) λk' b2=>AA))⟩
   simp[intOf] <;> omega
 obtain⟨D,F,r,Ar,cr,rfl,a4,Hr,q0,q1,q2,dg⟩:=(Hg.out.below (Zz cd.out q.out)).rules.get fw;have a0:=AL Hr.out;obtain⟨l1,l2⟩:=be.out.left r a0;have hc:=be.out.len r a0;have b5:=be.out.symB a0;rw[e2] at b5;have au:=LH (rulesT_take (T:=Yk f) Hr.out o m);obtain⟨E,db⟩:∃E:Nat,r.left=(E:Int):=⟨r.left.toNat,AA⟩;have cj:Hid (r.left.toNat=E):=LH AA;rw[db] at q0;have bc:=Yt wr;have fc:=LH b5;have cm:=LH dg;clear b5 dg l1 l2 db a0;by_cases b1:E=o
 case neg =>
  as_aux_lemma =>
   have ft:((E:Int)==(o:Int))=false:=by rw[AP];omega
   have ai:Yc (Yk f) (G.rules.take (k+1)) o m=Yc (Yk f) (G.rules.take k) o m:=by rw[au.out,if_neg (by rw[cj.out];exact b1),DJ]
   have ba:=LH ai;clear b1 ai au;go_upto_region 14 with fail;refine Zs AB AB ?_;repeat (go_big_quiet_step (fail))
   refine BK ?_;rintro _⟨x,rfl⟩;go_wp2_with fail;go_roundw
   case rel=>exact⟨k+1,I,ns,cs,J,AA,AF,LH (z.out.below (Zr wr x)),LH (Blk.ext Z.out (Zr wr x)),LH (by rw[ba.out];exact HV.out.below (Zr wr x)),LH (q.out.trans ((Zr wr x).mono q.out.size))⟩
   simp[intOf] <;> omega
 subst b1;have ft:((E:Int)==(E:Int))=true:=AE
 have ai:Yc (Yk f) (G.rules.take (k+1)) E m=Yc (Yk f) (G.rules.take k) E m+Zx (Yk f) r.right m:=by rw[au.out,if_pos cj.out]
 have ba:=LH ai;clear ai au;generalize Yc (Yk f) (G.rules.take k) E m=vN at *;go_upto_region 14 with fail;refine Zs AB AB ?_;repeat (go_big_quiet_step (fail))
 refine BK ?_;rintro _⟨x,rfl⟩;have cg:=LH (z.out.below (Zr wr x));have ap:=LH (Blk.ext Z.out (Zr wr x));have dz:=LH (HV.out.below (Zr wr x));have an:=LH (q.out.trans ((Zr wr x).mono q.out.size));have f0:D<(bl wr x).heap.size:=AJ a4 (Lb wr x);have gm:=(bc x D (F+k*3) a4).trans q0;have dn:=(bc x D (F+k*3+1) a4).trans q1;have fb:=LH (cm.out.below (Zr wr x));generalize bl wr x=WY at *;clear z Z HV q cm q0 q1 q2 bc a4 x0 x1 xl fl y0 y1 y2 y3 y5 x;have⟨y5,y0,y1,y2,y3⟩:=aq.out.below an.out;simp only[] at y0 y1 y2 y3;have x0:WY.cell? ⟨H,0,none⟩=some (.slice I ns cs):=ap.out.cell 0;have x1:WY.cell? ⟨H,1,none⟩=some (.bool J):=ap.out.cell 1;have xl:=ap.out.lt;go_upto_region 15 with fail;refine Xh (λX=>Below WY.heap.size WY X) (λX X'=>Below X.heap.size X X') (λu=>(⟨(GV ⟨a1,n1,c1,a2,n2,c2,some ⟨D,F,none⟩,n3,c3⟩ G.start::Value.int IntKind.i64 (n:Int)::Value.pointer (some ⟨w.heap.size,0,none⟩)::undef::Value.slice none 0 0::Value.slice A5 (m+1) c5::Value.slice (some ⟨V,W,none⟩) C.length co::Value.int IntKind.i64 er::Value.int IntKind.i64 (m:Int)::Value.int IntKind.i64 (p:Int)::Value.pointer (some ⟨H,0,none⟩)::Value.int IntKind.i64 (k:Int)::Value.tuple #[Value.slice (some ⟨V,W,none⟩) C.length co,Value.int IntKind.i64 er]::Value.agg #[Value.slice a1 n1 c1,Value.slice a2 n2 c2,Value.slice (some ⟨D,F,none⟩) n3 c3,Value.int IntKind.i64 G.start]::Value.tuple #[Value.slice (some ⟨V,W,none⟩) C.length co,Value.int IntKind.i64 er]::Value.slice (some ⟨V,W,none⟩) C.length co::Value.int IntKind.i64 er::Value.int IntKind.i64 (m:Int)::Value.int IntKind.i64 (n:Int)::Value.bool true::u20::u21::Value.slice A m c::Value.pointer (some ⟨w.heap.size,1,none⟩)::Value.slice a2 n2 c2::Value.int IntKind.i64 (n2:Int)::Value.slice (some ⟨L,0,none⟩) n2 n2::Value.slice (some ⟨L+1,0,none⟩) 1 1::Value.slice A5 (m+1) c5::Value.int IntKind.i64 (p:Int)::Value.slice (some ⟨V,W,none⟩) C.length co::Value.int IntKind.i64 (C.length:Int)::Value.bool true::u33::u34::Value.agg #[Value.slice none 0 0,Value.bool false]::Value.int IntKind.i64 (k:Int)::Value.pointer (some ⟨w.heap.size,2,none⟩)::Value.slice (some ⟨D,F,none⟩) n3 c3::Value.int IntKind.i64 (n3:Int)::Value.bool true::u41::u42::Value.pointer (some ⟨w.heap.size,2,none⟩)::Value.slice (some ⟨D,F,none⟩) n3 c3::Value.int IntKind.i64 (k:Int)::Value.pointer (some ⟨D,F+k*3,none⟩)::Value.pointer (some ⟨D,F+k*3,none⟩)::Value.int IntKind.i64 (E:Int)::Value.slice (some ⟨V,W,none⟩) C.length co::Value.int IntKind.i64 (p:Int)::Value.pointer (some ⟨V,W+p,none⟩)::Value.int IntKind.i64 (E:Int)::Value.bool true::u 0::u 1::u 2::u 3::u 4::u 5::u 6::u 7::u 8::u 9::u 10::u65::u66::u67::u68::u69::u70::u71::u72::u73::u74::undef::[]).toArray,[]⟩:Act)) [u54,u55,u56,u57,u58,u59,u60,u61,u62,u63,u64] [λv X=>v=Value.agg #[Value.slice I ns cs,Value.bool J],λv X=>v=Value.slice A5 (m+1) c5,λv X=>v=Value.pointer (some ⟨w.heap.size,2,none⟩),λv X=>v=Value.slice (some ⟨D,F,none⟩) n3 c3,λv X=>v=Value.int .i64 (k:Int),λv X=>v=Value.pointer (some ⟨D,F+k*3,none⟩),λv X=>v=Value.pointer (some ⟨D,F+k*3+1,none⟩),λv X=>v=Value.slice Ar r.right.length cr,λv X=>v=Value.int .i64 (m:Int),λv X=>∃A n c b,v=Value.agg #[Value.slice A n c,Value.bool b]/\Z1 X A n c b (Zx (Yk f) r.right m),λv X=>∃A n c b,v=Value.agg #[Value.slice A n c,Value.bool b]/\Z1 X A n c b (vN+Zx (Yk f) r.right m)] (λu X=>∃At P M N,Jc X y.heap.size A5 (m+1) c5 n2 ag f/\Blk X H 46 #[Value.slice At P M,Value.bool N]/\Z1 X At P M N (vN+Zx (Yk f) r.right m)/\Below y.heap.size y X) (l:=[_,_,_,_,_,_,_,_,_,_,_]) AB AB AB rfl rfl (AK _ _).drew ⟨λ_ _ _ h _=>h,λ_ _ _ h _=>h,λ_ _ _ h _=>h,λ_ _ _ h _=>h,λ_ _ _ h _=>h,λ_ _ _ h _=>h,λ_ _ _ h _=>h,λ_ _ _ h _=>h,λ_ _ _ h _=>h,(λ_ _ _ ⟨A,n,c,b,e,h⟩ U=>⟨A,n,c,b,e,h.below U⟩),(λ_ _ _ ⟨A,n,c,b,e,h⟩ U=>⟨A,n,c,b,e,h.below U⟩),trivial⟩ ?_ ?_ ?_
 ·refine Zk.cons rfl (λ_ _=>rfl) (λQ u X a d KK t=>?_) ?_
  ·have bk:=(a.cell (p:=⟨H,0,none⟩) xl).trans x0;have fk:=(a.cell (p:=⟨H,1,none⟩) xl).trans x1;go_simp;exact t _ _ a (AK _ _) rfl
  refine Zk.cons rfl (λ_ _=>rfl) (λQ u X a d KK t=>?_) ?_
  ·go_simp;exact t _ _ a (AK _ _) rfl
  refine Zk.cons rfl (λ_ _=>rfl) (λQ u X a d KK t=>?_) ?_
  ·have hw:=AJ y5 a.size;go_simp;exact t _ _ a (AK _ _) rfl
  refine Zk.cons rfl (λ_ _=>rfl) (λQ u X a d KK t=>?_) ?_
  ·have p2:u 2=_:=d 2 rfl;clear d;generalize u 2=x2 at *;subst p2;have bk:=(a.cell (p:=⟨w.heap.size,2,none⟩) y5).trans y2;go_simp;exact t _ _ a (AK _ _) rfl
  refine Zk.cons rfl (λ_ _=>rfl) (λQ u X a d KK t=>?_) ?_
  ·go_simp;exact t _ _ a (AK _ _) rfl
  refine Zk.cons rfl (λ_ _=>rfl) (λQ u X a d KK t=>?_) ?_
  ·have p3:u 3=_:=d 3 rfl;have p4:u 4=_:=d 4 rfl;clear d;generalize u 3=x3 at *;subst p3;generalize u 4=x4 at *;subst p4;go_simp;exact t _ _ a (AK _ _) rfl
  refine Zk.cons rfl (λ_ _=>rfl) (λQ u X a d KK t=>?_) ?_
  ·have p5:u 5=_:=d 5 rfl;clear d;generalize u 5=x5 at *;subst p5;go_simp;exact t _ _ a (AK _ _) rfl
  refine Zk.cons rfl (λ_ _=>rfl) (λQ u X a d KK t=>?_) ?_
  ·have p6:u 6=_:=d 6 rfl;clear d;generalize u 6=x6 at *;subst p6;have bk:=(a.cell (p:=⟨D,F+k*3+1,none⟩) f0).trans dn;go_simp;exact t _ _ a (AK _ _) rfl
  refine Zk.cons rfl (λ_ _=>rfl) (λQ u X a d KK t=>?_) ?_
  ·go_simp;exact t _ _ a (AK _ _) rfl
  refine Zk.cons rfl (λ_ _=>rfl) (λQ u X a d KK t=>?_) ?_
  ·have p1:u 1=_:=d 1 rfl;have p7:u 7=_:=d 7 rfl;have p8:u 8=_:=d 8 rfl;clear d;generalize u 1=x1 at *;subst p1;generalize u 7=x7 at *;subst p7;generalize u 8=x8 at *;subst p8;have fq:=cg.out.tab.below a;have fp:=fb.out.below a;go_simp;(with_reducible refine (Kd A5 (m+1) c5 n2 f Ar cr r.right m X fq (Em m) AA AA fp AA λs hs=>by have:=fc.out s hs;omega).mono ?_);rintro e w2⟨ah,a6,nr,bm,dr,rfl,b6⟩;go_simp;exact t _ _ (Zz a ah) ah ⟨a6,nr,bm,dr,rfl,b6⟩
  refine Zk.cons rfl (λ_ _=>rfl) (λQ u X a d KK t=>?_) ?_
  ·have p0:u 0=_:=d 0 rfl;obtain⟨a6,nr,bm,dr,p9,b6⟩:=d 9 rfl;clear d;generalize u 0=x0 at *;subst p0;generalize u 9=x9 at *;subst p9;have f5:=dz.out.below a;go_simp;(with_reducible refine (Zuc I ns cs J _ a6 nr bm dr _ X f5 b6).mono ?_);rintro e w2⟨ah,At,P,M,N,rfl,b7⟩;go_simp;exact t _ _ (Zz a ah) ah ⟨At,P,M,N,rfl,b7⟩
  exact Zk.nil
 ·intro Q u X a d KK t;obtain⟨At,P,M,N,gd,b7⟩:=d 10 AC;clear d;generalize u 10=hz at *;subst gd;have S:=Blk.ext ap.out a;have ad:=valcell_set S At P M N;have bk:X.cell? ⟨H,0,none⟩=some (.slice I ns cs):=S.cell 0;have fk:X.cell? ⟨H,1,none⟩=some (.bool J):=S.cell 1;have cw:=S.frozen 0;have cx:=S.frozen 1;have hv:=S.lt;have c7:=(cg.out.below a).off ad.1 (λb U e=>by have:=ff.out b U;omega) (λg B e=>by have:=fe.out g B;omega) ad.2.2;have c4:=(an.out.trans (a.mono an.out.size)).trans (ad.1.is_below (BC an.out.size a.size) λk' b2=>AA);have d4:=LH (And.intro c7 (And.intro ad.2.1 (And.intro (b7.kept ad.2.2) c4)));clear c7 c4 ad S;go_simp;exact t (λi=>([u 0,u 1,u 2,u 3,u 4,u 5,u 6,u 7,u 8,u 9,Value.agg #[Value.slice At P M,Value.bool N]]:List Value).getD i undef) _ (⟨At,P,M,N,d4.out⟩)
 intro u W9 fu;obtain⟨A9,n9,c9,b9,g1,g2,g3,g4⟩:=fu;have d5:=LH g1;have d6:=LH g2;have d8:=LH g4;rw[<-ba.out] at g3;have d7:=LH g3;clear g1 g2 g3 g4 x0 x1 gm dn y0 y1 y2 y3 y5;go_wp2_with fail;go_roundw
 case rel=>exact⟨k+1,A9,n9,c9,b9,AA,AF,d5,d6,d7,d8⟩
 simp[intOf] <;> omega
section
open Go.Shelf
open Go.ChangeShapes Go.WideShapes Go.ChangeAt Go.RowKit
open Go.ChangeShapes Go.WideShapes Go.ChangeAt Go.RowKit
open Go.ChangeShapes Go.WideShapes Go.ChangeAt Go.RowKit Go.Lib Go.Deep
open Go.ChangeShapes Go.WideShapes Go.ChangeAt Go.RowKit Go.Lib Go.Deep
theorem rf_Same9(h k:GH)(A B:Gr)(w:World)(L:Yf w h A)(M:Yf w k B):
 Calls prog 24 #[GV h A.start,GV k B.start] w λe w'=>e = .returned (.bool (eqG A B))/\Below w w w':=by
 obtain⟨a1,n1,c1,a2,n2,c2,a3,n3,c3⟩:=h;obtain⟨b1,O,d1,b2,P,d2,b3,R,d3⟩:=k;have X:A.terms.length=n1:=L.terms.len;have Y:A.nons.length=n2:=L.nons.len;have Z:A.rules.length=n3:=L.rules.len;have g1:B.terms.length=O:=M.terms.len;have g2:B.nons.length=P:=M.nons.len;have g3:B.rules.length=R:=M.rules.len;have k1:=L.terms.cap;have k2:=L.nons.cap;have k3:=L.rules.cap;have l1:=M.terms.cap;have l2:=M.nons.cap;have l3:=M.rules.cap;simp only[] at k1 k2 k3 l1 l2 l3;have HA:=LH L;have HB:=LH M;have bk:=Y1.new w 26 ⟨a1,n1,c1,a2,n2,c2,a3,n3,c3⟩ A.start;have am:=Y1.new (w.alloc (.cells #[.slice a1 n1 c1,.slice a2 n2 c2,.slice a3 n3 c3,.int .i64 A.start] 26)) 26 ⟨b1,O,d1,b2,P,d2,b3,R,d3⟩ B.start;have bd:=Zy w (.cells #[.slice a1 n1 c1,.slice a2 n2 c2,.slice a3 n3 c3,.int .i64 A.start] 26);have a0:=Zy (w.alloc (.cells #[.slice a1 n1 c1,.slice a2 n2 c2,.slice a3 n3 c3,.int .i64 A.start] 26)) (.cells #[.slice b1 O d1,.slice b2 P d2,.slice b3 R d3,.int .i64 B.start] 26);have bf:(w.alloc (.cells #[.slice a1 n1 c1,.slice a2 n2 c2,.slice a3 n3 c3,.int .i64 A.start] 26)).heap.size=w.heap.size+1:=Zl _ _;have az:=bk.below a0;have hW:=Zz bd a0;clear L M bk bd a0;go_enter func24,ntmps24;go_upto_region 1 with fail;generalize (w.alloc (.cells #[.slice a1 n1 c1,.slice a2 n2 c2,.slice a3 n3 c3,.int .i64 A.start] 26)).alloc (.cells #[.slice b1 O d1,.slice b2 P d2,.slice b3 R d3,.int .i64 B.start] 26)=W at *;rw[bf] at am;have C:=LH az;have D:=LH am;have b:=LH hW;have⟨y5,y0,y1,y2,y3⟩:=az;simp only[] at y0 y1 y2 y3;have⟨z5,z0,z1,z2,z3⟩:=am;simp only[] at z0 z1 z2 z3;clear az am bf hW;have s:A≠B->Hid (eqG A B=false):=λh=>LH (eqG_no h);by_cases q1:n1=O
 case neg =>
  have m:=s (by rintro rfl;omega);have i1:((n1:Int) != (O:Int))=true:=by rw[BN];omega
  clear s q1 X Y Z g1 g2 g3;go_wp2_with fail;go_ret;exact⟨by rw[m.out];rfl,b.out⟩
 have i1:((n1:Int) != (O:Int))=false:=by rw[BS];omega
 by_cases q2:n2=P
 case neg =>
  have m:=s (by rintro rfl;omega);have i2:((n2:Int) != (P:Int))=true:=by rw[BN];omega
  clear s q1 q2 X Y Z g1 g2 g3;go_wp2_with fail;go_ret;exact⟨by rw[m.out];rfl,b.out⟩
 have i2:((n2:Int) != (P:Int))=false:=by rw[BS];omega
 by_cases q3:n3=R
 case neg =>
  have m:=s (by rintro rfl;omega);have y:((n3:Int) != (R:Int))=true:=by rw[BN];omega
  clear s q1 q2 q3 X Y Z g1 g2 g3;go_wp2_with fail;go_ret;exact⟨by rw[m.out];rfl,b.out⟩
 have y:((n3:Int) != (R:Int))=false:=by rw[BS];omega
 by_cases q4:A.start=B.start
 case neg =>
  have m:=s (by rintro rfl;exact q4 rfl);have i4:(A.start != B.start)=true:=by rw[BN];exact q4
  clear s q1 q2 q3 q4 X Y Z g1 g2 g3;go_wp2_with fail;go_ret;exact⟨by rw[m.out];rfl,b.out⟩
 have i4:(A.start != B.start)=false:=by rw[BS];exact q4
 have b0:=LH q4;have E1:=LH X;have E2:=LH Y;have E3:=LH Z;have G1:=LH g1;have G2:=LH g2;have G3:=LH g3;obtain rfl:n1=O:=q1;obtain rfl:n2=P:=q2;obtain rfl:n3=R:=q3;have m:=LH s;clear s q4 X Y Z g1 g2 g3;go_wp2_with fail;clear i1 i2 y i4 y0 y1 y2 y3 z0 z1 z2 z3;go_loopw [5] (λi wr=>∃q:Nat,q<=n1/\i = .int .i64 (q:Int)/\Hid (A.terms.take q=B.terms.take q)/\Hid (Below W W wr)) (λi _=>n1-(intOf i).toNat)
 case atStart=>exact⟨0,AU _,rfl,LH rfl,LH (AK _ _)⟩
 obtain⟨q,hq,rfl,n,a⟩:=hrel;have⟨y5',y0,y1,y2,y3⟩:=C.out.below a.out;simp only[] at y0 y1 y2 y3;have⟨z5',z0,z1,z2,z3⟩:=D.out.below a.out;simp only[] at z0 z1 z2 z3;by_cases N:q<n1
 case pos =>
  obtain⟨tb,bn,t,rfl,bg,E,p0,p1,p2⟩:=(HA.out.below (Zz b.out a.out)).terms.get N;obtain⟨ub,bp,u,rfl,bi,F,r0,r1,r2⟩:=(HB.out.below (Zz b.out a.out)).terms.get N;have ae:=eq_trm t u;have cm:=Tryz.guardTerm;have bc:=Yt wr;cases v:trmB t u
  case false =>
   have d:=m.out (λe=>by
    have h1:=E.out;rw[e,F.out] at h1;have:u=t:=by simpa using h1
    rw[this,Bf.2 rfl] at v;cases v)
   rw[v] at ae;go_wp2_with fail;refine Zs AB AB ?_;repeat (go_big_quiet_step (fail))
   refine BK ?_;rintro _⟨x,rfl⟩;go_wp2_with fail;go_ret;exact⟨by rw[d.out];rfl,Zz b.out (a.out.trans ((Zr wr x).mono a.out.size))⟩
  obtain rfl:=Bf.1 v;rw[v] at ae;go_wp2_with fail;refine Zs AB AB ?_;repeat (go_big_quiet_step (fail))
  refine BK ?_;rintro _⟨x,rfl⟩;go_wp2_with fail;go_roundw
  case rel=>exact⟨q+1,AA,AF,LH (Qc n.out E.out F.out),LH (a.out.trans ((Zr wr x).mono a.out.size))⟩
  simp[intOf];omega
 obtain rfl:q=n1:=AA
 have HT:Hid (A.terms=B.terms):=LH (by have:=n.out;rwa [AQ (by rw[E1.out];exact AI _),AQ (by rw[G1.out];exact AI _)] at this);have ai:=LH (Zz b.out a.out);have aj:=LH (C.out.below a.out);have ak:=LH (D.out.below a.out);go_wp2_with fail;clear y0 y1 y2 y3 z0 z1 z2 z3 y5' z5' n a C D b;have C:=aj;have D:=ak;have b:=ai;clear aj ak ai;generalize wr=W at *;go_loopw [6] (λi wr=>∃q:Nat,q<=n2/\i = .int .i64 (q:Int)/\Hid (A.nons.take q=B.nons.take q)/\Hid (Below W W wr)) (λi _=>n2-(intOf i).toNat)
 case atStart=>exact⟨0,AU _,rfl,LH rfl,LH (AK _ _)⟩
 obtain⟨q,hq,rfl,n,a⟩:=hrel;have⟨y5',y0,y1,y2,y3⟩:=C.out.below a.out;simp only[] at y0 y1 y2 y3;have⟨z5',z0,z1,z2,z3⟩:=D.out.below a.out;simp only[] at z0 z1 z2 z3;by_cases N:q<n2
 case pos =>
  obtain⟨tb,bn,t,rfl,bg,E,p0⟩:=(HA.out.below (Zz b.out a.out)).nons.get N;obtain⟨ub,bp,u,rfl,bi,F,r0⟩:=(HB.out.below (Zz b.out a.out)).nons.get N;have bc:=Yt wr;by_cases v:t=u
  case neg =>
   have ae:(t==u)=false:=by
    cases h:t==u
    ·rfl
    exact absurd (Zx5.1 h) v
   have b6:(t.toList==u.toList)=false:=by rw[<-beq_toListBytes];exact ae
   have d:=m.out (λe=>by
    have h1:=E.out;rw[e,F.out] at h1;exact v (by simpa using h1.symm))
   clear v;go_wp2_with fail;refine Zs AB AB ?_;repeat (go_big_quiet_step (fail))
   refine BK ?_;rintro _⟨x,rfl⟩;go_wp2_with fail;go_ret;exact⟨by rw[d.out];rfl,Zz b.out (a.out.trans ((Zr wr x).mono a.out.size))⟩
  subst v;have ae:(t==t)=true:=Zx5.2 rfl;have b6:(t.toList==t.toList)=true:=by rw[<-beq_toListBytes];exact ae
  go_wp2_with fail;refine Zs AB AB ?_;repeat (go_big_quiet_step (fail))
  refine BK ?_;rintro _⟨x,rfl⟩;go_wp2_with fail;go_roundw
  case rel=>exact⟨q+1,AA,AF,LH (Qc n.out E.out F.out),LH (a.out.trans ((Zr wr x).mono a.out.size))⟩
  simp[intOf];omega
 obtain rfl:q=n2:=AA
 have HN:Hid (A.nons=B.nons):=LH (by have:=n.out;rwa [AQ (by rw[E2.out];exact AI _),AQ (by rw[G2.out];exact AI _)] at this);have ai:=LH (Zz b.out a.out);have aj:=LH (C.out.below a.out);have ak:=LH (D.out.below a.out);go_wp2_with fail;clear y0 y1 y2 y3 z0 z1 z2 z3 y5' z5' n a C D b;have C:=aj;have D:=ak;have b:=ai;clear aj ak ai;generalize wr=W at *;go_loopw [7] (λi wr=>∃q:Nat,q<=n3/\i = .int .i64 (q:Int)/\Hid (A.rules.take q=B.rules.take q)/\Hid (Below W W wr)) (λi _=>n3-(intOf i).toNat)
 case atStart=>exact⟨0,AU _,rfl,LH rfl,LH (AK _ _)⟩
 obtain⟨q,hq,rfl,n,a⟩:=hrel;have⟨y5',y0,y1,y2,y3⟩:=C.out.below a.out;simp only[] at y0 y1 y2 y3;have⟨z5',z0,z1,z2,z3⟩:=D.out.below a.out;simp only[] at z0 z1 z2 z3;by_cases N:q<n3
 case neg =>
  obtain rfl:q=n3:=AA
  have HR:Hid (A.rules=B.rules):=LH (by have:=n.out;rwa [AQ (by rw[E3.out];exact AI _),AQ (by rw[G3.out];exact AI _)] at this);have b4:=LH (eqG_yes HT.out HN.out HR.out b0.out);go_wp2_with fail;go_ret;exact⟨by rw[b4.out];rfl,Zz b.out a.out⟩
 obtain⟨tb,bn,t,At,I,rfl,bg,E,p0,p1,p2,bh⟩:=(HA.out.below (Zz b.out a.out)).rules.get N;obtain⟨ub,bp,u,H,J,rfl,bi,F,r0,r1,r2,bj⟩:=(HB.out.below (Zz b.out a.out)).rules.get N;have a9:=LH bh;have ba:=LH bj;clear bh bj;go_upto_region 16 with fail;have V:Hid (t≠u->Hid (eqG A B=false)):=LH λb7=>m.out (λe=>by
  have h1:=E.out;rw[e,F.out] at h1;exact b7 (by simpa using h1.symm))
 go_region
 ·as_aux_lemma =>
   obtain⟨G,p,r⟩:=Zs0 wr 52 #[.int .i64 t.left,.slice At t.right.length I,.int .i64 t.prec] #[.int .i64 u.left,.slice H u.right.length J,.int .i64 u.prec];generalize ((wr.alloc (.cells #[.int .i64 t.left,.slice At t.right.length I,.int .i64 t.prec] 52)).alloc (.cells #[.int .i64 u.left,.slice H u.right.length J,.int .i64 u.prec] 52)).drew=f at *;have z:=LH (a.out.trans (G.mono a.out.size));have ce:f.cell? ⟨wr,0,none⟩=some (.int .i64 t.left):=p.cell 0;have cf:f.cell? ⟨wr,1,none⟩=some (.slice At t.right.length I):=p.cell 1;have cg:f.cell? ⟨wr,2,none⟩=some (.int .i64 t.prec):=p.cell 2;have ci:f.cell? ⟨(wr.heap.size+1),0,none⟩=some (.int .i64 u.left):=r.cell 0;have cj:f.cell? ⟨(wr.heap.size+1),1,none⟩=some (.slice H u.right.length J):=r.cell 1;have ck:f.cell? ⟨(wr.heap.size+1),2,none⟩=some (.int .i64 u.prec):=r.cell 2;have ch:=p.lt;have cl:=r.lt;have j:=LH (Mr At t.right.length I t.right H u.right.length J u.right f (a9.out.below G) (ba.out.below G));clear G p r y0 y1 y2 y3 z0 z1 z2 z3 p0 p1 p2 r0 r1 r2;by_cases c:t.left=u.left
   case neg =>
    have i1:(t.left != u.left)=true:=by rw[BN];exact c
    have d:=V.out λe=>c (by rw[e]);clear c;go_wp2_with (go_at_call 37;(with_reducible refine j.out.mono ?_);rintro e U⟨rfl,o⟩);go_ret;exact⟨by rw[d.out];rfl,Zz b.out z.out⟩
   have i1:(t.left != u.left)=false:=by rw[BS];exact c
   by_cases g:t.prec=u.prec
   case neg =>
    have i2:(t.prec != u.prec)=true:=by rw[BN];exact g
    have d:=V.out λe=>g (by rw[e]);clear c g;go_wp2_with (go_at_call 37;(with_reducible refine j.out.mono ?_);rintro e U⟨rfl,o⟩);go_ret;exact⟨by rw[d.out];rfl,Zz b.out z.out⟩
   have i2:(t.prec != u.prec)=false:=by rw[BS];exact g
   by_cases l:t.right=u.right
   case neg =>
    have y:(t.right==u.right)=false:=by rw[AP];exact l
    have d:=V.out λe=>l (by rw[e]);rw[y] at j;clear c g l;go_wp2_with (go_at_call 37;(with_reducible refine j.out.mono ?_);rintro e U⟨rfl,o⟩);have S:=LH (z.out.trans (o.below _));go_ret;exact⟨by rw[d.out];rfl,Zz b.out S.out⟩
   have y:(t.right==u.right)=true:=by rw[BP];exact l
   have T:=LH (And.intro c (And.intro g l));rw[y] at j;clear c g l;go_wp2_with (go_at_call 37;(with_reducible refine j.out.mono ?_);rintro e U⟨rfl,o⟩);have S:=LH (z.out.trans (o.below _));go_roundw
   case rel=>exact⟨q+1,AA,AF,LH (Qc n.out E.out (by rw[F.out,Zwu.1 (by unfold rulB;rw[T.out.1,T.out.2.1,T.out.2.2];simp:rulB t u=true)])),S⟩
   simp[intOf];omega
 as_aux_lemma =>
  obtain⟨G,r,p⟩:=Zs0 wr 52 #[.int .i64 u.left,.slice H u.right.length J,.int .i64 u.prec] #[.int .i64 t.left,.slice At t.right.length I,.int .i64 t.prec];generalize ((wr.alloc (.cells #[.int .i64 u.left,.slice H u.right.length J,.int .i64 u.prec] 52)).alloc (.cells #[.int .i64 t.left,.slice At t.right.length I,.int .i64 t.prec] 52)).drew=f at *;have z:=LH (a.out.trans (G.mono a.out.size));have ce:f.cell? ⟨(wr.heap.size+1),0,none⟩=some (.int .i64 t.left):=p.cell 0;have cf:f.cell? ⟨(wr.heap.size+1),1,none⟩=some (.slice At t.right.length I):=p.cell 1;have cg:f.cell? ⟨(wr.heap.size+1),2,none⟩=some (.int .i64 t.prec):=p.cell 2;have ci:f.cell? ⟨wr,0,none⟩=some (.int .i64 u.left):=r.cell 0;have cj:f.cell? ⟨wr,1,none⟩=some (.slice H u.right.length J):=r.cell 1;have ck:f.cell? ⟨wr,2,none⟩=some (.int .i64 u.prec):=r.cell 2;have ch:=p.lt;have cl:=r.lt;have j:=LH (Mr At t.right.length I t.right H u.right.length J u.right f (a9.out.below G) (ba.out.below G));clear G p r y0 y1 y2 y3 z0 z1 z2 z3 p0 p1 p2 r0 r1 r2;by_cases c:t.left=u.left
  case neg =>
   have i1:(t.left != u.left)=true:=by rw[BN];exact c
   have d:=V.out λe=>c (by rw[e]);clear c;go_wp2_with (go_at_call 37;(with_reducible refine j.out.mono ?_);rintro e U⟨rfl,o⟩);go_ret;exact⟨by rw[d.out];rfl,Zz b.out z.out⟩
  have i1:(t.left != u.left)=false:=by rw[BS];exact c
  by_cases g:t.prec=u.prec
  case neg =>
   have i2:(t.prec != u.prec)=true:=by rw[BN];exact g
   have d:=V.out λe=>g (by rw[e]);clear c g;go_wp2_with (go_at_call 37;(with_reducible refine j.out.mono ?_);rintro e U⟨rfl,o⟩);go_ret;exact⟨by rw[d.out];rfl,Zz b.out z.out⟩
  have i2:(t.prec != u.prec)=false:=by rw[BS];exact g
  by_cases l:t.right=u.right
  case neg =>
   have y:(t.right==u.right)=false:=by rw[AP];exact l
   have d:=V.out λe=>l (by rw[e]);rw[y] at j;clear c g l;go_wp2_with (go_at_call 37;(with_reducible refine j.out.mono ?_);rintro e U⟨rfl,o⟩);have S:=LH (z.out.trans (o.below _));go_ret;exact⟨by rw[d.out];rfl,Zz b.out S.out⟩
  have y:(t.right==u.right)=true:=by rw[BP];exact l
  have T:=LH (And.intro c (And.intro g l));rw[y] at j;clear c g l;go_wp2_with (go_at_call 37;(with_reducible refine j.out.mono ?_);rintro e U⟨rfl,o⟩);have S:=LH (z.out.trans (o.below _));go_roundw
  case rel=>exact⟨q+1,AA,AF,LH (Qc n.out E.out (by rw[F.out,Zwu.1 (by unfold rulB;rw[T.out.1,T.out.2.1,T.out.2.2];simp:rulB t u=true)])),S⟩
  simp[intOf];omega
end
end Go.Proofs.YtggbjdmpjidhgaaGreatDoor
