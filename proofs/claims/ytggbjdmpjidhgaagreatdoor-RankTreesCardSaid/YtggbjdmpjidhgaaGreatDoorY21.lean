/- the cycles: the reference's, walked. -/
import Derived.Test.YtggbjdmpjidhgaaGreatDoorY17
import Derived.Test.YtggbjdmpjidhgaaGreatDoorY18
import Derived.Test.YtggbjdmpjidhgaaGreatDoorY19
set_option linter.all false
set_option maxHeartbeats 1500000
set_option maxRecDepth 100000
namespace Go.Proofs.YtggbjdmpjidhgaaGreatDoor
open Go.RowKit Go.Proofs.Tryz
theorem rf_Endless(h:GH)(G:Gr)(w:World)(l:Yf w h G)(h1:h.n1<=100)(c:h.n2<=100)(d:h.n3<=100):
 Calls prog 30 #[GV h G.start] w λe w'=>Below w w w'/\e = .returned (.bool (endG G)):=by
 obtain⟨a1,n1,c1,a2,n2,c2,a3,n3,c3⟩:=h;have r:=LH l;have f:=Zy w (.cells #[.slice a1 n1 c1,.slice a2 n2 c2,.slice a3 n3 c3,.int .i64 G.start] 26);have j:=Y1.new w 26 ⟨a1,n1,c1,a2,n2,c2,a3,n3,c3⟩ G.start;clear l;go_enter func30,ntmps30;have⟨y5,y0,y1,y2,y3⟩:=j;simp only[] at y0 y1 y2 y3;go_upto_region 1 with fail;generalize w.alloc (.cells #[.slice a1 n1 c1,.slice a2 n2 c2,.slice a3 n3 c3,.int .i64 G.start] 26)=a at *;have o:=LH f;have g:=LH (r.out.below f);clear f j;have m:=LH λx:Ext a=>(Zvc ⟨a1,n1,c1,a2,n2,c2,a3,n3,c3⟩ G (bl a x) (g.out.below (Zr a x)) h1 c d).mono λe w' b=>And.intro b.2 b.1;have n:=LH λx:Ext a=>(Zvq ⟨a1,n1,c1,a2,n2,c2,a3,n3,c3⟩ G (bl a x) (g.out.below (Zr a x)) h1 c d).mono λe w' b=>And.intro b.2 b.1;have u:=and32 (Vh G) (Gy G) (Ztq G) (useG_lt G);have k:endG G=((((Vh G &&& Gy G:Nat):Int)) != 0):=by rw[bne_cast];rfl
 have q:=LH k;generalize Vh G &&& Gy G=z at *;generalize Vh G=v at *;generalize Gy G=y at *;have t:=Yt a;clear h1 c d k;refine Zs AB AB ?_;repeat (go_big_quiet_step (first
  | (go_at_call 28;with_reducible exact Ve (m.out _))
  | (go_at_call 67;with_reducible exact Ve (n.out _))))
 refine BK ?_;rintro _⟨x,rfl⟩;have p:=LH (Zz o.out (Zr a x));generalize bl a x=s at *;go_wp2_with fail;go_ret;exact⟨p.out,by rw[q.out];rfl⟩
theorem rf_Order(h:GH)(G:Gr)(w:World)(r:Yf w h G)(h1:h.n1<=100)(h2:h.n2<=100)(h3:h.n3<=100):
 Calls prog 96 #[GV h G.start] w (Mx G w):=by
 obtain⟨a1,n1,c1,a2,n2,c2,a3,n3,c3⟩:=h;have e2:G.nons.length=n2:=r.nons.len;have k2:=r.nons.cap;simp only[] at h1 h2 h3 k2;have B:=LH r;have V:=Zy w (.cells #[.slice a1 n1 c1,.slice a2 n2 c2,.slice a3 n3 c3,.int .i64 G.start] 26);have aa:=Y1.new w 26 ⟨a1,n1,c1,a2,n2,c2,a3,n3,c3⟩ G.start;clear r;go_enter func96,ntmps96;have⟨z5,z0,z1,z2,z3⟩:=aa;simp only[] at z0 z1 z2 z3;go_wp2_with fail;generalize w.alloc (.cells #[.slice a1 n1 c1,.slice a2 n2 c2,.slice a3 n3 c3,.int .i64 G.start] 26)=W0 at *;(with_reducible refine (Jr ⟨a1,n1,c1,a2,n2,c2,a3,n3,c3⟩ G W0 (B.out.below V) (by simp only[];omega) (by simp only[];omega) (by simp only[];omega)).mono ?_);rintro e Wr⟨rfl,k⟩;have F:=Zz V k;have ad:=aa.below k;clear z0 z1 z2 z3 z5 aa;have⟨y5,y0,y1,y2,y3⟩:=ad;simp only[] at y0 y1 y2 y3;rcases I:G.right with _ | _
 ·go_wp2_with fail;go_ret2;exact Mx.fail (by unfold N5;rw[I];rfl) F
 have au:=LH I;have bm:=LH F;have cE:=rf_Endless ⟨a1,n1,c1,a2,n2,c2,a3,n3,c3⟩ G Wr (B.out.below F) (by simp only[];omega) (by simp only[];omega) (by simp only[];omega);have aq:Hid (N5 G=if endG G then ([],10) else ((Y4 (Yz G) (Qm G) G.nons.length G.nons.length).1,0)):=LH (by unfold N5;rw[I];rfl);have CE:=LH cE;clear I V k F cE;go_wp2_with fail;(with_reducible refine CE.out.mono ?_);rintro e d⟨k,rfl⟩;have y:=LH (Zz bm.out k);have ae:=ad.below k;clear k ad y0 y1 y2 y3 y5 CE;have⟨y5,y0,y1,y2,y3⟩:=ae;simp only[] at y0 y1 y2 y3;rcases H:endG G with _ | _
 case true =>
  have N:Hid (N5 G=([],10)):=LH (by rw[aq.out,H];rfl);clear H;go_wp2_with fail;go_ret2;exact Mx.fail N.out y.out
 have N:Hid (N5 G=((Y4 (Yz G) (Qm G) n2 n2).1,0)):=LH (by rw[aq.out,H,e2];rfl);have hu:Gy G=Qm G:=by unfold Gy;rw[au.out];rfl
 have CN:=LH λX (c:Below d d X)=>(Zss ⟨a1,n1,c1,a2,n2,c2,a3,n3,c3⟩ G X ((B.out.below y.out).below c) (by simp only[];omega) (by simp only[];omega) (by simp only[];omega)).mono λe w' m=>And.intro (Zz c m.1) (And.intro (LH m.1) (m.2.resolve_left λhc=>by rw[au.out] at hc;cases hc.1).2);have M:=LH λX (c:Below d d X)=>(Zvq ⟨a1,n1,c1,a2,n2,c2,a3,n3,c3⟩ G X ((B.out.below y.out).below c) (by simp only[];omega) (by simp only[];omega) (by simp only[];omega)).mono λe w' m=>And.intro (Zz c m.1) (And.intro (LH m.1) m.2);rw[hu] at M;have HS:Hid (∀a,Below d d a->a.cell? ⟨w,0,none⟩=some (.slice a1 n1 c1)/\a.cell? ⟨w,1,none⟩=some (.slice a2 n2 c2)/\a.cell? ⟨w,2,none⟩=some (.slice a3 n3 c3)/\a.cell? ⟨w,3,none⟩=some (.int .i64 G.start)/\Below d d a):=LH λa c=>⟨by rw[c.cell (by exact y5)];exact y0,by rw[c.cell (by exact y5)];exact y1,by rw[c.cell (by exact y5)];exact y2,by rw[c.cell (by exact y5)];exact y3,c⟩;clear H hu;go_upto_region 5 with fail;go_region_held3 (λa=>a.cell? ⟨w,0,none⟩=some (.slice a1 n1 c1)/\a.cell? ⟨w,1,none⟩=some (.slice a2 n2 c2)/\a.cell? ⟨w,2,none⟩=some (.slice a3 n3 c3)/\a.cell? ⟨w,3,none⟩=some (.int .i64 G.start)/\Below d d a)
  ((refine HS.out _ ?_;(repeat (first | assumption | exact AL _ _ | refine Below.drew ?_ | refine Zo ?_ _ | refine Zg ?_ _ _ _ (by (first | exact AJ _ | exact DP _ | exact Below.size AH | exact Nat.le_succ_of_le (Below.size AH) | (simp;done) | omega))));done))
  (first
    | (go_at_call 61;refine (CN.out _ (by (repeat (first | assumption | exact AL _ _ | refine Below.drew ?_ | refine Zo ?_ _ | refine Zg ?_ _ _ _ (by (first | exact AJ _ | exact DP _ | exact Below.size AH | exact Nat.le_succ_of_le (Below.size AH) | (simp;done) | omega)))))).mono ?_;rintro e w2⟨b5,bs,gS,b7,rfl,an⟩)
    | (go_at_call 67;refine (M.out _ (by (repeat (first | assumption | exact AL _ _ | refine Below.drew ?_ | refine Zo ?_ _ | refine Zg ?_ _ _ _ (by (first | exact AJ _ | exact DP _ | exact Below.size AH | exact Nat.le_succ_of_le (Below.size AH) | (simp;done) | omega)))))).mono ?_;rintro e t⟨W,ao,rfl⟩))
 have bq:Hid (V0 t gS (Yz G)):=Blk.hidden an ao;have bn:=LH (Zz y.out W);have bt:=LH (ae.below W);have bd:(Yz G).length=n2:=by rw[Wh];exact e2
 have be:=Ks G;have bi:=useS_lt G;generalize Yz G=S at *;generalize Qm G=use at *;have bw:=LH bd;have bx:=LH be;have aw:=LH bi;clear b5 bs b7 an ao W CN M HS y0 y1 y2 y3 y5 ae bd be bi;go_wp2_with fail;go_loopw [6,7,8] (λo s i wr=>∃(q:Nat) (A:Option Addr) (x:Nat),q<=n2/\i = .int .i64 (q:Int)/\o = .slice A (Y4 S use n2 q).1.length x/\s = .int .u32 (((Y4 S use n2 q).2:Nat):Int) /\
  wr.ownsRow t 3 1 (.slice A (Y4 S use n2 q).1.length x) (Y4 S use n2 q).1.length (ints .i64 (Z6 (Y4 S use n2 q).1))/\Hid ((Y4 S use n2 q).1.length<=q)/\Below t t wr) (λo s i _=>n2-(intOf i).toNat)
 case atStart=>exact⟨0,none,0,AV _,rfl,rfl,rfl,BJ _ _ _ _,LH (AJ _),AL _ _⟩
 obtain⟨q,A,x,hq,rfl,rfl,rfl,g,ap,p⟩:=hrel;have cd:=p.size;have ab:=bt.out.below p;have⟨y5,y0,y1,y2,y3⟩:=ab;simp only[] at y0 y1 y2 y3;have J:=Nf S use n2 q;have ag:=Dl S n2 aw.out q;by_cases ci:q<n2
 case neg =>
  obtain rfl:q=n2:=AA
  have C:=LH g;have n:=LH p;clear J ag ab g p;go_wp2_with fail;go_ret2;exact Mx.good N.out (Zz bn.out n.out) C.out
 have bg:=ag.lt;have D:=LH bg;have a8:=ap.out;clear ag bg ab ap;have Y:∀i,Qx (U2 S use (Y4 S use n2 q).2) n2=some i->Y4 S use n2 (q+1)=((Y4 S use n2 q).1++[i],(Y4 S use n2 q).2 ||| Y6 (i:Int)):=λi hi=>by rw[J];exact Ly hi
 have Z:Qx (U2 S use (Y4 S use n2 q).2) n2=none->Y4 S use n2 (q+1)=Y4 S use n2 q:=λhi=>by rw[J];exact Ln hi
 clear J;generalize bf:Y4 S use n2 (q+1)=ck at *;have av:=LH bf;clear bf;generalize Y4 S use n2 q=st at *;obtain⟨l,b⟩:=st;simp only[] at Y Z g a8 D;have HF:=LH Y;have HN:=LH Z;clear Y Z;have C:=LH g;have n:=LH p;clear g p;simp only[];go_wp2_with fail;go_loop [6,7,9] (λo s i=>o = .slice A l.length x/\s = .int .u32 (b:Int)/\∃j:Nat,j<=n2/\i = .int .i64 (j:Int)/\Hid (∀f,f<j->U2 S use b f=false)) (λo s i=>n2-(intOf i).toNat)
 case atStart=>exact⟨rfl,rfl,0,AV _,rfl,LH λj h=>AA⟩
 obtain⟨rfl,rfl,j,hj,rfl,O⟩:=hrel;by_cases a7:j<n2
 case neg =>
  obtain rfl:j=n2:=AA
  have ah:=HN.out (findB_none O.out);subst ah;go_wp2_with fail;go_roundw
  case rel =>
   refine⟨q+1,A,x,AA,AF,?_⟩;rw[av.out];exact⟨rfl,rfl,C.out,LH (Nat.le_succ_of_le a8),n.out⟩
  simp[intOf];omega
 have br:Hid (V0 wr gS S):=Blk.ext bq.out n.out;have cc:=br.out.at (i:=j) (by rw[bw.out];exact a7);have ax:=Bl use j wr aw.out;have ay:=Bl b j wr D.out;have hv:=bx.out.get j;have cb:=andn32 (S.getD j 0) b hv D.out;have hz:=beq0_cast (Ck (S.getD j 0) b);have hp:U2 S use b j=(use.testBit j&&!b.testBit j&&(Ck (S.getD j 0) b==0)):=rfl;have cg:=or32 b (Y6 (j:Int)) D.out (Ua _);have cB:=λX=>Ch (j:Int) X;generalize Ck (S.getD j 0) b=z at *;generalize S.getD j 0=v at *;generalize use.testBit j=u at *;generalize b.testBit j=E at *;generalize (z==0)=T at *;have Hp:=LH hp;have C1:=LH ax;have C2:=LH ay;have CB:=LH cB;clear ax ay cB hp hv;have bb:U2 S use b j=false->Hid (∀f,f<j+1->U2 S use b f=false):=λhf=>LH λf cf=>by
  rcases BC f j with h | h
  ·exact O.out f h
  rw[show f=j by omega];exact hf
 have bv:=LH bb;clear bb;rcases (by cases u <;> cases E <;> cases T <;> simp:u=false\/(u=true/\E=true)\/(u=true/\E=false/\T=false)\/(u=true/\E=false/\T=true)) with rfl | ⟨rfl,rfl⟩ | ⟨rfl,rfl,rfl⟩ | ⟨rfl,rfl,rfl⟩
 case inr.inr.inr =>
  have ah:=HF.out j (findB_some a7 (by rw[Hp.out];rfl) O.out);subst ah;have g:=C.out;have b6:=n.out.size;have ba:(l++[j]).length=l.length+1:=AE
  have a9:ints .i64 (Z6 (l++[j]))=ints .i64 (Z6 l)++[.int .i64 (j:Int)]:=by simp[ints,Z6]
  have R:=LH ba;have bu:=LH a9;clear ba a9;go_wp2_with (first
   | (go_at_call 62;(first | (with_reducible refine C1.out.mono ?_) | (with_reducible refine C2.out.mono ?_));rintro e w'⟨rfl,rfl⟩)
   | (go_at_call 63;(with_reducible refine (CB.out _).mono ?_);rintro e w'⟨rfl,rfl⟩)
   | (at_builtin;refine Vc (w:=wr) rfl _ _ 27 rfl t 3 (.int .i64 0) 8 underlying27 Tryz.infoInt rfl _ l.length _ _ rfl g (.int .i64 ((j:Int))) rfl rfl AA AA AA ?_;intro L U w2 ho r))
  go_roundw
  case rel =>
   refine⟨q+1,L,U,AA,AF,?_⟩;rw[av.out];refine⟨?_,rfl,?_,LH (by show (l++[j]).length<=q+1;rw[R.out];omega),X6 n.out r g b6⟩
   ·show _=Value.slice L (l++[j]).length U;rw[R.out]
   show w2.ownsRow t 3 1 (.slice L (l++[j]).length U) (l++[j]).length (ints .i64 (Z6 (l++[j])));rw[R.out,bu.out];exact ho
  simp[intOf];omega
 all_goals
  have hf:=bv.out (by rw[Hp.out];rfl);go_wp2_with (go_at_call 62;(first | (with_reducible refine C1.out.mono ?_) | (with_reducible refine C2.out.mono ?_));rintro e w'⟨rfl,rfl⟩);go_round
  case rel=>exact⟨rfl,rfl,j+1,AA,AF,hf⟩
  simp[intOf];omega
theorem Zu6(Ar:Option Addr)(cr a:Nat)(b:Option Addr)(ns cs:Nat)(j:Bool)(x:Nat)(w:World)(v:Zq .u32 w Ar (limbs a).length cr (limbs a))(z:a<big)(A:Z1 w b ns cs j x):
 Calls prog 129 #[.slice Ar (limbs a).length cr,.agg #[.slice b ns cs,.bool j]] w (RetOver a x Ar cr w):=by
 have n:=Zy w (.cells #[.slice b ns cs,.bool j] 174);have m:=Blk.new w 174 #[.slice b ns cs,.bool j];have y:=v.below n;have o:=A.below n;have p:=LH n;have u:=LH y;clear v A n y;go_enter func129,ntmps129;go_upto_region 1 with fail;generalize w.alloc (.cells #[.slice b ns cs,.bool j] 174)=g at *;have M:g.cell? ⟨w.heap.size,0,none⟩=some (.slice b ns cs):=m.cell 0;have N:g.cell? ⟨w.heap.size,1,none⟩=some (.bool j):=m.cell 1;have O:=m.lt;have G:=LH m;clear m;rcases o.cases with ⟨B,rfl,ex⟩ | ⟨B,rfl,ex⟩
 case inr =>
  have f:a<x:=AA
  clear ex o;go_wp2_with fail;go_ret2;exact⟨p.out,.inl ⟨f,rfl⟩⟩
 have l:=o.2;rw[ex] at l;obtain rfl:=l.len;have F:=LH l;have k:=Zym Ar _ cr (limbs a) b _ cs (limbs x) g u.out l (Z9 _) (Z9 _);rw[Zvu z B] at k;have k:=LH k;clear ex o l;by_cases f:a<x
 case pos =>
  have I:Vm a x<0:=Q5.2 f;have r:=LH f;clear f;go_wp2_with (
   go_at_call 76;(with_reducible refine k.out.mono ?_);rintro e c⟨rfl,t⟩;have q:=LH (Zz p.out (t.below _)))
  go_ret2;exact⟨q.out,.inl ⟨r.out,rfl⟩⟩
 have I:¬Vm a x<0:=λh=>f (Q5.1 h);have r:Hid (x<=a):=LH AA;have D:Hid (∀c,Below g.heap.size g c->Calls prog 181 #[.slice Ar (limbs a).length cr,.slice b (limbs x).length cs] c (Xr c (limbs (a-x),0))):=LH λc d=>by
  have h:=nat_sub Ar _ cr (limbs a) b _ cs (limbs x) c (u.out.below d) (F.out.below d) (Z9 _) (Z9 _);rwa [Zw6 z AA] at h
 clear f;go_wp2_with (first
  | (go_at_call 76
     (with_reducible refine k.out.mono ?_);rintro e c⟨rfl,t⟩;have d:=t.below g.heap.size;have s:=G.out.ext d;have P:c.cell? ⟨w.heap.size,0,none⟩=some (.slice b (limbs x).length cs):=s.cell 0;have R:=s.lt;have E:=LH (D.out c d);have q:=LH (Zz p.out d);clear s d)
  | (go_at_call 181
     (with_reducible refine E.out.mono ?_);rintro e L⟨C,c3,rfl,J,H⟩))
 go_ret2;exact⟨Zz q.out H,.inr ⟨r.out,C,c3,rfl,J⟩⟩
theorem Kd(A:Option Addr)(n c N:Nat)(tab:Nat->Nat->Nat)(Al:Option Addr)(W:Nat)(l:List Int)(m:Nat)(w:World)(hT:Zyq w A n c N tab)(hm:m<n)(h0:m<=100)(hN:N<=1000)(hl:Za .i64 w Al l.length W l)(hx:l.length<=100)(hs:∀s∈l,-(N:Int)<=s/\s<=1000):
 Calls prog 53 #[.slice A n c,.slice Al l.length W,.int .i64 (m:Int)] w (RetV w (Zx (Yk tab) l m)):=by
 have ht:=hl.cap;have HT:=LH hT;have Hl:=LH hl;have Hs:=LH hs;clear hT hl hs;have dl:=Zy w (.cells #[.slice none 0 0,.bool false] 46);have d5:=Blk.new w 46 #[.slice none 0 0,.bool false];have e1:(w.alloc (.cells #[.slice none 0 0,.bool false] 46)).heap.size=w.heap.size+1:=Zl _ _;have a8:=Zzv (m+1) AA;have h5:IntKind.i64.wrap ((m:Int)+1)=(m:Int)+1:=BS _ AA;rw[show ((m+1:Nat):Int)=(m:Int)+1 from rfl] at a8;go_enter func53,ntmps53;go_upto_region 1 with fail;generalize w.alloc (.cells #[.slice none 0 0,.bool false] 46)=W1 at *;go_upto_region 2 with fail;have hR:=Vp.new W1 46 (m+1);have C:=Zy W1 (.cells (zeroCells (m+1)) 46);have d6:=Blk.ext d5 C;have dm:=Zz dl C;generalize W1.alloc (.cells (zeroCells (m+1)) 46)=W2 at *;rw[e1] at hR;clear d5 dl C;go_wp2_with fail;refine (Zsl W2).mono ?_;rintro e W3⟨bk,A3,m3,c3,b3,rfl,fd⟩;have al:=hR.below bk;have d7:=Blk.ext d6 bk;have b1:=Zz dm bk;obtain⟨Az,nz,cz,bz,q0,q1,_⟩:=al.get (j:=0) AE;rw[Nat.zero_mul] at q0 q1;rw[BH] at q1;have bx:=al.frozen 0;have b0:=al.frozen 1;have gb:=al.lt;obtain⟨b9,du⟩:=al.put (j:=0) AE fd;rw[Nat.zero_mul,BH] at b9 du;have hO:=(Off.of_set W3 (w.heap.size+1) 0 (.slice A3 m3 c3)).trans (Off.of_set _ (w.heap.size+1) 1 (.bool b3)) λ_ _ h=>h;have d8:=hO.blk d7 AA;have dn:Below w w _:=b1.trans (hO.is_below b1.size λk hk=>AA);have dz:Vp ((W3.setCell ⟨w+1,0,none⟩ (.slice A3 m3 c3)).setCell ⟨w+1,1,none⟩ (.bool b3)) (w.heap.size+1) 46 (Gs (Yk tab) (l.drop l.length) m):=by rw[List.drop_length,forR_nil];exact b9
 clear hR d6 dm bk al d7 b1 fd du b9 a8 e1;go_upto_region 3 with fail;generalize (W3.setCell ⟨w+1,0,none⟩ (.slice A3 m3 c3)).setCell ⟨w+1,1,none⟩ (.bool b3)=W4 at *;have fl:=LH dz;have fm:=LH d8;have fi:=LH dn;have h6:IntKind.i64.wrap ((l.length:Int)-1)=(l.length:Int)-1:=BS _ AA;clear dz d8 dn hO q0 q1 bx b0 gb;go_wp2_with fail;go_loopw [7,8] (λv i wr=>∃(q y:Nat),q<=l.length/\i = .int .i64 ((q:Int)-1)/\v = .slice (some ⟨y,0,none⟩) (m+1) (m+1)/\w.heap.size<y/\Hid (Vp wr y 46 (Gs (Yk tab) (l.drop q) m))/\Hid (Below w w wr)/\Hid (Blk wr w 46 #[.slice none 0 0,.bool false])) (λ_ i _=>(intOf i+1).toNat)
 case atStart=>exact⟨l.length,w.heap.size+1,AJ _,rfl,rfl,Em _,fl,fi,fm⟩
 obtain⟨q,y,hq,rfl,rfl,hu,HR,HB,O⟩:=hrel;by_cases gg:q=0
 case pos =>
  subst gg;have hn:¬(((0:Nat):Int)-1 ≥ 0):=AA
  obtain⟨A5,m5,c5,b5,q0,q1,ce⟩:=HR.get (j:=m) (by rw[Zwg];omega);rw[Ee,Zy6 _ _ (AJ m)] at ce;have x0:wr.cell? ⟨w,0,none⟩=some (.slice none 0 0):=O.cell 0;have x1:wr.cell? ⟨w,1,none⟩=some (.bool false):=O.cell 1;have f0:=O.frozen 0;have f1:=O.frozen 1;have xl:=O.lt;have gl:=HR.lt;have fs:=LH ce;have bo:=LH (Vb O HB (AJ _) A5 m5 c5 b5);clear ce;go_wp2_with fail;refine AW (AY (p:=6) AB _ _ w 46 #[.slice A5 m5 c5,.bool b5] (0,0) _ rfl bo.2.1 underlying46 rfl AB) rfl ?_;exact⟨bo.1,_,_,_,_,rfl,fs.kept bo.2.2⟩
 obtain⟨z,rfl⟩:∃z,q=z+1:=⟨q-1,AA⟩;have hi:((z+1:Nat):Int)-1=(z:Int):=AA
 rw[hi];have a8:=Zzv (m+1) AA;rw[show ((m+1:Nat):Int)=(m:Int)+1 from rfl] at a8;have cb:=Hl.below HB;obtain⟨lb,I,t,rfl,cc,de,dj⟩:=cb.get (j:=z) AA;have gi:=Hs t (AM de);have fp:Hid (l.drop z=t::l.drop (z+1)):=LH (by
  have h1:=(AO.1 de);rw[DV h1.1,h1.2])
 generalize ga:l.drop (z+1)=x at *;have dd:=LH (HT.below HB);clear ga hi;go_upto_region 7 with fail;have d0:=Vp.new wr 46 (m+1);have aa:=Zy wr (.cells (zeroCells (m+1)) 46);have dy:=HR.below aa;have d9:=Blk.ext O aa;have dp:=Zz HB aa;have fa:=HR.lt;have h8:=O.lt;have g7:=LH (cb.below aa);have g6:=LH (dd.below aa);have e2:(wr.alloc (.cells (zeroCells (m+1)) 46)).heap.size=wr.heap.size+1:=Zl _ _;have fw:(wr.alloc (.cells (zeroCells (m+1)) 46)).cell? ⟨lb,I+z,none⟩=some (.int .i64 t):=(aa.cell (p:=⟨lb,I+z,none⟩) cc).trans dj;generalize f9:wr.heap.size=r at *;generalize wr.alloc (.cells (zeroCells (m+1)) 46)=WX at *;have db:Hid (Vp WX r 46 (D5 (Yk tab) t (Zx (Yk tab) x) m 0)):=LH (by rw[rowF_zero];exact d0);have fk:=LH dy;have fo:=LH d9;have bh:=LH dp;have hw:lb<r:=cc;clear d0 aa dy d9 dp HR HB O dd cb a8 dj cc f9;go_wp2_with fail;go_loopw [10] (λi wz=>∃K:Nat,K<=m+1/\i = .int .i64 (K:Int)/\Hid (Vp wz r 46 (D5 (Yk tab) t (Zx (Yk tab) x) m K))/\Hid (Vp wz y 46 (Gs (Yk tab) x m))/\Hid (Off (λk=>k=r) WX wz)) (λi _=>m+1-(intOf i).toNat)
 case atStart=>exact⟨0,AV _,rfl,db,fk,LH (Off.refl _ _)⟩
 obtain⟨K,hK,rfl,bm,L,E⟩:=hrel;by_cases ho:K<=m
 case neg =>
  obtain rfl:m+1=K:=AA
  have gf:¬(((m+1:Nat):Int)<=(m:Int)):=AA
  have P:Hid (Vp wr r 46 (Gs (Yk tab) (l.drop z) m)):=LH (by rw[fp,<-rowF_done];exact bm);have fj:=LH (bh.trans (E.is_below bh.size λk hk=>AA));have fn:=LH (E.blk fo AA);go_wp2_with fail;go_roundw
  case rel=>exact⟨z,r,AA,AF,rfl,AA,P,fj,fn⟩
  simp[intOf] <;> omega
 have h9:r<WX.heap.size:=AA
 have f2:Zf WX wr:=Zf.of_off E λg hg=>by rw[hg];exact db.noInt
 have d4:Zyq wr A n c N tab:=HT.below (bh.trans (E.is_below bh.size λk hk=>AA));have cT:=Ztn A n c N tab t K wr d4 AA hN AA (λ_=>gi.1);have fx:wr.cell? ⟨lb,I+z,none⟩=some (.int .i64 t):=(DL (a:=⟨lb,I+z,none⟩) (E.keep lb AA AA)).trans fw;have CT:=LH cT;clear d4 cT;go_wp2_with fail;refine CT.out.mono ?_;rintro e W6⟨bl,D,B,F,Y,rfl,cf⟩;have b7:=bm.below bl;have dw:=L.below bl;have dx:=E.trans (Off.of_below (S:=λk=>k=r) bl) λ_ _ h=>h;have a4:=Zy W6 (.cells #[.slice D B F,.bool Y] 46);have dt:=Blk.new W6 46 #[.slice D B F,.bool Y];have b8:=LH (b7.below a4);have f5:=LH (dw.below a4);have f6:=LH (dx.trans (Off.of_below (S:=λk=>k=r) a4) λ_ _ h=>h);have fe:=LH (cf.below a4);have hz:=cf.none_iff;have hv:r<W6.heap.size:=b7.lt;go_upto_region 11 with fail;generalize W6.alloc (.cells #[.slice D B F,.bool Y] 46)=W7 at *;generalize W6.heap.size=H at *;have c9:=LH dt;clear b7 dw dx a4 dt cf bl CT fx bm L E f2;have Hz:=LH hz;have gk:W7.cell? ⟨H,0,none⟩=some (.slice D B F):=c9.cell 0;clear hz gk;go_wp2_with fail;go_loopw [12] (λi wz=>∃M:Nat,K<=M/\M<=m+1/\i = .int .i64 (M:Int)/\Hid (Yk tab t K=0->M=K)/\Hid (Vp wz r 46 (Gx (Yk tab) t (Zx (Yk tab) x) m K M))/\Hid (Vp wz y 46 (Gs (Yk tab) x m))/\Hid (Off (λk=>k=r) W7 wz)) (λi _=>m+1-(intOf i).toNat)
 case atStart=>exact⟨K,AJ _,AA,rfl,LH λ_=>rfl,LH (by rw[Zvo];exact b8),f5,LH (Off.refl _ _)⟩
 obtain⟨M,dv,hM,rfl,ft,V,L,E⟩:=hrel;have ae:=E.blk c9 AA;have x0:wr.cell? ⟨H,0,none⟩=some (.slice D B F):=ae.cell 0;have x1:wr.cell? ⟨H,1,none⟩=some (.bool Y):=ae.cell 1;have xl:=ae.lt;have da:=LH (f6.trans E λ_ _ h=>h);by_cases bj:M<=m
 case neg =>
  obtain rfl:m+1=M:=AA
  have gf:¬(((m+1:Nat):Int)<=(m:Int)):=AA
  have P:Hid (Vp wr r 46 (D5 (Yk tab) t (Zx (Yk tab) x) m (K+1))):=LH (by rw[<-mid_end];exact V);clear ae;go_wp2_with fail;go_roundw
  case rel=>exact⟨K+1,AA,AF,P,L,da⟩
  simp[intOf] <;> omega
 by_cases am:Yk tab t K=0
 case pos =>
  obtain⟨rfl,rfl⟩:=Hz.2 am;obtain rfl:M=K:=ft am;have P:Hid (Vp wr r 46 (D5 (Yk tab) t (Zx (Yk tab) x) m (M+1))):=LH (by rw[mid_skip _ _ am,<-Zvo];exact V);clear ae;go_wp2_with fail;go_roundw
  case rel=>exact⟨M+1,AA,AF,P,L,da⟩
  simp[intOf] <;> omega
 have f7:(Y=true)\/(Y=false/\(0:Int)<(B:Int)):=by
  rcases Y with _ | _
  ·exact .inr ⟨rfl,by have h7:B≠0:=λh=>am (Hz.1 ⟨rfl,h⟩);omega⟩
  exact .inl rfl
 rcases f7 with rfl | ⟨rfl,h3⟩
 case inl =>
  as_aux_lemma =>
   go_upto_region 14 with fail;obtain⟨A1,n1,c1,d1,r0,r1,ag⟩:=V.get (j:=M) (by rw[J2];omega);obtain⟨A2,n2,c2,d2,s0,s1,ah⟩:=L.get (j:=M-K) (by rw[Zwg];omega);rw[mid_get _ _ _ bj] at ag;rw[Zy6 _ _ (AA:M-K<=m)] at ah;have bu:Hid (Z1 wr D B F true (Yk tab t K)):=LH (fe.kept (Zf.of_off E λg hg=>by rw[hg];exact b8.noInt));have bs:=LH ag;have bt:=LH ah;have a7:=V.lt;have a6:=L.lt;have cd:((M:Int)-(K:Int))=((M-K:Nat):Int):=AA
   have gj:IntKind.i64.wrap ((M:Int)-(K:Int))=(M:Int)-(K:Int):=BS _ AA;have gc:(0:Int)<=(M:Int)-(K:Int):=AA
   have gd:(M:Int)-(K:Int)<(m:Int)+1:=AA
   have ge:((M:Int)-(K:Int)).toNat=M-K:=AA
   have f3:(M:Int)<(m:Int)+1:=AA
   have bn:Hid (Hw (Yk tab) t (Zx (Yk tab) x) (K+1) M=Hw (Yk tab) t (Zx (Yk tab) x) K M+Yk tab t K*Zx (Yk tab) x (M-K)):=Ah _ _ _ dv;clear ag ah cd ae;refine Xh (λX=>Below wr wr X) (λX X'=>Below X X X') (λu=>(⟨(Value.slice A n c::Value.slice (some ⟨lb,I,none⟩) l.length W::Value.int .i64 (m:Int)::undef::undef::undef::Value.pointer (some ⟨w,0,none⟩)::Value.slice (some ⟨y,0,none⟩) (m+1) (m+1)::Value.int .i64 (z:Int)::Value.slice (some ⟨r,0,none⟩) (m+1) (m+1)::Value.int .i64 (K:Int)::Value.pointer (some ⟨H,0,none⟩)::Value.int .i64 (M:Int)::Value.int .i64 (m:Int)::Value.int .i64 ((m:Int)+1)::Value.slice (some ⟨w+1,0,none⟩) (m+1) (m+1)::Value.slice (some ⟨w+1,0,none⟩) (m+1) (m+1)::Value.agg #[Value.slice A3 m3 c3,Value.bool b3]::Value.pointer (some ⟨w+1,0,none⟩)::Value.slice (some ⟨lb,I,none⟩) l.length W::Value.int .i64 (l.length:Int)::Value.int .i64 ((l.length:Int)-1)::Value.int .i64 (z:Int)::Value.bool true::u24::u25::Value.int .i64 (m:Int)::Value.int .i64 ((m:Int)+1)::Value.slice (some ⟨r,0,none⟩) (m+1) (m+1)::Value.int .i64 (K:Int)::Value.int .i64 (m:Int)::Value.bool true::u32::u33::Value.slice A n c::Value.slice (some ⟨lb,I,none⟩) l.length W::Value.int .i64 (z:Int)::Value.pointer (some ⟨lb,I+z,none⟩)::Value.int .i64 t::Value.int .i64 (K:Int)::Value.agg #[Value.slice D B F,Value.bool true]::Value.int .i64 (K:Int)::Value.int .i64 (M:Int)::Value.int .i64 (m:Int)::Value.bool true::Value.bool true::Value.pointer (some ⟨H,1,none⟩)::Value.bool true::Value.bool true::undef::undef::undef::undef::Value.bool true::Value.bool true::u55::u56::u 0::u 1::u 2::u 3::u 4::u 5::u 6::u 7::u 8::u 9::u 10::u 11::u 12::u 13::u 14::u 15::u73::undef::undef::undef::undef::[]).toArray,[]⟩:Act)) [u57,u58,u59,u60,u61,u62,u63,u64,u65,u66,u67,u68,u69,u70,u71,u72] [λv X=>v=Value.slice (some ⟨r,0,none⟩) (m+1) (m+1),λv X=>v=Value.int .i64 (M:Int),λv X=>v=Value.slice (some ⟨r,0,none⟩) (m+1) (m+1),λv X=>v=Value.int .i64 (M:Int),λv X=>v=Value.pointer (some ⟨r,M*2,none⟩),λv X=>v=Value.agg #[Value.slice A1 n1 c1,Value.bool d1],λv X=>v=Value.agg #[Value.slice D B F,Value.bool true],λv X=>v=Value.slice (some ⟨y,0,none⟩) (m+1) (m+1),λv X=>v=Value.int .i64 (M:Int),λv X=>v=Value.int .i64 (K:Int),λv X=>v=Value.int .i64 ((M:Int)-(K:Int)),λv X=>v=Value.pointer (some ⟨y,(M-K)*2,none⟩),λv X=>v=Value.agg #[Value.slice A2 n2 c2,Value.bool d2],λv X=>∃A n c b,v=Value.agg #[Value.slice A n c,Value.bool b]/\Z1 X A n c b (Yk tab t K*Zx (Yk tab) x (M-K)),λv X=>∃A n c b,v=Value.agg #[Value.slice A n c,Value.bool b]/\Z1 X A n c b (Hw (Yk tab) t (Zx (Yk tab) x) (K+1) M),λv X=>v=Value.pointer (some ⟨r,M*2,none⟩)] (λu X=>Vp X r 46 (Gx (Yk tab) t (Zx (Yk tab) x) m K (M+1))/\Vp X y 46 (Gs (Yk tab) x m)/\Off (λk=>k=r) wr X) (l:=[_,_,_,_,_,_,_,_,_,_,_,_,_,_,_,_]) AB AB AB rfl rfl (AL _ _).drew ⟨AI,AI,AI,AI,AI,AI,AI,AI,AI,AI,AI,AI,AI,(λ_ _ _ ⟨A,n,c,b,e,h⟩ hb=>⟨A,n,c,b,e,h.below hb⟩),(λ_ _ _ ⟨A,n,c,b,e,h⟩ hb=>⟨A,n,c,b,e,h.below hb⟩),AI,trivial⟩ ?_ ?_ ?_
   ·refine Zk.con (λQ u X d f KK o=>?_) ?_
    ·go_simp;exact o _ _ d (AL _ _) rfl
    iterate 3
     refine Zk.con (λQ u X d f KK o=>?_) ?_
     ·go_simp;exact o _ _ d (AL _ _) rfl
    refine Zk.con (λQ u X d f KK o=>?_) ?_
    ·have p2:u 2=_:=f 2 rfl;have p3:u 3=_:=f 3 rfl;clear f;rw[p2,p3] at o⊢;go_simp;exact o _ _ d (AL _ _) rfl
    refine Zk.con (λQ u X d f KK o=>?_) ?_
    ·have p4:u 4=_:=f 4 rfl;clear f;rw[p4] at o⊢;have ax:=(d.cell (p:=⟨r,M*2,none⟩) a7).trans r0;have ay:=(d.cell (p:=⟨r,M*2+1,none⟩) a7).trans r1;go_simp;exact o _ _ d (AL _ _) rfl
    refine Zk.con (λQ u X d f KK o=>?_) ?_
    ·have ax:=(d.cell (p:=⟨H,0,none⟩) xl).trans x0;have ay:=(d.cell (p:=⟨H,1,none⟩) xl).trans x1;go_simp;exact o _ _ d (AL _ _) rfl
    iterate 3
     refine Zk.con (λQ u X d f KK o=>?_) ?_
     ·go_simp;exact o _ _ d (AL _ _) rfl
    refine Zk.con (λQ u X d f KK o=>?_) ?_
    ·have p8:u 8=_:=f 8 rfl;have p9:u 9=_:=f 9 rfl;clear f;rw[p8,p9] at o⊢;go_simp;exact o _ _ d (AL _ _) rfl
    refine Zk.con (λQ u X d f KK o=>?_) ?_
    ·have p7:u 7=_:=f 7 rfl;have ck:u 10=_:=f 10 rfl;clear f;rw[p7,ck] at o⊢;go_simp;exact o _ _ d (AL _ _) rfl
    refine Zk.con (λQ u X d f KK o=>?_) ?_
    ·have cm:u 11=_:=f 11 rfl;clear f;rw[cm] at o⊢;have ax:=(d.cell (p:=⟨y,(M-K)*2,none⟩) a6).trans s0;have ay:=(d.cell (p:=⟨y,(M-K)*2+1,none⟩) a6).trans s1;go_simp;exact o _ _ d (AL _ _) rfl
    refine Zk.con (λQ u X d f KK o=>?_) ?_
    ·have p6:u 6=_:=f 6 rfl;have cn:u 12=_:=f 12 rfl;clear f;rw[p6,cn] at o⊢;have ch:=bu.below d;have ci:=bt.below d;go_simp;refine (Gt D B F true _ A2 n2 c2 d2 _ X ch ci).mono ?_;rintro e w2⟨C,Ar,nr,cr,Z,rfl,ai⟩;go_simp;exact o _ _ (Zz d C) C ⟨Ar,nr,cr,Z,rfl,ai⟩
    refine Zk.con (λQ u X d f KK o=>?_) ?_
    ·have p5:u 5=_:=f 5 rfl;obtain⟨Ar,nr,cr,Z,co,ai⟩:=f 13 rfl;clear f;rw[p5] at o⊢;generalize u 13=gr at *;subst co;have cg:=bs.below d;go_simp;refine (Zuc A1 n1 c1 d1 _ Ar nr cr Z _ X cg ai).mono ?_;rintro e w2⟨C,J,ns,cs,ds,rfl,U⟩;rw[<-bn] at U;go_simp;exact o _ _ (Zz d C) C ⟨J,ns,cs,ds,rfl,U⟩
    refine Zk.con (λQ u X d f KK o=>?_) ?_
    ·have p0:u 0=_:=f 0 rfl;have p1:u 1=_:=f 1 rfl;clear f;rw[p0,p1] at o⊢;go_simp;exact o _ _ d (AL _ _) rfl
    exact Zk.nil
   ·intro Q u X d f KK o;obtain⟨J,ns,cs,ds,cp,U⟩:=f 14 AC;have ct:u 15=_:=f 15 AC;clear f;generalize u 14=gs at *;subst cp;generalize u 15=gt at *;subst ct;have G:=V.below d;have ab:=L.below d;obtain⟨Aq,nq,cq,dq,q0,q1,_⟩:=G.get (j:=M) (by rw[J2];omega);have bx:=G.frozen (M*2);have b0:=G.frozen (M*2+1);have gh:=G.lt;have T:=G.put (j:=M) (by rw[J2];omega) U;rw[mid_set _ _ _ bj] at T;have af:Off (λk=>k=r) X ((X.setCell ⟨r,M*2,none⟩ (.slice J ns cs)).setCell ⟨r,M*2+1,none⟩ (.bool ds)):=(Off.of_set X r (M*2) (.slice J ns cs)).trans (Off.of_set _ r (M*2+1) (.bool ds)) λ_ _ h=>h;have R:Vp _ r 46 (Gx (Yk tab) t (Zx (Yk tab) x) m K (M+1))/\Vp _ y 46 (Gs (Yk tab) x m)/\Off (λk=>k=r) wr _:=⟨T.1,ab.kept T.2 (af.keep y ab.lt (Nat.ne_of_lt fa)),(Off.of_below (S:=λk=>k=r) d).trans af λ_ _ h=>h⟩;have P:=LH R;clear R T af G ab;go_simp;exact o (λi=>([u 0,u 1,u 2,u 3,u 4,u 5,u 6,u 7,u 8,u 9,u 10,u 11,u 12,u 13,Value.agg #[Value.slice J ns cs,Value.bool ds],Value.pointer (some ⟨r,M*2,none⟩)]:List Value).getD i undef) _ (P)
   intro u W9 R;obtain⟨g1,g2,g3⟩:=R;have bp:=LH g1;have bq:=LH g2;have br:=LH (E.trans g3 λ_ _ h=>h);clear g1 g2 g3 r0 r1 s0 s1;go_wp2_with fail;go_roundw
   case rel=>exact⟨M+1,AA,AA,AF,LH λh=>absurd h am,bp,bq,br⟩
   simp[intOf] <;> omega
 as_aux_lemma =>
  go_upto_region 14 with fail;have f8:decide (0<B)=true:=by rw[BB];omega
  rw[f8];obtain⟨A1,n1,c1,d1,r0,r1,ag⟩:=V.get (j:=M) (by rw[J2];omega);obtain⟨A2,n2,c2,d2,s0,s1,ah⟩:=L.get (j:=M-K) (by rw[Zwg];omega);rw[mid_get _ _ _ bj] at ag;rw[Zy6 _ _ (AA:M-K<=m)] at ah;have bu:Hid (Z1 wr D B F false (Yk tab t K)):=LH (fe.kept (Zf.of_off E λg hg=>by rw[hg];exact b8.noInt));have bs:=LH ag;have bt:=LH ah;have a7:=V.lt;have a6:=L.lt;have cd:((M:Int)-(K:Int))=((M-K:Nat):Int):=AA
  have gj:IntKind.i64.wrap ((M:Int)-(K:Int))=(M:Int)-(K:Int):=BS _ AA;have gc:(0:Int)<=(M:Int)-(K:Int):=AA
  have gd:(M:Int)-(K:Int)<(m:Int)+1:=AA
  have ge:((M:Int)-(K:Int)).toNat=M-K:=AA
  have f3:(M:Int)<(m:Int)+1:=AA
  have bn:Hid (Hw (Yk tab) t (Zx (Yk tab) x) (K+1) M=Hw (Yk tab) t (Zx (Yk tab) x) K M+Yk tab t K*Zx (Yk tab) x (M-K)):=Ah _ _ _ dv;clear ag ah cd ae;refine Xh (λX=>Below wr wr X) (λX X'=>Below X X X') (λu=>(⟨(Value.slice A n c::Value.slice (some ⟨lb,I,none⟩) l.length W::Value.int .i64 (m:Int)::undef::undef::undef::Value.pointer (some ⟨w,0,none⟩)::Value.slice (some ⟨y,0,none⟩) (m+1) (m+1)::Value.int .i64 (z:Int)::Value.slice (some ⟨r,0,none⟩) (m+1) (m+1)::Value.int .i64 (K:Int)::Value.pointer (some ⟨H,0,none⟩)::Value.int .i64 (M:Int)::Value.int .i64 (m:Int)::Value.int .i64 ((m:Int)+1)::Value.slice (some ⟨w+1,0,none⟩) (m+1) (m+1)::Value.slice (some ⟨w+1,0,none⟩) (m+1) (m+1)::Value.agg #[Value.slice A3 m3 c3,Value.bool b3]::Value.pointer (some ⟨w+1,0,none⟩)::Value.slice (some ⟨lb,I,none⟩) l.length W::Value.int .i64 (l.length:Int)::Value.int .i64 ((l.length:Int)-1)::Value.int .i64 (z:Int)::Value.bool true::u24::u25::Value.int .i64 (m:Int)::Value.int .i64 ((m:Int)+1)::Value.slice (some ⟨r,0,none⟩) (m+1) (m+1)::Value.int .i64 (K:Int)::Value.int .i64 (m:Int)::Value.bool true::u32::u33::Value.slice A n c::Value.slice (some ⟨lb,I,none⟩) l.length W::Value.int .i64 (z:Int)::Value.pointer (some ⟨lb,I+z,none⟩)::Value.int .i64 t::Value.int .i64 (K:Int)::Value.agg #[Value.slice D B F,Value.bool false]::Value.int .i64 (K:Int)::Value.int .i64 (M:Int)::Value.int .i64 (m:Int)::Value.bool true::Value.bool true::Value.pointer (some ⟨H,1,none⟩)::Value.bool false::Value.bool false::Value.pointer (some ⟨H,0,none⟩)::Value.slice D B F::Value.int .i64 (B:Int)::Value.bool true::Value.bool true::Value.bool true::u55::u56::u 0::u 1::u 2::u 3::u 4::u 5::u 6::u 7::u 8::u 9::u 10::u 11::u 12::u 13::u 14::u 15::u73::undef::undef::undef::undef::[]).toArray,[]⟩:Act)) [u57,u58,u59,u60,u61,u62,u63,u64,u65,u66,u67,u68,u69,u70,u71,u72] [λv X=>v=Value.slice (some ⟨r,0,none⟩) (m+1) (m+1),λv X=>v=Value.int .i64 (M:Int),λv X=>v=Value.slice (some ⟨r,0,none⟩) (m+1) (m+1),λv X=>v=Value.int .i64 (M:Int),λv X=>v=Value.pointer (some ⟨r,M*2,none⟩),λv X=>v=Value.agg #[Value.slice A1 n1 c1,Value.bool d1],λv X=>v=Value.agg #[Value.slice D B F,Value.bool false],λv X=>v=Value.slice (some ⟨y,0,none⟩) (m+1) (m+1),λv X=>v=Value.int .i64 (M:Int),λv X=>v=Value.int .i64 (K:Int),λv X=>v=Value.int .i64 ((M:Int)-(K:Int)),λv X=>v=Value.pointer (some ⟨y,(M-K)*2,none⟩),λv X=>v=Value.agg #[Value.slice A2 n2 c2,Value.bool d2],λv X=>∃A n c b,v=Value.agg #[Value.slice A n c,Value.bool b]/\Z1 X A n c b (Yk tab t K*Zx (Yk tab) x (M-K)),λv X=>∃A n c b,v=Value.agg #[Value.slice A n c,Value.bool b]/\Z1 X A n c b (Hw (Yk tab) t (Zx (Yk tab) x) (K+1) M),λv X=>v=Value.pointer (some ⟨r,M*2,none⟩)] (λu X=>Vp X r 46 (Gx (Yk tab) t (Zx (Yk tab) x) m K (M+1))/\Vp X y 46 (Gs (Yk tab) x m)/\Off (λk=>k=r) wr X) (l:=[_,_,_,_,_,_,_,_,_,_,_,_,_,_,_,_]) AB AB AB rfl rfl (AL _ _).drew ⟨AI,AI,AI,AI,AI,AI,AI,AI,AI,AI,AI,AI,AI,(λ_ _ _ ⟨A,n,c,b,e,h⟩ hb=>⟨A,n,c,b,e,h.below hb⟩),(λ_ _ _ ⟨A,n,c,b,e,h⟩ hb=>⟨A,n,c,b,e,h.below hb⟩),AI,trivial⟩ ?_ ?_ ?_
  ·refine Zk.con (λQ u X d f KK o=>?_) ?_
   ·go_simp;exact o _ _ d (AL _ _) rfl
   iterate 3
    refine Zk.con (λQ u X d f KK o=>?_) ?_
    ·go_simp;exact o _ _ d (AL _ _) rfl
   refine Zk.con (λQ u X d f KK o=>?_) ?_
   ·have p2:u 2=_:=f 2 rfl;have p3:u 3=_:=f 3 rfl;clear f;rw[p2,p3] at o⊢;go_simp;exact o _ _ d (AL _ _) rfl
   refine Zk.con (λQ u X d f KK o=>?_) ?_
   ·have p4:u 4=_:=f 4 rfl;clear f;rw[p4] at o⊢;have ax:=(d.cell (p:=⟨r,M*2,none⟩) a7).trans r0;have ay:=(d.cell (p:=⟨r,M*2+1,none⟩) a7).trans r1;go_simp;exact o _ _ d (AL _ _) rfl
   refine Zk.con (λQ u X d f KK o=>?_) ?_
   ·have ax:=(d.cell (p:=⟨H,0,none⟩) xl).trans x0;have ay:=(d.cell (p:=⟨H,1,none⟩) xl).trans x1;go_simp;exact o _ _ d (AL _ _) rfl
   iterate 3
    refine Zk.con (λQ u X d f KK o=>?_) ?_
    ·go_simp;exact o _ _ d (AL _ _) rfl
   refine Zk.con (λQ u X d f KK o=>?_) ?_
   ·have p8:u 8=_:=f 8 rfl;have p9:u 9=_:=f 9 rfl;clear f;rw[p8,p9] at o⊢;go_simp;exact o _ _ d (AL _ _) rfl
   refine Zk.con (λQ u X d f KK o=>?_) ?_
   ·have p7:u 7=_:=f 7 rfl;have ck:u 10=_:=f 10 rfl;clear f;rw[p7,ck] at o⊢;go_simp;exact o _ _ d (AL _ _) rfl
   refine Zk.con (λQ u X d f KK o=>?_) ?_
   ·have cm:u 11=_:=f 11 rfl;clear f;rw[cm] at o⊢;have ax:=(d.cell (p:=⟨y,(M-K)*2,none⟩) a6).trans s0;have ay:=(d.cell (p:=⟨y,(M-K)*2+1,none⟩) a6).trans s1;go_simp;exact o _ _ d (AL _ _) rfl
   refine Zk.con (λQ u X d f KK o=>?_) ?_
   ·have p6:u 6=_:=f 6 rfl;have cn:u 12=_:=f 12 rfl;clear f;rw[p6,cn] at o⊢;have ch:=bu.below d;have ci:=bt.below d;go_simp;refine (Gt D B F false _ A2 n2 c2 d2 _ X ch ci).mono ?_;rintro e w2⟨C,Ar,nr,cr,Z,rfl,ai⟩;go_simp;exact o _ _ (Zz d C) C ⟨Ar,nr,cr,Z,rfl,ai⟩
   refine Zk.con (λQ u X d f KK o=>?_) ?_
   ·have p5:u 5=_:=f 5 rfl;obtain⟨Ar,nr,cr,Z,co,ai⟩:=f 13 rfl;clear f;rw[p5] at o⊢;generalize u 13=gr at *;subst co;have cg:=bs.below d;go_simp;refine (Zuc A1 n1 c1 d1 _ Ar nr cr Z _ X cg ai).mono ?_;rintro e w2⟨C,J,ns,cs,ds,rfl,U⟩;rw[<-bn] at U;go_simp;exact o _ _ (Zz d C) C ⟨J,ns,cs,ds,rfl,U⟩
   refine Zk.con (λQ u X d f KK o=>?_) ?_
   ·have p0:u 0=_:=f 0 rfl;have p1:u 1=_:=f 1 rfl;clear f;rw[p0,p1] at o⊢;go_simp;exact o _ _ d (AL _ _) rfl
   exact Zk.nil
  ·intro Q u X d f KK o;obtain⟨J,ns,cs,ds,cp,U⟩:=f 14 AC;have ct:u 15=_:=f 15 AC;clear f;generalize u 14=gs at *;subst cp;generalize u 15=gt at *;subst ct;have G:=V.below d;have ab:=L.below d;obtain⟨Aq,nq,cq,dq,q0,q1,_⟩:=G.get (j:=M) (by rw[J2];omega);have bx:=G.frozen (M*2);have b0:=G.frozen (M*2+1);have gh:=G.lt;have T:=G.put (j:=M) (by rw[J2];omega) U;rw[mid_set _ _ _ bj] at T;have af:Off (λk=>k=r) X ((X.setCell ⟨r,M*2,none⟩ (.slice J ns cs)).setCell ⟨r,M*2+1,none⟩ (.bool ds)):=(Off.of_set X r (M*2) (.slice J ns cs)).trans (Off.of_set _ r (M*2+1) (.bool ds)) λ_ _ h=>h;have R:Vp _ r 46 (Gx (Yk tab) t (Zx (Yk tab) x) m K (M+1))/\Vp _ y 46 (Gs (Yk tab) x m)/\Off (λk=>k=r) wr _:=⟨T.1,ab.kept T.2 (af.keep y ab.lt (Nat.ne_of_lt fa)),(Off.of_below (S:=λk=>k=r) d).trans af λ_ _ h=>h⟩;have P:=LH R;clear R T af G ab;go_simp;exact o (λi=>([u 0,u 1,u 2,u 3,u 4,u 5,u 6,u 7,u 8,u 9,u 10,u 11,u 12,u 13,Value.agg #[Value.slice J ns cs,Value.bool ds],Value.pointer (some ⟨r,M*2,none⟩)]:List Value).getD i undef) _ (P)
  intro u W9 R;obtain⟨g1,g2,g3⟩:=R;have bp:=LH g1;have bq:=LH g2;have br:=LH (E.trans g3 λ_ _ h=>h);clear g1 g2 g3 r0 r1 s0 s1;go_wp2_with fail;go_roundw
  case rel=>exact⟨M+1,AA,AA,AF,LH λh=>absurd h am,bp,bq,br⟩
  simp[intOf] <;> omega
theorem Ztz(h:GH)(G:Gr)(n:Nat)(w:World)(B:Yf w h G)(h1:h.n1<=100)(h2:h.n2<=100)(h3:h.n3<=100)(hP:Xq G)(hO:Ni G (N5 G).1)(hn:n<=100):
 Calls prog 54 #[GV h G.start,.int .i64 (n:Int)] w (RetMake G n w):=by
 obtain⟨a1,n1,c1,a2,n2,c2,a3,n3,c3⟩:=h;have e2:G.nons.length=n2:=B.nons.len;have e3:G.rules.length=n3:=B.rules.len;have k2:=B.nons.cap;have k3:=B.rules.cap;simp only[] at h1 h2 h3 k2 k3;have Hg:=LH B;have bq:=Zy w (.cells #[.slice a1 n1 c1,.slice a2 n2 c2,.slice a3 n3 c3,.int .i64 G.start] 26);have bx:=Y1.new w 26 ⟨a1,n1,c1,a2,n2,c2,a3,n3,c3⟩ G.start;clear B;go_enter func54,ntmps54;have⟨z5,z0,z1,z2,z3⟩:=bx;simp only[] at z0 z1 z2 z3;go_wp2_with fail;generalize w.alloc (.cells #[.slice a1 n1 c1,.slice a2 n2 c2,.slice a3 n3 c3,.int .i64 G.start] 26)=W0 at *;(with_reducible refine (rf_Order ⟨a1,n1,c1,a2,n2,c2,a3,n3,c3⟩ G W0 (Hg.out.below bq) (by simp only[];omega) (by simp only[];omega) (by simp only[];omega)).mono ?_);rintro e y⟨bv,Ao,co,rfl,hI⟩;have cd:=LH (Zz bq bv);have aq:=LH (bx.below bv);have hr:=hI.cap;have HP:=LH hP;have be:=LH hP.fits;have HO:=LH hO;have fy:(Z6 (N5 G).1).length=(N5 G).1.length:=by simp[Z6]
 generalize (N5 G).2=er at *;generalize (N5 G).1=C at *;have HI:=LH hI;clear z0 z1 z2 z3 z5 bx bv bq hI hP hO fy;go_wp2_with fail;go_loopw [5,8] (λcv i wr=>∃(m:Nat) (A:Option Addr) (c:Nat) (R:List Nat) (tab:Nat->Nat->Nat),m<=n+1/\i = .int .i64 (m:Int)/\cv = .slice A m c/\Hid (Jc wr y.heap.size A m c n2 R tab)/\Hid (Ll G C tab m 0)/\Hid (∀k,m<=k->∀i,tab k i=0)/\Hid (Below y.heap.size y wr)) (λ_ i _=>n+1-(intOf i).toNat)
 case atStart=>exact⟨0,none,0,[],λ_ _=>0,AV _,rfl,rfl,LH (Jc.start _ _ _ _),LH (Ll.start G C),LH λ_ _ _=>rfl,LH (AL _ _)⟩
 obtain⟨m,A,c,R,tab,hm,rfl,rfl,z,HD,HZ,q⟩:=hrel;have O:=aq.out.below q.out;have⟨y5,y0,y1,y2,y3⟩:=O;simp only[] at y0 y1 y2 y3;clear O;by_cases hf:m<=n
 case neg =>
  obtain rfl:n+1=m:=AA
  have hl:¬(((n+1:Nat):Int)<=(n:Int)):=AA
  have d3:Hid (RetMake G n w (.returned (.slice A (n+1) c)) wr):=LH ⟨Zz cd.out q.out,A,c,tab,rfl,by rw[e2];exact z.out.tab,λk hk i hi=>HD.out.low k AA i hi⟩;go_wp2_with fail;go_ret;exact d3.out
 have fx:=Zzv n2 AA;have dl:=Vp.new wr 46 n2;have dk:=Zy wr (.cells (zeroCells n2) 46);have dh:(wr.alloc (.cells (zeroCells n2) 46)).heap.size=wr.heap.size+1:=Zl _ _;have b3:=Zy (wr.alloc (.cells (zeroCells n2) 46)) (.cells #[.slice (some ⟨wr.heap.size,0,none⟩) n2 n2] 89);have dc:((wr.alloc (.cells (zeroCells n2) 46)).alloc (.cells #[.slice (some ⟨wr.heap.size,0,none⟩) n2 n2] 89)).cell? ⟨(wr.alloc (.cells (zeroCells n2) 46)).heap.size,0,none⟩=some (.slice (some ⟨wr.heap.size,0,none⟩) n2 n2):=(Blk.new _ 89 #[.slice (some ⟨wr.heap.size,0,none⟩) n2 n2]).cell 0;have bh:=LH (Zz dk b3);have bj:=LH (dl.below b3);have af:=LH (z.out.below bh.out);have df:∀g∈R,g<wr.heap.size:=λg B=>by
  obtain⟨j,hj⟩:=BT B;exact (z.out.row j g hj).2.lt
 have cl:=LH df;have bi:=LH dc;have ay:y.heap.size<=wr.heap.size:=q.out.size;have bw:y.heap.size<=((wr.alloc (.cells (zeroCells n2) 46)).alloc (.cells #[.slice (some ⟨wr.heap.size,0,none⟩) n2 n2] 89)).heap.size:=by rw[Zl,Zl];omega
 have d9:=LH Tryz.infoValS;have cn:=LH dh;clear dl dk b3 dc df dh;go_upto_region 7 with (at_builtin;refine wpl_appendV rfl _ _ 84 rfl y.heap.size 89 _ 24 underlying84 d9.out AC (by intro u hu k x he;subst he;simp[Value.cells] at hu) A m c (R.map λg=>Value.slice (some ⟨g,0,none⟩) n2 n2) rfl af.out.own af.out.noInt slices_noInt _ 1 (.slice (some ⟨wr.heap.size,0,none⟩) n2 n2) rfl (by first | exact bi.out | (rw[<-cn.out];exact bi.out)) rfl (by intro k x he;cases he) AA AA bw ?_;intro A5 c5 w5 ho B ha dd);have dx:Hid (Jc w5 y.heap.size A5 (m+1) c5 n2 (R++[wr.heap.size]) tab):=LH (af.out.snoc ho B dd (by rw[<-zero_row n2 m λi=>HZ.out m (AJ _) i];exact bj.out) ay λfv=>Nat.lt_irrefl _ (cl.out _ fv));have ds:Hid (Below y.heap.size y w5):=LH ((q.out.trans (bh.out.mono ay)).trans ((Off.of_grown B).is_below bw λk hk=>(af.out.own.lt k hk).1));have g8:wr.heap.size<w5.heap.size:=AK bj.out.lt B.size;have bg:Hid ((R++[wr.heap.size])[m]? = some wr.heap.size):=LH (by rw[BW (by rw[z.out.len];exact AJ _),z.out.len,Nat.sub_self];rfl);have g7:y.heap.size<=wr.heap.size:=ay;clear ho B ha dd fx bw ay y0 y1 y2 y3 y5;generalize wr.heap.size=L at *;generalize R++[L]=ag at *;clear z af q bh bj cl bi cn;go_wp2_with fail;go_loopw [9] (λi Y=>∃(p:Nat) (f:Nat->Nat->Nat),p<=C.length/\i = .int .i64 (p:Int)/\Hid (Jc Y y.heap.size A5 (m+1) c5 n2 ag f)/\Hid (Ll G C f m p)/\Hid (∀k,m<k->∀i,f k i=0)/\Hid (Below y.heap.size y Y)) (λi _=>C.length-(intOf i).toNat)
 case atStart=>exact⟨0,tab,AV _,rfl,dx,HD,LH λk hk i=>HZ.out k AA i,ds⟩
 obtain⟨p,f,d,rfl,z,a7,bb,q⟩:=hrel;have O:=aq.out.below q.out;have⟨y5,y0,y1,y2,y3⟩:=O;simp only[] at y0 y1 y2 y3;clear O;by_cases b4:p<C.length
 case neg =>
  obtain rfl:p=C.length:=AA
  have a8:Hid (Ll G C f (m+1) 0):=LH (a7.out.row HO.out λi=>bb.out (m+1) AA i);have bd:Hid (∀k,m+1<=k->∀i,f k i=0):=LH λk hk i=>bb.out k AA i;go_wp2_with fail;go_roundw
  case rel=>exact⟨m+1,A5,c5,ag,f,AA,AF,rfl,z,a8,bd,q⟩
  simp[intOf] <;> omega
 have br:=Zy wr (.cells #[.slice none 0 0,.bool false] 46);have c8:=Blk.new wr 46 #[.slice none 0 0,.bool false];obtain⟨o,ar⟩:∃o,Hid (C[p]? = some o):=⟨_,LH (AN b4)⟩;have da:o<n2:=by rw[<-e2];exact HO.out.lt o (AM ar.out)
 have di:∀g∈ag,g<wr.heap.size:=λg B=>by
  obtain⟨j,hj⟩:=BT B;exact (z.out.row j g hj).2.lt
 have dj:∀b,(Value.slice A5 (m+1) c5).ownBlock=some b->b<wr.heap.size:=λb U=>(z.out.own.lt b U).2;have dy:=LH (z.out.below br);have du:=LH (q.out.trans (br.mono q.out.size));have g9:y.heap.size<=wr.heap.size:=q.out.size;go_upto_region 11 with fail;generalize wr.alloc (.cells #[.slice none 0 0,.bool false] 46)=WS at *;generalize wr.heap.size=H at *;have d2:=LH c8;have fe:=LH di;have ff:=LH dj;clear c8 di dj br z q y0 y1 y2 y3 y5;go_wp2_with fail;go_loopw [11] (λi Y=>∃(k:Nat) (I:Option Addr) (ns cs:Nat) (J:Bool),k<=n3/\i = .int .i64 (k:Int)/\Hid (Jc Y y.heap.size A5 (m+1) c5 n2 ag f)/\Hid (Blk Y H 46 #[.slice I ns cs,.bool J])/\Hid (Z1 Y I ns cs J (Yc (Yk f) (G.rules.take k) o m))/\Hid (Below y.heap.size y Y)) (λi _=>n3-(intOf i).toNat)
 case atStart=>exact⟨0,none,0,0,false,AV _,rfl,dy,d2,LH (Z1.zero _ _ _ AA),du⟩
 obtain⟨k,I,ns,cs,J,hk,rfl,z,Z,HV,q⟩:=hrel;have O:=aq.out.below q.out;have⟨y5,y0,y1,y2,y3⟩:=O;simp only[] at y0 y1 y2 y3;clear O;have x0:wr.cell? ⟨H,0,none⟩=some (.slice I ns cs):=Z.out.cell 0;have x1:wr.cell? ⟨H,1,none⟩=some (.bool J):=Z.out.cell 1;have xl:=Z.out.lt;obtain⟨V,W,ov,rfl,hq,fa,fl⟩:=(HI.out.below q.out).get (j:=p) (by first | exact b4 | (simp[Z6];exact b4));have fz:ov=(o:Int):=by have:=fa.out;unfold Z6 at this;rw[By,ar.out] at this;simpa using this.symm
 subst fz;by_cases fw:k<n3
 case neg =>
  obtain rfl:k=n3:=AA
  as_aux_lemma =>
   have cp:Hid (Yc (Yk f) (G.rules.take k) o m=Zv G (-1-(o:Int)) m):=LH (by rw[AR AA];exact a7.out.next HP.out HO.out ar.out);obtain⟨tb,tu,rfl,_,ht,fd,gx,_⟩:=Gh z.out.own (j:=m) AA;have f3:tu = .slice (some ⟨L,0,none⟩) n2 n2:=by have:=fd.out;rw[By,bg.out] at this;simpa using this.symm
   subst f3;have ak:=(z.out.row m L bg.out).2;obtain⟨Aq,nq,cq,dq,g0,g1,_⟩:=ak.get (j:=o) (by simp;exact da);have cw:=ak.frozen (o*2);have cx:=ak.frozen (o*2+1);have az:=ak.lt;have cf:=LH λx:Ext wr=>(z.out.below (Zr wr x)).put bg.out da (HV.out.below (Zr wr x));have fs:=q.out.size;have a8:Hid (Ll G C (U6 f m o (Yc (Yk f) (G.rules.take k) o m)) m (p+1)):=LH (a7.out.put ar.out _ cp.out);have bd:Hid (∀k',m<k'->∀i,U6 f m o (Yc (Yk f) (G.rules.take k) o m) k' i=0):=LH λk' b2 i=>by unfold U6;rw[if_neg AA];exact bb.out k' b2 i
   clear ak cp;generalize Yc (Yk f) (G.rules.take k) o m=vN at *;go_upto_region 16 with fail;have bc:=Yt wr;have bf:=Kh wr;refine Yx 10 AB AB ?_;simp only[List.take_succ_cons,List.take_zero,List.drop_succ_cons,Ee];repeat (go_big_quiet_step (fail))
   refine BK ?_;rintro _⟨x,rfl⟩;have c0:=(bc x L (o*2) az).trans g0;have c1:=(bc x L (o*2+1) az).trans g1;have d0:=(bf x L (o*2) az).trans cw;have d1:=(bf x L (o*2+1) az).trans cx;have f2:=Lb wr x;go_wp2_with fail;go_roundw
   case rel=>exact⟨p+1,_,AA,AF,LH (cf.out x).1,a8,bd,LH ((q.out.trans ((Zr wr x).mono q.out.size)).trans ((cf.out x).2.is_below (BD fs f2) λk' b2=>AA))⟩
   simp[intOf] <;> omega
 obtain⟨D,F,r,Ar,cr,rfl,a4,Hr,q0,q1,q2,dg⟩:=(Hg.out.below (Zz cd.out q.out)).rules.get fw;have a0:=AM Hr.out;obtain⟨l1,l2⟩:=be.out.left r a0;have hc:=be.out.len r a0;have b5:=be.out.symB a0;rw[e2] at b5;have au:=LH (rulesT_take (T:=Yk f) Hr.out o m);obtain⟨E,db⟩:∃E:Nat,r.left=(E:Int):=⟨r.left.toNat,AA⟩;have cj:Hid (r.left.toNat=E):=LH AA;rw[db] at q0;have bc:=Yt wr;have fc:=LH b5;have cm:=LH dg;clear b5 dg l1 l2 db a0;by_cases b1:E=o
 case neg =>
  as_aux_lemma =>
   have ft:((E:Int)==(o:Int))=false:=by rw[AQ];omega
   have ai:Yc (Yk f) (G.rules.take (k+1)) o m=Yc (Yk f) (G.rules.take k) o m:=by rw[au.out,if_neg (by rw[cj.out];exact b1),DG]
   have ba:=LH ai;clear b1 ai au;go_upto_region 14 with fail;refine Zs AB AB ?_;repeat (go_big_quiet_step (fail))
   refine BK ?_;rintro _⟨x,rfl⟩;go_wp2_with fail;go_roundw
   case rel=>exact⟨k+1,I,ns,cs,J,AA,AF,LH (z.out.below (Zr wr x)),LH (Blk.ext Z.out (Zr wr x)),LH (by rw[ba.out];exact HV.out.below (Zr wr x)),LH (q.out.trans ((Zr wr x).mono q.out.size))⟩
   simp[intOf] <;> omega
 subst b1;have ft:((E:Int)==(E:Int))=true:=AE
 have ai:Yc (Yk f) (G.rules.take (k+1)) E m=Yc (Yk f) (G.rules.take k) E m+Zx (Yk f) r.right m:=by rw[au.out,if_pos cj.out]
 have ba:=LH ai;clear ai au;generalize Yc (Yk f) (G.rules.take k) E m=vN at *;go_upto_region 14 with fail;refine Zs AB AB ?_;repeat (go_big_quiet_step (fail))
 refine BK ?_;rintro _⟨x,rfl⟩;have cg:=LH (z.out.below (Zr wr x));have ap:=LH (Blk.ext Z.out (Zr wr x));have dz:=LH (HV.out.below (Zr wr x));have an:=LH (q.out.trans ((Zr wr x).mono q.out.size));have f0:D<(bl wr x).heap.size:=AK a4 (Lb wr x);have gm:=(bc x D (F+k*3) a4).trans q0;have dn:=(bc x D (F+k*3+1) a4).trans q1;have fb:=LH (cm.out.below (Zr wr x));generalize bl wr x=WY at *;clear z Z HV q cm q0 q1 q2 bc a4 x0 x1 xl fl y0 y1 y2 y3 y5 x;have⟨y5,y0,y1,y2,y3⟩:=aq.out.below an.out;simp only[] at y0 y1 y2 y3;have x0:WY.cell? ⟨H,0,none⟩=some (.slice I ns cs):=ap.out.cell 0;have x1:WY.cell? ⟨H,1,none⟩=some (.bool J):=ap.out.cell 1;have xl:=ap.out.lt;go_upto_region 15 with fail;refine Xh (λX=>Below WY.heap.size WY X) (λX X'=>Below X.heap.size X X') (λu=>(⟨(GV ⟨a1,n1,c1,a2,n2,c2,some ⟨D,F,none⟩,n3,c3⟩ G.start::Value.int IntKind.i64 (n:Int)::Value.pointer (some ⟨w.heap.size,0,none⟩)::undef::Value.slice none 0 0::Value.slice A5 (m+1) c5::Value.slice (some ⟨V,W,none⟩) C.length co::Value.int IntKind.i64 er::Value.int IntKind.i64 (m:Int)::Value.int IntKind.i64 (p:Int)::Value.pointer (some ⟨H,0,none⟩)::Value.int IntKind.i64 (k:Int)::Value.tuple #[Value.slice (some ⟨V,W,none⟩) C.length co,Value.int IntKind.i64 er]::Value.agg #[Value.slice a1 n1 c1,Value.slice a2 n2 c2,Value.slice (some ⟨D,F,none⟩) n3 c3,Value.int IntKind.i64 G.start]::Value.tuple #[Value.slice (some ⟨V,W,none⟩) C.length co,Value.int IntKind.i64 er]::Value.slice (some ⟨V,W,none⟩) C.length co::Value.int IntKind.i64 er::Value.int IntKind.i64 (m:Int)::Value.int IntKind.i64 (n:Int)::Value.bool true::u20::u21::Value.slice A m c::Value.pointer (some ⟨w.heap.size,1,none⟩)::Value.slice a2 n2 c2::Value.int IntKind.i64 (n2:Int)::Value.slice (some ⟨L,0,none⟩) n2 n2::Value.slice (some ⟨L+1,0,none⟩) 1 1::Value.slice A5 (m+1) c5::Value.int IntKind.i64 (p:Int)::Value.slice (some ⟨V,W,none⟩) C.length co::Value.int IntKind.i64 (C.length:Int)::Value.bool true::u33::u34::Value.agg #[Value.slice none 0 0,Value.bool false]::Value.int IntKind.i64 (k:Int)::Value.pointer (some ⟨w.heap.size,2,none⟩)::Value.slice (some ⟨D,F,none⟩) n3 c3::Value.int IntKind.i64 (n3:Int)::Value.bool true::u41::u42::Value.pointer (some ⟨w.heap.size,2,none⟩)::Value.slice (some ⟨D,F,none⟩) n3 c3::Value.int IntKind.i64 (k:Int)::Value.pointer (some ⟨D,F+k*3,none⟩)::Value.pointer (some ⟨D,F+k*3,none⟩)::Value.int IntKind.i64 (E:Int)::Value.slice (some ⟨V,W,none⟩) C.length co::Value.int IntKind.i64 (p:Int)::Value.pointer (some ⟨V,W+p,none⟩)::Value.int IntKind.i64 (E:Int)::Value.bool true::u 0::u 1::u 2::u 3::u 4::u 5::u 6::u 7::u 8::u 9::u 10::u65::u66::u67::u68::u69::u70::u71::u72::u73::u74::undef::[]).toArray,[]⟩:Act)) [u54,u55,u56,u57,u58,u59,u60,u61,u62,u63,u64] [λv X=>v=Value.agg #[Value.slice I ns cs,Value.bool J],λv X=>v=Value.slice A5 (m+1) c5,λv X=>v=Value.pointer (some ⟨w.heap.size,2,none⟩),λv X=>v=Value.slice (some ⟨D,F,none⟩) n3 c3,λv X=>v=Value.int .i64 (k:Int),λv X=>v=Value.pointer (some ⟨D,F+k*3,none⟩),λv X=>v=Value.pointer (some ⟨D,F+k*3+1,none⟩),λv X=>v=Value.slice Ar r.right.length cr,λv X=>v=Value.int .i64 (m:Int),λv X=>∃A n c b,v=Value.agg #[Value.slice A n c,Value.bool b]/\Z1 X A n c b (Zx (Yk f) r.right m),λv X=>∃A n c b,v=Value.agg #[Value.slice A n c,Value.bool b]/\Z1 X A n c b (vN+Zx (Yk f) r.right m)] (λu X=>∃At P M N,Jc X y.heap.size A5 (m+1) c5 n2 ag f/\Blk X H 46 #[Value.slice At P M,Value.bool N]/\Z1 X At P M N (vN+Zx (Yk f) r.right m)/\Below y.heap.size y X) (l:=[_,_,_,_,_,_,_,_,_,_,_]) AB AB AB rfl rfl (AL _ _).drew ⟨AI,AI,AI,AI,AI,AI,AI,AI,AI,(λ_ _ _ ⟨A,n,c,b,e,h⟩ U=>⟨A,n,c,b,e,h.below U⟩),(λ_ _ _ ⟨A,n,c,b,e,h⟩ U=>⟨A,n,c,b,e,h.below U⟩),trivial⟩ ?_ ?_ ?_
 ·refine Zk.con (λQ u X a d KK t=>?_) ?_
  ·have bk:=(a.cell (p:=⟨H,0,none⟩) xl).trans x0;have fk:=(a.cell (p:=⟨H,1,none⟩) xl).trans x1;go_simp;exact t _ _ a (AL _ _) rfl
  refine Zk.con (λQ u X a d KK t=>?_) ?_
  ·go_simp;exact t _ _ a (AL _ _) rfl
  refine Zk.con (λQ u X a d KK t=>?_) ?_
  ·have hw:=AK y5 a.size;go_simp;exact t _ _ a (AL _ _) rfl
  refine Zk.con (λQ u X a d KK t=>?_) ?_
  ·have p2:u 2=_:=d 2 rfl;clear d;rw[p2] at t⊢;have bk:=(a.cell (p:=⟨w.heap.size,2,none⟩) y5).trans y2;go_simp;exact t _ _ a (AL _ _) rfl
  refine Zk.con (λQ u X a d KK t=>?_) ?_
  ·go_simp;exact t _ _ a (AL _ _) rfl
  refine Zk.con (λQ u X a d KK t=>?_) ?_
  ·have p3:u 3=_:=d 3 rfl;have p4:u 4=_:=d 4 rfl;clear d;rw[p3,p4] at t⊢;go_simp;exact t _ _ a (AL _ _) rfl
  refine Zk.con (λQ u X a d KK t=>?_) ?_
  ·have p5:u 5=_:=d 5 rfl;clear d;rw[p5] at t⊢;go_simp;exact t _ _ a (AL _ _) rfl
  refine Zk.con (λQ u X a d KK t=>?_) ?_
  ·have p6:u 6=_:=d 6 rfl;clear d;rw[p6] at t⊢;have bk:=(a.cell (p:=⟨D,F+k*3+1,none⟩) f0).trans dn;go_simp;exact t _ _ a (AL _ _) rfl
  refine Zk.con (λQ u X a d KK t=>?_) ?_
  ·go_simp;exact t _ _ a (AL _ _) rfl
  refine Zk.con (λQ u X a d KK t=>?_) ?_
  ·have p1:u 1=_:=d 1 rfl;have p7:u 7=_:=d 7 rfl;have p8:u 8=_:=d 8 rfl;clear d;rw[p1,p7,p8] at t⊢;have fq:=cg.out.tab.below a;have fp:=fb.out.below a;go_simp;(with_reducible refine (Kd A5 (m+1) c5 n2 f Ar cr r.right m X fq (Em m) AA AA fp AA λs hs=>by have:=fc.out s hs;omega).mono ?_);rintro e w2⟨ah,a6,nr,bm,dr,rfl,b6⟩;go_simp;exact t _ _ (Zz a ah) ah ⟨a6,nr,bm,dr,rfl,b6⟩
  refine Zk.con (λQ u X a d KK t=>?_) ?_
  ·have p0:u 0=_:=d 0 rfl;obtain⟨a6,nr,bm,dr,p9,b6⟩:=d 9 rfl;clear d;rw[p0] at t⊢;generalize u 9=x9 at *;subst p9;have f5:=dz.out.below a;go_simp;(with_reducible refine (Zuc I ns cs J _ a6 nr bm dr _ X f5 b6).mono ?_);rintro e w2⟨ah,At,P,M,N,rfl,b7⟩;go_simp;exact t _ _ (Zz a ah) ah ⟨At,P,M,N,rfl,b7⟩
  exact Zk.nil
 ·intro Q u X a d KK t;obtain⟨At,P,M,N,gd,b7⟩:=d 10 AC;clear d;generalize u 10=hz at *;subst gd;have S:=Blk.ext ap.out a;have ad:=valcell_set S At P M N;have bk:X.cell? ⟨H,0,none⟩=some (.slice I ns cs):=S.cell 0;have fk:X.cell? ⟨H,1,none⟩=some (.bool J):=S.cell 1;have cw:=S.frozen 0;have cx:=S.frozen 1;have hv:=S.lt;have c7:=(cg.out.below a).off ad.1 (λb U e=>by have:=ff.out b U;omega) (λg B e=>by have:=fe.out g B;omega) ad.2.2;have c4:=(an.out.trans (a.mono an.out.size)).trans (ad.1.is_below (BD an.out.size a.size) λk' b2=>AA);have d4:=LH (And.intro c7 (And.intro ad.2.1 (And.intro (b7.kept ad.2.2) c4)));clear c7 c4 ad S;go_simp;exact t (λi=>([u 0,u 1,u 2,u 3,u 4,u 5,u 6,u 7,u 8,u 9,Value.agg #[Value.slice At P M,Value.bool N]]:List Value).getD i undef) _ (⟨At,P,M,N,d4.out⟩)
 intro u W9 fu;obtain⟨A9,n9,c9,b9,g1,g2,g3,g4⟩:=fu;have d5:=LH g1;have d6:=LH g2;have d8:=LH g4;rw[<-ba.out] at g3;have d7:=LH g3;clear g1 g2 g3 g4 x0 x1 gm dn y0 y1 y2 y3 y5;go_wp2_with fail;go_roundw
 case rel=>exact⟨k+1,A9,n9,c9,b9,AA,AF,d5,d6,d7,d8⟩
 simp[intOf] <;> omega
section
open Go.Shelf
open Go.ChangeShapes Go.WideShapes Go.ChangeAt Go.RowKit
open Go.ChangeShapes Go.WideShapes Go.ChangeAt Go.RowKit
open Go.ChangeShapes Go.WideShapes Go.ChangeAt Go.RowKit Go.Lib Go.Deep
open Go.ChangeShapes Go.WideShapes Go.ChangeAt Go.RowKit Go.Lib Go.Deep
theorem rf_Same9(h k:GH)(A B:Gr)(w:World)(L:Yf w h A)(M:Yf w k B):
 Calls prog 24 #[GV h A.start,GV k B.start] w λe w'=>e = .returned (.bool (eqG A B))/\Below w w w':=by
 obtain⟨a1,n1,c1,a2,n2,c2,a3,n3,c3⟩:=h;obtain⟨b1,O,d1,b2,P,d2,b3,R,d3⟩:=k;have X:A.terms.length=n1:=L.terms.len;have Y:A.nons.length=n2:=L.nons.len;have Z:A.rules.length=n3:=L.rules.len;have g1:B.terms.length=O:=M.terms.len;have g2:B.nons.length=P:=M.nons.len;have g3:B.rules.length=R:=M.rules.len;have k1:=L.terms.cap;have k2:=L.nons.cap;have k3:=L.rules.cap;have l1:=M.terms.cap;have l2:=M.nons.cap;have l3:=M.rules.cap;simp only[] at k1 k2 k3 l1 l2 l3;have HA:=LH L;have HB:=LH M;have bk:=Y1.new w 26 ⟨a1,n1,c1,a2,n2,c2,a3,n3,c3⟩ A.start;have am:=Y1.new (w.alloc (.cells #[.slice a1 n1 c1,.slice a2 n2 c2,.slice a3 n3 c3,.int .i64 A.start] 26)) 26 ⟨b1,O,d1,b2,P,d2,b3,R,d3⟩ B.start;have bd:=Zy w (.cells #[.slice a1 n1 c1,.slice a2 n2 c2,.slice a3 n3 c3,.int .i64 A.start] 26);have a0:=Zy (w.alloc (.cells #[.slice a1 n1 c1,.slice a2 n2 c2,.slice a3 n3 c3,.int .i64 A.start] 26)) (.cells #[.slice b1 O d1,.slice b2 P d2,.slice b3 R d3,.int .i64 B.start] 26);have bf:(w.alloc (.cells #[.slice a1 n1 c1,.slice a2 n2 c2,.slice a3 n3 c3,.int .i64 A.start] 26)).heap.size=w.heap.size+1:=Zl _ _;have az:=bk.below a0;have hW:=Zz bd a0;clear L M bk bd a0;go_enter func24,ntmps24;go_upto_region 1 with fail;generalize (w.alloc (.cells #[.slice a1 n1 c1,.slice a2 n2 c2,.slice a3 n3 c3,.int .i64 A.start] 26)).alloc (.cells #[.slice b1 O d1,.slice b2 P d2,.slice b3 R d3,.int .i64 B.start] 26)=W at *;rw[bf] at am;have C:=LH az;have D:=LH am;have b:=LH hW;have⟨y5,y0,y1,y2,y3⟩:=az;simp only[] at y0 y1 y2 y3;have⟨z5,z0,z1,z2,z3⟩:=am;simp only[] at z0 z1 z2 z3;clear az am bf hW;have s:A≠B->Hid (eqG A B=false):=λh=>LH (eqG_no h);by_cases q1:n1=O
 case neg =>
  have m:=s (by rintro rfl;omega);have i1:((n1:Int) != (O:Int))=true:=by rw[BM];omega
  clear s q1 X Y Z g1 g2 g3;go_wp2_with fail;go_ret;exact⟨by rw[m.out];rfl,b.out⟩
 have i1:((n1:Int) != (O:Int))=false:=by rw[BQ];omega
 by_cases q2:n2=P
 case neg =>
  have m:=s (by rintro rfl;omega);have i2:((n2:Int) != (P:Int))=true:=by rw[BM];omega
  clear s q1 q2 X Y Z g1 g2 g3;go_wp2_with fail;go_ret;exact⟨by rw[m.out];rfl,b.out⟩
 have i2:((n2:Int) != (P:Int))=false:=by rw[BQ];omega
 by_cases q3:n3=R
 case neg =>
  have m:=s (by rintro rfl;omega);have y:((n3:Int) != (R:Int))=true:=by rw[BM];omega
  clear s q1 q2 q3 X Y Z g1 g2 g3;go_wp2_with fail;go_ret;exact⟨by rw[m.out];rfl,b.out⟩
 have y:((n3:Int) != (R:Int))=false:=by rw[BQ];omega
 by_cases q4:A.start=B.start
 case neg =>
  have m:=s (by rintro rfl;exact q4 rfl);have i4:(A.start != B.start)=true:=by rw[BM];exact q4
  clear s q1 q2 q3 q4 X Y Z g1 g2 g3;go_wp2_with fail;go_ret;exact⟨by rw[m.out];rfl,b.out⟩
 have i4:(A.start != B.start)=false:=by rw[BQ];exact q4
 have b0:=LH q4;have E1:=LH X;have E2:=LH Y;have E3:=LH Z;have G1:=LH g1;have G2:=LH g2;have G3:=LH g3;obtain rfl:n1=O:=q1;obtain rfl:n2=P:=q2;obtain rfl:n3=R:=q3;have m:=LH s;clear s q4 X Y Z g1 g2 g3;go_wp2_with fail;clear i1 i2 y i4 y0 y1 y2 y3 z0 z1 z2 z3;go_loopw [5] (λi wr=>∃q:Nat,q<=n1/\i = .int .i64 (q:Int)/\Hid (A.terms.take q=B.terms.take q)/\Hid (Below W W wr)) (λi _=>n1-(intOf i).toNat)
 case atStart=>exact⟨0,AV _,rfl,LH rfl,LH (AL _ _)⟩
 obtain⟨q,hq,rfl,n,a⟩:=hrel;have⟨y5',y0,y1,y2,y3⟩:=C.out.below a.out;simp only[] at y0 y1 y2 y3;have⟨z5',z0,z1,z2,z3⟩:=D.out.below a.out;simp only[] at z0 z1 z2 z3;by_cases N:q<n1
 case pos =>
  obtain⟨tb,bn,t,rfl,bg,E,p0,p1,p2⟩:=(HA.out.below (Zz b.out a.out)).terms.get N;obtain⟨ub,bp,u,rfl,bi,F,r0,r1,r2⟩:=(HB.out.below (Zz b.out a.out)).terms.get N;have ae:=eq_trm t u;have cm:=Tryz.guardTerm;have bc:=Yt wr;cases v:trmB t u
  case false =>
   have d:=m.out (λe=>by
    have h1:=E.out;rw[e,F.out] at h1;have:u=t:=by simpa using h1
    rw[this,Bf.2 rfl] at v;cases v)
   rw[v] at ae;go_wp2_with fail;refine Zs AB AB ?_;repeat (go_big_quiet_step (fail))
   refine BK ?_;rintro _⟨x,rfl⟩;go_wp2_with fail;go_ret;exact⟨by rw[d.out];rfl,Zz b.out (a.out.trans ((Zr wr x).mono a.out.size))⟩
  obtain rfl:=Bf.1 v;rw[v] at ae;go_wp2_with fail;refine Zs AB AB ?_;repeat (go_big_quiet_step (fail))
  refine BK ?_;rintro _⟨x,rfl⟩;go_wp2_with fail;go_roundw
  case rel=>exact⟨q+1,AA,AF,LH (Qc n.out E.out F.out),LH (a.out.trans ((Zr wr x).mono a.out.size))⟩
  simp[intOf];omega
 obtain rfl:q=n1:=AA
 have HT:Hid (A.terms=B.terms):=LH (by have:=n.out;rwa [AR (by rw[E1.out];exact AJ _),AR (by rw[G1.out];exact AJ _)] at this);have ai:=LH (Zz b.out a.out);have aj:=LH (C.out.below a.out);have ak:=LH (D.out.below a.out);go_wp2_with fail;clear y0 y1 y2 y3 z0 z1 z2 z3 y5' z5' n a C D b;have C:=aj;have D:=ak;have b:=ai;clear aj ak ai;generalize wr=W at *;go_loopw [6] (λi wr=>∃q:Nat,q<=n2/\i = .int .i64 (q:Int)/\Hid (A.nons.take q=B.nons.take q)/\Hid (Below W W wr)) (λi _=>n2-(intOf i).toNat)
 case atStart=>exact⟨0,AV _,rfl,LH rfl,LH (AL _ _)⟩
 obtain⟨q,hq,rfl,n,a⟩:=hrel;have⟨y5',y0,y1,y2,y3⟩:=C.out.below a.out;simp only[] at y0 y1 y2 y3;have⟨z5',z0,z1,z2,z3⟩:=D.out.below a.out;simp only[] at z0 z1 z2 z3;by_cases N:q<n2
 case pos =>
  obtain⟨tb,bn,t,rfl,bg,E,p0⟩:=(HA.out.below (Zz b.out a.out)).nons.get N;obtain⟨ub,bp,u,rfl,bi,F,r0⟩:=(HB.out.below (Zz b.out a.out)).nons.get N;have bc:=Yt wr;by_cases v:t=u
  case neg =>
   have ae:(t==u)=false:=by
    cases h:t==u
    ·rfl
    exact absurd (Zx5.1 h) v
   have b6:(t.toList==u.toList)=false:=by rw[<-beq_toListBytes];exact ae
   have d:=m.out (λe=>by
    have h1:=E.out;rw[e,F.out] at h1;exact v (by simpa using h1.symm))
   clear v;go_wp2_with fail;refine Zs AB AB ?_;repeat (go_big_quiet_step (fail))
   refine BK ?_;rintro _⟨x,rfl⟩;go_wp2_with fail;go_ret;exact⟨by rw[d.out];rfl,Zz b.out (a.out.trans ((Zr wr x).mono a.out.size))⟩
  subst v;have ae:(t==t)=true:=Zx5.2 rfl;have b6:(t.toList==t.toList)=true:=by rw[<-beq_toListBytes];exact ae
  go_wp2_with fail;refine Zs AB AB ?_;repeat (go_big_quiet_step (fail))
  refine BK ?_;rintro _⟨x,rfl⟩;go_wp2_with fail;go_roundw
  case rel=>exact⟨q+1,AA,AF,LH (Qc n.out E.out F.out),LH (a.out.trans ((Zr wr x).mono a.out.size))⟩
  simp[intOf];omega
 obtain rfl:q=n2:=AA
 have HN:Hid (A.nons=B.nons):=LH (by have:=n.out;rwa [AR (by rw[E2.out];exact AJ _),AR (by rw[G2.out];exact AJ _)] at this);have ai:=LH (Zz b.out a.out);have aj:=LH (C.out.below a.out);have ak:=LH (D.out.below a.out);go_wp2_with fail;clear y0 y1 y2 y3 z0 z1 z2 z3 y5' z5' n a C D b;have C:=aj;have D:=ak;have b:=ai;clear aj ak ai;generalize wr=W at *;go_loopw [7] (λi wr=>∃q:Nat,q<=n3/\i = .int .i64 (q:Int)/\Hid (A.rules.take q=B.rules.take q)/\Hid (Below W W wr)) (λi _=>n3-(intOf i).toNat)
 case atStart=>exact⟨0,AV _,rfl,LH rfl,LH (AL _ _)⟩
 obtain⟨q,hq,rfl,n,a⟩:=hrel;have⟨y5',y0,y1,y2,y3⟩:=C.out.below a.out;simp only[] at y0 y1 y2 y3;have⟨z5',z0,z1,z2,z3⟩:=D.out.below a.out;simp only[] at z0 z1 z2 z3;by_cases N:q<n3
 case neg =>
  obtain rfl:q=n3:=AA
  have HR:Hid (A.rules=B.rules):=LH (by have:=n.out;rwa [AR (by rw[E3.out];exact AJ _),AR (by rw[G3.out];exact AJ _)] at this);have b4:=LH (eqG_yes HT.out HN.out HR.out b0.out);go_wp2_with fail;go_ret;exact⟨by rw[b4.out];rfl,Zz b.out a.out⟩
 obtain⟨tb,bn,t,At,I,rfl,bg,E,p0,p1,p2,bh⟩:=(HA.out.below (Zz b.out a.out)).rules.get N;obtain⟨ub,bp,u,H,J,rfl,bi,F,r0,r1,r2,bj⟩:=(HB.out.below (Zz b.out a.out)).rules.get N;have a9:=LH bh;have ba:=LH bj;clear bh bj;go_upto_region 16 with fail;have V:Hid (t≠u->Hid (eqG A B=false)):=LH λb7=>m.out (λe=>by
  have h1:=E.out;rw[e,F.out] at h1;exact b7 (by simpa using h1.symm))
 go_region
 ·as_aux_lemma =>
   obtain⟨G,p,r⟩:=Zs0 wr 52 #[.int .i64 t.left,.slice At t.right.length I,.int .i64 t.prec] #[.int .i64 u.left,.slice H u.right.length J,.int .i64 u.prec];generalize ((wr.alloc (.cells #[.int .i64 t.left,.slice At t.right.length I,.int .i64 t.prec] 52)).alloc (.cells #[.int .i64 u.left,.slice H u.right.length J,.int .i64 u.prec] 52)).drew=f at *;have z:=LH (a.out.trans (G.mono a.out.size));have ce:f.cell? ⟨wr,0,none⟩=some (.int .i64 t.left):=p.cell 0;have cf:f.cell? ⟨wr,1,none⟩=some (.slice At t.right.length I):=p.cell 1;have cg:f.cell? ⟨wr,2,none⟩=some (.int .i64 t.prec):=p.cell 2;have ci:f.cell? ⟨(wr.heap.size+1),0,none⟩=some (.int .i64 u.left):=r.cell 0;have cj:f.cell? ⟨(wr.heap.size+1),1,none⟩=some (.slice H u.right.length J):=r.cell 1;have ck:f.cell? ⟨(wr.heap.size+1),2,none⟩=some (.int .i64 u.prec):=r.cell 2;have ch:=p.lt;have cl:=r.lt;have j:=LH (Mr At t.right.length I t.right H u.right.length J u.right f (a9.out.below G) (ba.out.below G));clear G p r y0 y1 y2 y3 z0 z1 z2 z3 p0 p1 p2 r0 r1 r2;by_cases c:t.left=u.left
   case neg =>
    have i1:(t.left != u.left)=true:=by rw[BM];exact c
    have d:=V.out λe=>c (by rw[e]);clear c;go_wp2_with (go_at_call 37;(with_reducible refine j.out.mono ?_);rintro e U⟨rfl,o⟩);go_ret;exact⟨by rw[d.out];rfl,Zz b.out z.out⟩
   have i1:(t.left != u.left)=false:=by rw[BQ];exact c
   by_cases g:t.prec=u.prec
   case neg =>
    have i2:(t.prec != u.prec)=true:=by rw[BM];exact g
    have d:=V.out λe=>g (by rw[e]);clear c g;go_wp2_with (go_at_call 37;(with_reducible refine j.out.mono ?_);rintro e U⟨rfl,o⟩);go_ret;exact⟨by rw[d.out];rfl,Zz b.out z.out⟩
   have i2:(t.prec != u.prec)=false:=by rw[BQ];exact g
   by_cases l:t.right=u.right
   case neg =>
    have y:(t.right==u.right)=false:=by rw[AQ];exact l
    have d:=V.out λe=>l (by rw[e]);rw[y] at j;clear c g l;go_wp2_with (go_at_call 37;(with_reducible refine j.out.mono ?_);rintro e U⟨rfl,o⟩);have S:=LH (z.out.trans (o.below _));go_ret;exact⟨by rw[d.out];rfl,Zz b.out S.out⟩
   have y:(t.right==u.right)=true:=by rw[BO];exact l
   have T:=LH (And.intro c (And.intro g l));rw[y] at j;clear c g l;go_wp2_with (go_at_call 37;(with_reducible refine j.out.mono ?_);rintro e U⟨rfl,o⟩);have S:=LH (z.out.trans (o.below _));go_roundw
   case rel=>exact⟨q+1,AA,AF,LH (Qc n.out E.out (by rw[F.out,Zwu.1 (by unfold rulB;rw[T.out.1,T.out.2.1,T.out.2.2];simp:rulB t u=true)])),S⟩
   simp[intOf];omega
 as_aux_lemma =>
  obtain⟨G,r,p⟩:=Zs0 wr 52 #[.int .i64 u.left,.slice H u.right.length J,.int .i64 u.prec] #[.int .i64 t.left,.slice At t.right.length I,.int .i64 t.prec];generalize ((wr.alloc (.cells #[.int .i64 u.left,.slice H u.right.length J,.int .i64 u.prec] 52)).alloc (.cells #[.int .i64 t.left,.slice At t.right.length I,.int .i64 t.prec] 52)).drew=f at *;have z:=LH (a.out.trans (G.mono a.out.size));have ce:f.cell? ⟨(wr.heap.size+1),0,none⟩=some (.int .i64 t.left):=p.cell 0;have cf:f.cell? ⟨(wr.heap.size+1),1,none⟩=some (.slice At t.right.length I):=p.cell 1;have cg:f.cell? ⟨(wr.heap.size+1),2,none⟩=some (.int .i64 t.prec):=p.cell 2;have ci:f.cell? ⟨wr,0,none⟩=some (.int .i64 u.left):=r.cell 0;have cj:f.cell? ⟨wr,1,none⟩=some (.slice H u.right.length J):=r.cell 1;have ck:f.cell? ⟨wr,2,none⟩=some (.int .i64 u.prec):=r.cell 2;have ch:=p.lt;have cl:=r.lt;have j:=LH (Mr At t.right.length I t.right H u.right.length J u.right f (a9.out.below G) (ba.out.below G));clear G p r y0 y1 y2 y3 z0 z1 z2 z3 p0 p1 p2 r0 r1 r2;by_cases c:t.left=u.left
  case neg =>
   have i1:(t.left != u.left)=true:=by rw[BM];exact c
   have d:=V.out λe=>c (by rw[e]);clear c;go_wp2_with (go_at_call 37;(with_reducible refine j.out.mono ?_);rintro e U⟨rfl,o⟩);go_ret;exact⟨by rw[d.out];rfl,Zz b.out z.out⟩
  have i1:(t.left != u.left)=false:=by rw[BQ];exact c
  by_cases g:t.prec=u.prec
  case neg =>
   have i2:(t.prec != u.prec)=true:=by rw[BM];exact g
   have d:=V.out λe=>g (by rw[e]);clear c g;go_wp2_with (go_at_call 37;(with_reducible refine j.out.mono ?_);rintro e U⟨rfl,o⟩);go_ret;exact⟨by rw[d.out];rfl,Zz b.out z.out⟩
  have i2:(t.prec != u.prec)=false:=by rw[BQ];exact g
  by_cases l:t.right=u.right
  case neg =>
   have y:(t.right==u.right)=false:=by rw[AQ];exact l
   have d:=V.out λe=>l (by rw[e]);rw[y] at j;clear c g l;go_wp2_with (go_at_call 37;(with_reducible refine j.out.mono ?_);rintro e U⟨rfl,o⟩);have S:=LH (z.out.trans (o.below _));go_ret;exact⟨by rw[d.out];rfl,Zz b.out S.out⟩
  have y:(t.right==u.right)=true:=by rw[BO];exact l
  have T:=LH (And.intro c (And.intro g l));rw[y] at j;clear c g l;go_wp2_with (go_at_call 37;(with_reducible refine j.out.mono ?_);rintro e U⟨rfl,o⟩);have S:=LH (z.out.trans (o.below _));go_roundw
  case rel=>exact⟨q+1,AA,AF,LH (Qc n.out E.out (by rw[F.out,Zwu.1 (by unfold rulB;rw[T.out.1,T.out.2.1,T.out.2.2];simp:rulB t u=true)])),S⟩
  simp[intOf];omega
end
