/- the cycles: the reference's, walked. -/
import Derived.Test.YtggbjdmpjidhgaaGreatDoorY12
import Derived.Test.YtggbjdmpjidhgaaGreatDoorY13
import Derived.Test.YtggbjdmpjidhgaaGreatDoorY14
set_option linter.all false
set_option maxHeartbeats 1500000
set_option maxRecDepth 100000
namespace Go.Proofs.YtggbjdmpjidhgaaGreatDoor
open Go.RowKit Go.Proofs.Tryz
theorem Zvq(h:GH)(G:Gr)(w:World)(n:Yf w h G)(h1:h.n1<=100)(h2:h.n2<=100)(h3:h.n3<=100):
 Calls prog 67 #[GV h G.start] w λe w'=>Below w w w'/\e = .returned (.int .u32 ((Gy G:Nat):Int)):=by
 obtain⟨a1,n1,c1,a2,n2,c2,a3,n3,c3⟩:=h;have r:G.nons.length=n2:=n.nons.len;have k2:=n.nons.cap;simp only[] at h1 h2 h3 k2;have S:=LH n;have t:=Zy w (.cells #[.slice a1 n1 c1,.slice a2 n2 c2,.slice a3 n3 c3,.int .i64 G.start] 26);have F:=Y1.new w 26 ⟨a1,n1,c1,a2,n2,c2,a3,n3,c3⟩ G.start;clear n;go_enter func67,ntmps67;have⟨y5,y0,y1,y2,y3⟩:=F;simp only[] at y0 y1 y2 y3;go_upto_region 1 with fail;generalize w.alloc (.cells #[.slice a1 n1 c1,.slice a2 n2 c2,.slice a3 n3 c3,.int .i64 G.start] 26)=a at *;have y:=LH t;have m:=LH (S.out.below t);clear t F;rcases g:G.right with _ | _
 ·have k:=LH g;have l:=LH λx:Ext a=>(Qt ⟨a1,n1,c1,a2,n2,c2,a3,n3,c3⟩ G (bl a x) (m.out.below (Zr a x)) (by simp only[];omega) (by simp only[];omega) (by simp only[];omega)).mono λe w' c=>And.intro (c.2.resolve_right λf=>by rw[k.out] at f;cases f.1).2 c.1;have L:=LH λx:Ext a=>(Lw ⟨a1,n1,c1,a2,n2,c2,a3,n3,c3⟩ G (bl a x) (m.out.below (Zr a x)) (by simp only[];omega) (by simp only[];omega) (by simp only[];omega)).mono λe w' c=>And.intro (c.2.resolve_right λf=>by rw[k.out] at f;cases f.1).2 c.1;have o:Hid (Gy G=0):=LH (by unfold Gy;rw[g];rfl);have Y:=Yt a;clear g;refine Zs AB AB ?_;repeat (go_big_quiet_step (first
   | (go_at_call 109;with_reducible exact Ve (l.out _))
   | (go_at_call 110;with_reducible exact Ve (L.out _))))
  refine BK ?_;rintro _⟨x,rfl⟩;have N:=LH (Zz y.out (Zr a x));generalize bl a x=W2 at *;clear y0 y1 y2 y3 y5 Y;go_wp2_with fail;go_loop [5,6] (λs i=>s = .int .u32 0/\i = .int .i64 0) (λs i=>0)
  case atStart=>exact⟨rfl,rfl⟩
  obtain⟨rfl,rfl⟩:=hrel;go_wp2_with fail;go_ret;exact⟨N.out,by rw[o.out];rfl⟩
 have af:=Gr.fits g;have k:=LH g;have o:Hid (Gy G=Qm G):=LH (by unfold Gy;rw[g];rfl);have v:=LH λX (d:Below a a X)=>(Qt ⟨a1,n1,c1,a2,n2,c2,a3,n3,c3⟩ G X (m.out.below d) (by simp only[];omega) (by simp only[];omega) (by simp only[];omega)).mono λe w' c=>And.intro (Zz d c.1) (And.intro (LH c.1) (c.2.resolve_left λf=>by rw[k.out] at f;cases f.1).2);have l:=LH λX (d:Below a a X)=>(Lw ⟨a1,n1,c1,a2,n2,c2,a3,n3,c3⟩ G X (m.out.below d) (by simp only[];omega) (by simp only[];omega) (by simp only[];omega)).mono λe w' c=>And.intro (Zz d c.1) (And.intro (LH c.1) (c.2.resolve_left λf=>by rw[k.out] at f;cases f.1).2);have z:Hid (∀b,Below a a b->b.cell? ⟨w,0,none⟩=some (.slice a1 n1 c1)/\b.cell? ⟨w,1,none⟩=some (.slice a2 n2 c2)/\b.cell? ⟨w,2,none⟩=some (.slice a3 n3 c3)/\b.cell? ⟨w,3,none⟩=some (.int .i64 G.start)/\Below a a b):=LH λb d=>⟨by rw[d.cell (by exact y5)];exact y0,by rw[d.cell (by exact y5)];exact y1,by rw[d.cell (by exact y5)];exact y2,by rw[d.cell (by exact y5)];exact y3,d⟩;clear g af;go_region_held3 (λb=>b.cell? ⟨w,0,none⟩=some (.slice a1 n1 c1)/\b.cell? ⟨w,1,none⟩=some (.slice a2 n2 c2)/\b.cell? ⟨w,2,none⟩=some (.slice a3 n3 c3)/\b.cell? ⟨w,3,none⟩=some (.int .i64 G.start)/\Below a a b)
  ((refine z.out _ ?_;(repeat (first | assumption | exact AL _ _ | refine Below.drew ?_ | refine Zo ?_ _ | refine Zg ?_ _ _ _ (by (first | exact AJ _ | exact DP _ | exact Below.size AH | exact Nat.le_succ_of_le (Below.size AH) | (simp;done) | omega))));done))
  (first
    | (go_at_call 109;refine (v.out _ (by (repeat (first | assumption | exact AL _ _ | refine Below.drew ?_ | refine Zo ?_ _ | refine Zg ?_ _ _ _ (by (first | exact AJ _ | exact DP _ | exact Below.size AH | exact Nat.le_succ_of_le (Below.size AH) | (simp;done) | omega)))))).mono ?_;rintro e w2⟨ae,R,Z,ag,rfl,A⟩)
    | (go_at_call 110;refine (l.out _ (by (repeat (first | assumption | exact AL _ _ | refine Below.drew ?_ | refine Zo ?_ _ | refine Zg ?_ _ _ _ (by (first | exact AJ _ | exact DP _ | exact Below.size AH | exact Nat.le_succ_of_le (Below.size AH) | (simp;done) | omega)))))).mono ?_;rintro e u⟨E,C,gP,ah,rfl,B⟩))
 have O:Hid (Z8 u Z (Zt G)):=Blk.hidden A C;have P:Hid (Z8 u gP (Z5 G)):=B;have M:=LH (Zz y.out E);have W:Hid (Qm G=Jb (λi=>(Zt G).getD i false&&(Z5 G).getD i false) n2):=LH (by unfold Qm;rw[r]);have T:Hid ((Zt G).length=n2):=LH (by rw[Vx];exact r);have U:Hid ((Z5 G).length=n2):=LH (by rw[K9];exact r);clear ae R ag A C ah B E v l z y0 y1 y2 y3 y5;go_wp2_with fail;go_loop [5,6] (λs i=>∃j:Nat,j<=n2/\i = .int .i64 (j:Int)/\s = .int .u32 ((Jb (λi=>(Zt G).getD i false&&(Z5 G).getD i false) j:Nat):Int)) (λs i=>n2-(intOf i).toNat)
 case atStart=>exact⟨0,AV _,rfl,rfl⟩
 obtain⟨j,hj,rfl,rfl⟩:=hrel;by_cases H:j<n2
 case neg =>
  obtain rfl:j=n2:=AA
  go_wp2_with fail;go_ret;exact⟨M.out,by rw[o.out,W.out];rfl⟩
 have am:=O.out.at (i:=j) (by rw[T.out];exact H);have an:=P.out.at (i:=j) (by rw[U.out];exact H);have I:=Mp (λi=>(Zt G).getD i false&&(Z5 G).getD i false) j;have ai:=Jg (λi=>(Zt G).getD i false&&(Z5 G).getD i false) j;have ap:=or32 (Jb (λi=>(Zt G).getD i false&&(Z5 G).getD i false) j) (Y6 (j:Int)) ai (Ua _);have D:=Ch (j:Int) u;generalize Jb (λi=>(Zt G).getD i false&&(Z5 G).getD i false) j=s0 at *;generalize (Zt G).getD j false=p at *;generalize (Z5 G).getD j false=q at *;generalize Y6 (j:Int)=bj at *;have V:=LH I;have J:=LH D;clear I D;cases p <;> cases q;all_goals
  go_wp2_with (go_at_call 63;(with_reducible refine J.out.mono ?_);rintro e w'⟨rfl,rfl⟩);go_round
  case rel=>exact⟨j+1,AA,AF,by rw[V.out];rfl⟩
  simp[intOf];omega
set_option maxHeartbeats 8000000 in
theorem Dk(h:GH)(G:Gr)(w:World)(f:Yf w h G)(h1:h.n1<=100)(h2:h.n2<=100)(h3:h.n3<=100):
 Calls prog 58 #[GV h G.start] w (Zyo G w):=by
 obtain⟨a1,n1,c1,a2,n2,c2,a3,n3,c3⟩:=h;have e1:G.terms.length=n1:=f.terms.len;have e2:G.nons.length=n2:=f.nons.len;have e3:G.rules.length=n3:=f.rules.len;have k1:=f.terms.cap;have k2:=f.nons.cap;have k3:=f.rules.cap;simp only[] at h1 h2 h3 k1 k2 k3;have Hg:=LH f;have g9:=Zy w (.cells #[.slice a1 n1 c1,.slice a2 n2 c2,.slice a3 n3 c3,.int .i64 G.start] 26);have fq:=Y1.new w 26 ⟨a1,n1,c1,a2,n2,c2,a3,n3,c3⟩ G.start;clear f;go_enter func58,ntmps58;have⟨z5,z0,z1,z2,z3⟩:=fq;simp only[] at z0 z1 z2 z3;go_upto_region 1 with fail;have fp:=Zy (w.alloc (.cells #[.slice a1 n1 c1,.slice a2 n2 c2,.slice a3 n3 c3,.int .i64 G.start] 26)) (.cells #[.slice none 0 0,.slice none 0 0,.slice none 0 0,.int .i64 0] 26);have fj:=Blk.new (w.alloc (.cells #[.slice a1 n1 c1,.slice a2 n2 c2,.slice a3 n3 c3,.int .i64 G.start] 26)) 26 #[.slice none 0 0,.slice none 0 0,.slice none 0 0,.int .i64 0];have bn:=Zz g9 fp;have fr:=fq.below fp;have jy:(w.alloc (.cells #[.slice a1 n1 c1,.slice a2 n2 c2,.slice a3 n3 c3,.int .i64 G.start] 26)).heap.size=w.heap.size+1:=Zl _ _;generalize (w.alloc (.cells #[.slice a1 n1 c1,.slice a2 n2 c2,.slice a3 n3 c3,.int .i64 G.start] 26)).alloc (.cells #[.slice none 0 0,.slice none 0 0,.slice none 0 0,.int .i64 0] 26)=W1 at *;rw[jy] at fj;clear jy fp fq g9 z0 z1 z2 z3 z5;have h8:Hid (Blk W1 (w.heap.size+1) 26 #[.slice none 0 0,.slice none 0 0,.slice none 0 0,.int .i64 0]):=LH fj;have⟨y5,y0,y1,y2,y3⟩:=fr;simp only[] at y0 y1 y2 y3;go_wp2_with fail;(with_reducible refine (Jr ⟨a1,n1,c1,a2,n2,c2,a3,n3,c3⟩ G W1 (Hg.out.below bn) (by simp only[];omega) (by simp only[];omega) (by simp only[];omega)).mono ?_);rintro e L⟨rfl,dn⟩;have he:=Zz bn dn;have jg:=fr.below dn;have aj:Blk L (w.heap.size+1) 26 #[.slice none 0 0,.slice none 0 0,.slice none 0 0,.int .i64 0]:=Blk.ext h8.out dn;clear dn fr bn fj h8 y0 y1 y2 y3 y5;have r0:L.cell? ⟨w.heap.size+1,0,none⟩=some (.slice none 0 0):=aj.cell 0;have r1:L.cell? ⟨w.heap.size+1,1,none⟩=some (.slice none 0 0):=aj.cell 1;have r2:L.cell? ⟨w.heap.size+1,2,none⟩=some (.slice none 0 0):=aj.cell 2;have r3:L.cell? ⟨w.heap.size+1,3,none⟩=some (.int .i64 0):=aj.cell 3;have f0:=aj.frozen 0;have f1:=aj.frozen 1;have f2:=aj.frozen 2;have f3:=aj.frozen 3;have dz:=LH aj;have an:=LH he;have d1:=LH jg;clear aj he jg;rcases cj:G.right with _ | _
 case false =>
  have bz:Hid (Xp G=false):=LH (by unfold Xp;rw[cj];rfl);clear cj;go_wp2_with fail;refine AW (Yu (p:=2) (u:=3) (v:=4) AB _ _ (w.heap.size+1) 26 #[.slice none 0 0,.slice none 0 0,.slice none 0 0,.int .i64 0] (0,0) _ rfl ((((Blk.set (Blk.set (Blk.set (Blk.set dz.out 0 (.slice none 0 0)) 1 (.slice none 0 0)) 2 (.slice none 0 0)) 3 (.int .i64 0))))) underlying26 rfl AB) rfl ?_;exact⟨(((an.out.trans (Zn (Zd _ _ _ _) an.out.size (DP _))).trans (Zn (Zd _ _ _ _) (by simpa using an.out.size) (DP _))).trans (Zn (Zd _ _ _ _) (by simpa using an.out.size) (DP _))).trans (Zn (Zd _ _ _ _) (by simpa using an.out.size) (DP _)),.inl ⟨bz.out,1,AC,rfl⟩⟩
 have cd:=Gr.fits cj;have dc:=LH cj;have aa:=LH cd;have jq:=cd.n1;have l3:=cd.n2;have l4:=cd.n3;rw[e1] at jq;rw[e2] at l3;rw[e3] at l4;have⟨y5,y0,y1,y2,y3⟩:=d1.out;simp only[] at y0 y1 y2 y3;have HS:Hid (∀P,Below L.heap.size L P->P.cell? ⟨w.heap.size,0,none⟩=some (.slice a1 n1 c1)/\P.cell? ⟨w.heap.size,1,none⟩=some (.slice a2 n2 c2)/\P.cell? ⟨w.heap.size,2,none⟩=some (.slice a3 n3 c3)/\P.cell? ⟨w.heap.size,3,none⟩=some (.int .i64 G.start)/\Below L.heap.size L P):=LH λP a=>⟨by rw[a.cell (by exact y5)];exact y0,by rw[a.cell (by exact y5)];exact y1,by rw[a.cell (by exact y5)];exact y2,by rw[a.cell (by exact y5)];exact y3,a⟩;have CP:=LH λX (a:Below L.heap.size L X)=>(Qt ⟨a1,n1,c1,a2,n2,c2,a3,n3,c3⟩ G X ((Hg.out.below an.out).below a) (by simp only[];omega) (by simp only[];omega) (by simp only[];omega)).mono λe w' hh=>And.intro (Zz a hh.1) (And.intro (LH hh.1) (hh.2.resolve_left λhc=>by rw[dc.out] at hc;cases hc.1).2);have CR:=LH λX (a:Below L.heap.size L X)=>(Lw ⟨a1,n1,c1,a2,n2,c2,a3,n3,c3⟩ G X ((Hg.out.below an.out).below a) (by simp only[];omega) (by simp only[];omega) (by simp only[];omega)).mono λe w' hh=>And.intro (Zz a hh.1) (And.intro (LH hh.1) (hh.2.resolve_left λhc=>by rw[dc.out] at hc;cases hc.1).2);clear cj cd r0 r1 r2 r3 f0 f1 f2 f3;go_upto_region 3 with fail;go_region_held3 (λP=>P.cell? ⟨w.heap.size,0,none⟩=some (.slice a1 n1 c1)/\P.cell? ⟨w.heap.size,1,none⟩=some (.slice a2 n2 c2)/\P.cell? ⟨w.heap.size,2,none⟩=some (.slice a3 n3 c3)/\P.cell? ⟨w.heap.size,3,none⟩=some (.int .i64 G.start)/\Below L.heap.size L P)
  ((refine HS.out _ ?_;(repeat (first | assumption | exact AL _ _ | refine Below.drew ?_));done))
  (first
    | (go_at_call 109;with_reducible refine (CP.out _ (by (repeat (first | assumption | exact AL _ _ | refine Below.drew ?_)))).mono ?_;rintro e w7⟨lk,km,gP,lp,rfl,gr⟩)
    | (go_at_call 110;with_reducible refine (CR.out _ (by (repeat (first | assumption | exact AL _ _ | refine Below.drew ?_)))).mono ?_;rintro e g⟨di,gw,gQ,lq,rfl,gs⟩))
 rename_i ll;clear ll;have gm:Hid (Z8 g gP (Zt G)):=LH (Blk.hidden gr gw);have ke:Hid (Z8 g gQ (Z5 G)):=LH gs;have V:=LH (Zz an.out di);have bm:=LH (d1.out.below di);have W:Hid (Blk g (w.heap.size+1) 26 #[.slice none 0 0,.slice none 0 0,.slice none 0 0,.int .i64 0]):=LH (Blk.ext dz.out di);clear lk km lp gr di gw lq gs CP CR HS y0 y1 y2 y3 y5 dz an d1;have⟨y5,y0,y1,y2,y3⟩:=bm.out;simp only[] at y0 y1 y2 y3;obtain⟨S,fy⟩:∃S:Nat,G.start=(S:Int):=⟨G.start.toNat,by have:=aa.out.st;omega⟩;have jx:S<n2:=by have:=aa.out.st;omega
 have b2:Hid (G.start.toNat=S):=LH AA;have c0:=gm.out.at (i:=S) (by rw[Vx,e2];exact jx);have d3:Hid (Xp G=(Zt G).getD S false):=LH (by unfold Xp;rw[dc.out,b2.out];rfl);rw[fy] at y3;have lb:=LH fy;clear fy;generalize ju:(Zt G).getD S false=pv at *;rcases pv with _ | _
 case false =>
  have r0:g.cell? ⟨w.heap.size+1,0,none⟩=some (.slice none 0 0):=W.out.cell 0;have r1:g.cell? ⟨w.heap.size+1,1,none⟩=some (.slice none 0 0):=W.out.cell 1;have r2:g.cell? ⟨w.heap.size+1,2,none⟩=some (.slice none 0 0):=W.out.cell 2;have r3:g.cell? ⟨w.heap.size+1,3,none⟩=some (.int .i64 0):=W.out.cell 3;have f0:=W.out.frozen 0;have f1:=W.out.frozen 1;have f2:=W.out.frozen 2;have f3:=W.out.frozen 3;clear ju;go_wp2_with fail;refine AW (Yu (p:=2) (u:=3) (v:=4) AB _ _ (w.heap.size+1) 26 #[.slice none 0 0,.slice none 0 0,.slice none 0 0,.int .i64 0] (0,0) _ rfl ((((Blk.set (Blk.set (Blk.set (Blk.set W.out 0 (.slice none 0 0)) 1 (.slice none 0 0)) 2 (.slice none 0 0)) 3 (.int .i64 0))))) underlying26 rfl AB) rfl ?_;exact⟨(((V.out.trans (Zn (Zd _ _ _ _) V.out.size (DP _))).trans (Zn (Zd _ _ _ _) (by simpa using V.out.size) (DP _))).trans (Zn (Zd _ _ _ _) (by simpa using V.out.size) (DP _))).trans (Zn (Zd _ _ _ _) (by simpa using V.out.size) (DP _)),.inl ⟨d3.out,9,AC,rfl⟩⟩
 clear ju;have gp:Hid ((prog.info? 91).map (λi=>(i.zero,i.size,i.bytes))=some (some (.agg #[.string ByteArray.empty,.int .i64 0,.int .i64 0]),3,32)):=LH AB;have g2:Hid ((g.alloc (.cells #[] 91)).ownsRow g.heap.size 91 3 (.slice (some ⟨g.heap.size,0,none⟩) 0 0) 0 []):=LH (World.ownsRow_made g #[] 0 (AJ _) (AV _) rfl);have cu:=LH (Zy g (.cells #[] 91));have d5:=LH (D4 ((Hg.out.below V.out).below cu.out).terms);have g0:Hid ((V8 G.terms).length=n1*3):=LH (by rw[Ff,e1]);have ma:(g.alloc (.cells #[] 91)).heap.size=g.heap.size+1:=Zl _ _;go_upto_region 6 with fail;go_upto_region 7 with (at_builtin;refine Zz6 rfl _ _ 22 rfl g.heap.size 91 _ 3 32 underlying22 gp.out AC AC (some ⟨g.heap.size,0,none⟩) 0 0 [] rfl g2.out a1 n1 c1 (V8 G.terms) g0.out rfl d5.out.1 d5.out.2 (Zuz _) AA AA AA ?_;intro E H w9 o f C;simp only[BH,DD] at o f C);have ff:Below g.heap.size g w9:=cu.out.trans (Zn f cu.out.size (AJ _));have fl:w9.ownsRow g.heap.size 91 3 (.slice E n1 H) n1 (V8 G.terms):=o;have h9:∀b,(Value.slice E n1 H).ownBlock=some b->b<w9.heap.size:=λb a=>(fl.lt b a).2;have h4:=Blk.new w9 26 #[.slice E n1 H,.slice none 0 0,.slice none 0 0,.int .i64 0];have hn:=Zy w9 (.cells #[.slice E n1 H,.slice none 0 0,.slice none 0 0,.int .i64 0] 26);have ja:=fl.alloc (.cells #[.slice E n1 H,.slice none 0 0,.slice none 0 0,.int .i64 0] 26);have mb:g.heap.size<=w9.heap.size:=ff.size;have fx:(w9.alloc (.cells #[.slice E n1 H,.slice none 0 0,.slice none 0 0,.int .i64 0] 26)).heap.size=w9.heap.size+1:=Zl _ _;have fe:=ff.trans (hn.mono mb);generalize w9.alloc (.cells #[.slice E n1 H,.slice none 0 0,.slice none 0 0,.int .i64 0] 26)=b3 at *;generalize w9.heap.size=d at *;clear o f C fl hn ff g2 d5 g0 gp cu ma;have jf:=bm.out.below fe;have lz:=make_intsT n2 AA;clear y0 y1 y2 y3 y5;have⟨y5,y0,y1,y2,y3⟩:=jf;simp only[] at y0 y1 y2 y3;go_upto_region 8 with fail;have fk:=Blk.new b3 3 (ints .i64 (List.replicate n2 0)).toArray;have fh:=Zy b3 (.cells (ints .i64 (List.replicate n2 0)).toArray 3);have h5:=Blk.ext h4 fh;have jb:=ja.alloc (.cells (ints .i64 (List.replicate n2 0)).toArray 3);have mc:(b3.alloc (.cells (ints .i64 (List.replicate n2 0)).toArray 3)).heap.size=b3.heap.size+1:=Zl _ _;have hd:=fe.trans (fh.mono (by rw[fx];omega));generalize b3.alloc (.cells (ints .i64 (List.replicate n2 0)).toArray 3)=lf at *;rw[fx] at fk mc;have du:=LH hd;have kf:=LH fk;have gk:=LH h5;have gt:=LH jb;have cy:=LH h9;clear fk fh h4 h5 ja jb fe hd h9 jf lz y0 y1 y2 y3 y5 fx;go_wp2_with fail;go_loopw [9] (λi wr=>∃j:Nat,j<=n2/\i = .int .i64 (j:Int)/\Hid (Blk wr (d+1) 3 (ints .i64 (Nb n2 j)).toArray)/\Hid (Off (λk=>k=d+1) lf wr)) (λi _=>n2-(intOf i).toNat)
 case atStart=>exact⟨0,AV _,rfl,LH (by rw[fill_start];exact kf.out),LH (Off.refl _ _)⟩
 obtain⟨j,hj,rfl,HT,HO⟩:=hrel;by_cases ji:j<n2
 case pos =>
  have hc:=HT.out.cell j;obtain⟨v,hv⟩:∃v,(ints .i64 (Nb n2 j)).toArray[j]? = some v:=⟨_,Array.getElem?_eq_getElem (by simp[ints,fill_len hj,ji])⟩;rw[hv] at hc;have hf:=HT.out.frozen j;have hl:=HT.out.lt;have a8:Hid (Blk (wr.setCell ⟨d+1,j,none⟩ (.int .i64 (-1))) (d+1) 3 (ints .i64 (Nb n2 (j+1))).toArray):=LH (by
   have:=Blk.set HT.out j (.int .i64 (-1));rw[show (ints .i64 (Nb n2 j)).toArray.setIfInBounds j (.int .i64 (-1))=(ints .i64 (Nb n2 (j+1))).toArray by rw[<-fill_step ji];simp[ints,List.map_set]] at this;exact this)
  clear hv;go_wp2_with fail;go_roundw
  case rel=>exact⟨j+1,AA,AF,a8,LH (HO.out.trans (Off.of_set wr (d+1) j (.int .i64 (-1))) λ_ _ h=>h)⟩
  simp[intOf];omega
 as_aux_lemma =>
  obtain rfl:n2=j:=AA
  obtain⟨T,mg⟩:∃x,x=wr:=⟨wr,rfl⟩;subst mg;have me:=HO.out.size;have d6:Hid (Blk T (d+1) 3 (ints .i64 (toL n2 [])).toArray):=LH (by rw[toL_nil];have:=HT.out;rwa [fill_end] at this);have bi:Hid (Below g.heap.size g T):=LH (du.out.trans (HO.out.is_below (B:=g.heap.size) du.out.size λk I=>AA));have j8:=LH (Zz V.out bi.out);have gl:=LH (HO.out.blk gk.out AA);have gu:=LH (HO.out.row gt.out λb a h=>by have:=cy.out b a;omega);have nd:d+1<T.heap.size:=d6.out.lt;clear HT HO gk gt du me;go_wp2_with fail;go_loopw [10,11] (λkk i wz=>∃(q:Nat) (Z:Option Addr) (ck:Nat) (z:Option Addr) (A:Nat),q<=n3/\i = .int .i64 (q:Int)/\kk = .slice Z (ksN G q).length ck/\Hid (Red2 T d (d+1) n2 (.slice E n1 H) G wz Z ck z A (ksN G q) (Wu (Wj G q)))) (λ_ i _=>n3-(intOf i).toNat)
  case atStart=>exact⟨0,none,0,none,0,AV _,rfl,rfl,LH ⟨Off.refl _ _,d6.out,gl.out,BJ _ _ _ _,BJ _ _ _ _⟩⟩
  obtain⟨q,Z,ck,z,A,hq,rfl,rfl,m⟩:=hrel;have F:Hid (Below g.heap.size g wr):=LH (bi.out.trans (m.out.off.is_below bi.out.size λk I=>AA));have ao:=LH (Zz V.out F.out);have cc:=bm.out.below F.out;have⟨y5,y0,y1,y2,y3⟩:=cc;simp only[] at y0 y1 y2 y3;clear cc;by_cases cg:q<n3
  case pos =>
   as_aux_lemma =>
    obtain⟨bb,j1,r,Ar,cr,rfl,cb,Hr,q0,q1,q2,ch⟩:=Hg.out.rules.get cg;rw[<-ao.out.cell (by exact cb)] at q0 q1 q2;have a:bb<wr.heap.size:=AK cb ao.out.size;have db:=LH ch;have au:=AM Hr.out;obtain⟨l1,l2⟩:=aa.out.left r au;obtain⟨c,ce⟩:∃c:Nat,r.left=(c:Int):=⟨r.left.toNat,AA⟩;have bq:c<n2:=AA
    have c8:Hid (r.left.toNat=c):=LH AA;have ly:=aa.out.len r au;have bf:=aa.out.symB au;rw[e2] at bf;have d4:=LH bf;rw[ce] at q0;have ar:=Zy wr (.cells #[.int .i64 (c:Int),.slice Ar r.right.length cr,.int .i64 r.prec] 52);have ak:=Blk.new wr 52 #[.int .i64 (c:Int),.slice Ar r.right.length cr,.int .i64 r.prec];have a6:=LH (m.out.below ar);have dv:=LH (F.out.trans (ar.mono F.out.size));have gz:Hid (∀b,(Value.slice Z (ksN G q).length ck).ownBlock=some b->b<wr.heap.size):=LH λb a=>(m.out.kept.lt b a).2;have dp:d+1<wr.heap.size:=m.out.tos.lt;have nx:g.heap.size<=wr.heap.size:=F.out.size;clear bf l1 l2 ce au ch;go_upto_region 17 with fail;generalize wr.alloc (.cells #[.int .i64 (c:Int),.slice Ar r.right.length cr,.int .i64 r.prec] 52)=y at *;generalize wr.heap.size=M at *;have cz:=LH ak;clear ar ak m F ao q0 q1 q2 a y0 y1 y2 y3 y5;have x0:y.cell? ⟨M,0,none⟩=some (.int .i64 (c:Int)):=cz.out.cell 0;have x1:y.cell? ⟨M,1,none⟩=some (.slice Ar r.right.length cr):=cz.out.cell 1;have j5:=LH (Zz V.out dv.out);have lP:Hid ((Zt G).length=n2):=LH (by rw[Vx,e2]);have h6:Z8 y gP (Zt G):=Blk.ext gm.out dv.out;have h7:Z8 y gQ (Z5 G):=Blk.ext ke.out dv.out;have cQ:=h7.at (i:=c) (by rw[K9,e2];exact bq);have CA:=LH (rf_all Ar r.right.length cr gP n2 r.right (Zt G) true y (db.out.below j5.out) h6 lP.out AA d4.out);have c9:Hid (Ky (Zt G) (Z5 G) r=((Z5 G).getD c false&&Xj true (Zt G) r.right)):=LH (by unfold Ky;rw[c8.out]);have bz:Hid (Ky (Zt G) (Z5 G) r=false->ksN G (q+1)=ksN G q/\Wj G (q+1)=Wj G q):=LH (ksN_no Hr.out);have g4:Hid (Ky (Zt G) (Z5 G) r=true->ksN G (q+1)=ksN G q++[q]/\Wj G (q+1)=Wj G q++[r]):=LH (Zts Hr.out);generalize (Z5 G).getD c false=qv at *;generalize Xj true (Zt G) r.right=av at *;clear h6 h7;rcases qv with _ | _
    ·obtain⟨e4,e5⟩:=bz.out (by rw[c9.out];rfl);have E4:=LH e4;have E5:=LH e5;clear e4 e5;go_wp2_with fail;go_roundw
     case rel=>exact⟨q+1,Z,ck,z,A,AA,AF,by rw[E4.out],LH (by rw[E4.out,E5.out];exact a6.out)⟩
     simp[intOf];omega
    rcases av with _ | _
    ·obtain⟨e4,e5⟩:=bz.out (by rw[c9.out];rfl);have E4:=LH e4;have E5:=LH e5;clear e4 e5;go_wp2_with (go_at_call 111;(with_reducible refine CA.out.mono ?_);rintro e w'⟨rfl,rfl⟩);go_roundw
     case rel=>exact⟨q+1,Z,ck,z,A,AA,AF,by rw[E4.out],LH (by rw[E4.out,E5.out];exact a6.out)⟩
     simp[intOf];omega
    obtain⟨e4,e5⟩:=g4.out (by rw[c9.out];rfl);have E4:=LH e4;have E6:Hid (Wu (Wj G (q+1))=N3 (Wu (Wj G q)) c):=LH (by rw[e5,Vs,c8.out]);clear e4 e5 bz g4 c9;have bx:Hid ((prog.info? 3).map (λi=>(i.zero,i.size,i.bytes))=some (some (.int .i64 0),1,8)):=LH Tryz.infoInt;have jm:=Zu9 G q;have jc:T.heap.size<=y.heap.size:=a6.out.off.size;have l5:=Zsg G aa.out q;rw[e2] at l5;generalize ksN G q=ks at *;generalize Wu (Wj G q)=t at *;by_cases be:c∈t
    case pos =>
     as_aux_lemma =>
      obtain⟨kk,lv,lw,jj⟩:∃k,k<t.length/\t[k]? = some c/\toI t c=(k:Int):=by
       obtain⟨k,I⟩:∃k:Nat,toI t c=(k:Int):=⟨(toI t c).toNat,by have h1:=Df t c;have h2:¬toI t c<0:=λh=>Bx.1 h be;omega⟩;unfold toI at I ⊢;obtain⟨x,hx,hp,_⟩:=Fb I;have:x=c:=by simpa using hp
       subst this;exact⟨k,(AO.1 hx).1,hx,I⟩
      have a8:Hid (N3 t c=t):=LH (by unfold N3;rw[if_pos be]);have kt:=LH jj;clear be lv lw jj;go_wp2_with (first
       | (go_at_call 111;(with_reducible refine CA.out.mono ?_);rintro e w'⟨rfl,rfl⟩)
       | (at_builtin;refine Ye rfl _ _ 27 rfl T.heap.size 3 _ 1 8 underlying27 bx.out AC AC Z ks.length ck (ints .i64 (Z6 ks)) rfl a6.out.kept [.int .i64 (q:Int)] rfl rfl (by simp[Value.oneCell']) AA AA AA ?_;intro A5 c5 D o f C
          have N:=LH (a6.out.put AA AA q A5 c5 o f);have az:=cz.out.grown f (by intro e;have:=gz.out M e.symm;omega);have mu:D.cell? ⟨M,0,none⟩=some (.int .i64 (c:Int)):=az.cell 0;have my:=az.lt;have ct:D.cell? ⟨d+1,c,none⟩=some (.int .i64 (kk:Int)):=by rw[N.out.tos.cell c];simp only[ints,DS,By];rw[Ji bq,kt.out];rfl
          have b8:=N.out.tos.lt;clear o f C az))
      go_roundw
      case rel=>exact⟨q+1,A5,c5,z,A,AA,AF,by rw[E4.out,AU];rfl,LH (by rw[E4.out,E6.out,a8.out];exact N.out)⟩
      simp[intOf];omega
    as_aux_lemma =>
     have a8:Hid (N3 t c=t++[c]):=LH (by unfold N3;rw[if_neg be]);have ld:Hid (toI t c=-1):=LH (Fw be);have kr:=LH be;have kq:Hid ((prog.info? 9).map (λi=>(i.zero,i.size,i.bytes))=some (some (.string ByteArray.empty),1,16)):=LH AB;clear be;go_upto_region 21 with (first
      | (go_at_call 111;(with_reducible refine CA.out.mono ?_);rintro e w'⟨rfl,rfl⟩)
      | (at_builtin;refine Ye rfl _ _ 27 rfl T.heap.size 3 _ 1 8 underlying27 bx.out AC AC Z ks.length ck (ints .i64 (Z6 ks)) rfl a6.out.kept [.int .i64 (q:Int)] rfl rfl (by simp[Value.oneCell']) AA AA AA ?_;intro A5 c5 D o f C
         have N:=LH (a6.out.put AA AA q A5 c5 o f);have az:=cz.out.grown f (by intro e;have:=gz.out M e.symm;omega);have mu:D.cell? ⟨M,0,none⟩=some (.int .i64 (c:Int)):=az.cell 0;have my:=az.lt;have ct:D.cell? ⟨d+1,c,none⟩=some (.int .i64 (-1)):=by rw[N.out.tos.cell c];simp only[ints,DS,By];rw[Ji bq,ld.out];rfl
         have m6:=N.out.tos.frozen c;have b8:=N.out.tos.lt;have co:D.cell? ⟨d,1,none⟩=some (.slice z t.length A):=N.out.out.cell 1;have ki:=LH az;clear o f C az))
     have bs:=Off.of_set D (d+1) c (.int .i64 (t.length:Int));have gi:Hid (Below g.heap.size g D):=LH (bi.out.trans (N.out.off.is_below bi.out.size λk I=>AA));have fg:Below g.heap.size g (D.setCell ⟨d+1,c,none⟩ (.int .i64 (t.length:Int))):=gi.out.trans (bs.is_below gi.out.size λk I=>AA);have je:=bm.out.below fg;have dk:=bs.blk N.out.out AA;have fn:=bs.blk ki.out AA;have hz:=bs.row N.out.nons λb a h=>by have:=(N.out.nons.lt b a).1;omega
     obtain⟨nb,no,nm,rfl,np,kz,m4⟩:=((Hg.out.below V.out).below fg).nons.get bq;have jt:nm=Ws G c:=by unfold Ws;rw[kz.out];rfl
     have k9:=LH λw6 A6 c6 o f=>Red2.name N.out AA AA AA kr.out (l:=c) (w1:=w6) A6 c6 o f;have n5:T.heap.size<=D.heap.size:=N.out.off.size;have n6:D.heap.size<=(D.setCell ⟨d+1,c,none⟩ (.int .i64 (t.length:Int))).heap.size:=bs.size;generalize D.setCell ⟨d+1,c,none⟩ (.int .i64 (t.length:Int))=ws at *;have⟨y5,y0,y1,y2,y3⟩:=je;simp only[] at y0 y1 y2 y3;have x0:ws.cell? ⟨M,0,none⟩=some (.int .i64 (c:Int)):=fn.cell 0;have om:=fn.lt;have co:ws.cell? ⟨d,1,none⟩=some (.slice (z) t.length A):=dk.cell 1;have lj:=dk.lt;have b9:Below ws.heap.size ws (ws.drew.alloc (.cells #[.string nm] 9)):=(AL ws.heap.size ws).drew.alloc (AJ _) _;have g1:Hid ((ws.drew.alloc (.cells #[.string nm] 9)).ownsRow T.heap.size 9 1 (.slice z t.length A) t.length (t.map λi=>Value.string (Ws G i))):=LH (M5 hz b9);have kc:=LH (Blk.ext dk b9);have j4:=LH b9;have lx:T.heap.size<=(ws.drew.alloc (.cells #[.string nm] 9)).heap.size:=by have:=b9.size;omega
     have k0:=LH jt;clear bs fg je dk fn hz jt b9;go_region_law (first
      | (refine V5 rfl _ _ 23 rfl T.heap.size 9 _ 1 16 underlying23 kq.out AC AC z t.length A (t.map λi=>Value.string (Ws G i)) (by simp[Act.eval,Act.put]) (by exact g1.out) ⟨ws.heap.size,0,none⟩ 1 1 [.string nm] rfl (by simp[Act.eval,Act.put]) (by exact Qn ws.drew [.string nm] _) (by simp[Value.oneCell']) AA AA (by exact lx) ?_;intro A6 c6 w6 o bp C
         have b6:=kc.out.grown bp (by intro e;have:=(g1.out.lt d e.symm).1;omega);have i1:w6.cell? ⟨d,1,none⟩=some (.slice z t.length A):=b6.cell 1;have i2:=b6.frozen 1;have HF:=LH (k9.out w6 A6 c6 (by rw[<-k0.out];exact o) (Zc (Xz _ j4.out) bp));clear b6 o bp C))
     all_goals
      go_wp2_with fail;go_roundw
      case rel=>exact⟨q+1,A5,c5,A6,c6,AA,AF,by rw[E4.out,AU];rfl,LH (by rw[E4.out,E6.out,a8.out];exact HF.out)⟩
      simp[intOf];omega
  as_aux_lemma =>
   obtain rfl:n3=q:=AA
   obtain⟨wC,mh⟩:∃x,x=wr:=⟨wr,rfl⟩;subst mh;have k5:Hid (Wu (Wj G n3)=Ze G):=LH (by rw[<-e3,Jp];rfl);have ft:=Mh G n3 AA;have jk:Wj G n3=Yh G:=by rw[<-e3,Jp]
   rw[jk] at ft;have jn:∀i,i∈ksN G n3->i<n3:=λi hi=>ks_lt hi;have nj:=Zu9 G n3;rw[k5.out] at m;have nn:(Ze G).length<=n2:=by have:=Zu7 aa.out;omega
   generalize jo:ksN G n3=ks at *;have kw:Hid (ksN G G.rules.length=ks):=LH (by rw[e3];exact jo);clear jo;have gv:=LH m.out.tos;have cw:=LH m.out.kept;have gj:=LH m.out.nons;have kh:=LH (m.out.off.row gu.out λb a h=>by have:=cy.out b a;omega);have lm:Hid (Zyu wC d (.slice E n1 H) (.slice z (Ze G).length A) wC none 0 []):=LH ⟨Off.refl _ _,m.out.out,[],BJ _ _ _ _,Kz.nil _ _⟩;have nf:d+1<wC.heap.size:=m.out.tos.lt;have ny:T.heap.size<=wC.heap.size:=m.out.off.size;have cv:=F;have gy:=LH ft;have ku:=LH jn;generalize js:ks.length=J at *;have ky:=LH js;have m1:Hid (S∈Ze G):=LH (by have:=Jm aa.out (by rw[b2.out];have:=d3.out;unfold Xp at this;rw[AS,b2.out] at this;exact this.2);rwa [b2.out] at this);have nv:g.heap.size<=wC.heap.size:=cv.out.size;clear m ft jk jn F ao js d6 bi j8 gl gu cg hq;have gn:Hid ((Yh G).length=J):=LH gy.out.1.symm;clear y0 y1 y2 y3 y5;have jh:=bm.out.below cv.out;have⟨y5,y0,y1,y2,y3⟩:=jh;simp only[] at y0 y1 y2 y3;clear jh;go_wp2_with fail;clear y0 y1 y2 y3 y5;go_loopw [13] (λi wz=>∃(q:Nat) (U:Option Addr) (Y:Nat),q<=J/\i = .int .i64 (q:Int)/\Hid (Zyu wC d (.slice E n1 H) (.slice z (Ze G).length A) wz U Y (((Yh G).take q).map (Wb (Ze G))))) (λi _=>J-(intOf i).toNat)
   case atStart=>exact⟨0,none,0,AV _,rfl,LH (by simpa using lm.out)⟩
   obtain⟨q,U,Y,hq,rfl,m⟩:=hrel;have F:Hid (Below g.heap.size g wr):=LH (cv.out.trans (m.out.off.is_below cv.out.size λk I=>AA));have ao:=LH (Zz V.out F.out);have cc:=bm.out.below F.out;have nz:wC.heap.size<=wr.heap.size:=m.out.off.size;have dq:(((Yh G).take q).map (Wb (Ze G))).length=q:=by rw[BF,BY,gn.out];omega
   have⟨y5,y0,y1,y2,y3⟩:=cc;simp only[] at y0 y1 y2 y3;clear cc;by_cases cg:q<J
   case pos =>
    as_aux_lemma =>
     obtain⟨i,hi⟩:∃i,ks[q]? = some i:=⟨_,AN (by rw[ky.out];exact cg)⟩;have lr:=ku.out i (AM hi);obtain⟨r,fv,fw⟩:=gy.out.2 q i hi;have hy:wr.ownsRow T.heap.size 3 1 (.slice Z J ck) J (ints .i64 (Z6 ks)):=m.out.off.row cw.out λb a h=>by have:=(cw.out.lt b a).1;omega
     have hu:Za .i64 wr Z J ck (Z6 ks):=Yl hy;obtain⟨kb,ko,kv,rfl,nh,kx,li⟩:=hu.get cg;obtain rfl:(i:Int)=kv:=by have h:=kx.out;rw[show (Z6 ks)[q]? = some (i:Int) by unfold Z6;rw[By,hi];rfl] at h;exact BI h
     obtain⟨bb,j1,r',Ar,cr,rfl,cb,Hr,q0,q1,q2,ch⟩:=Hg.out.rules.get lr;obtain rfl:r=r':=by have h:=Hr.out;rw[fv] at h;exact BI h
     rw[<-ao.out.cell (by exact cb)] at q0 q1 q2;have a:bb<wr.heap.size:=AK cb ao.out.size;have db:=LH ch;have au:=AM fv;have m0:Hid (r∈Yh G):=LH (AM fw);obtain⟨l1,l2⟩:=aa.out.left r au;obtain⟨c,ce⟩:∃c:Nat,r.left=(c:Int):=⟨r.left.toNat,AA⟩;have bq:c<n2:=AA
     have c8:Hid (r.left.toNat=c):=LH AA;have ly:=aa.out.len r au;have bf:=aa.out.symB au;rw[e2] at bf;have d4:=LH bf;rw[ce] at q0;have k8:=LH fw;clear bf l1 l2 ce au ch fw fv hi hy hu;go_upto_region 25 with fail;have ar:=Zy wr (.cells #[.int .i64 (c:Int),.slice Ar r.right.length cr,.int .i64 r.prec] 52);have ak:=Blk.new wr 52 #[.int .i64 (c:Int),.slice Ar r.right.length cr,.int .i64 r.prec];have br:(wr.alloc (.cells #[.int .i64 (c:Int),.slice Ar r.right.length cr,.int .i64 r.prec] 52)).heap.size=wr.heap.size+1:=Zl _ _;go_region
     replace ar:=ar.drew;replace ak:=Blk.drew ak;replace br:(wr.alloc (.cells #[.int .i64 (c:Int),.slice Ar r.right.length cr,.int .i64 r.prec] 52)).drew.heap.size=wr.heap.size+1:=br;generalize (wr.alloc (.cells #[.int .i64 (c:Int),.slice Ar r.right.length cr,.int .i64 r.prec] 52)).drew=y at *;have dl:Blk y (d+1) 3 (ints .i64 (toL n2 (Ze G))).toArray:=Blk.ext (m.out.off.blk gv.out AA) ar;have x0:y.cell? ⟨wr.heap.size,0,none⟩=some (.int .i64 (c:Int)):=ak.cell 0;have x2:y.cell? ⟨wr.heap.size,2,none⟩=some (.int .i64 r.prec):=ak.cell 2;have ct:y.cell? ⟨d+1,c,none⟩=some (.int .i64 (toI (Ze G) c)):=by rw[dl.cell c];simp only[ints,DS,By];rw[Ji bq];rfl
     have b8:=dl.lt;have mx:=ak.lt;have la:=LH br;clear br;have lc:Hid ((Wb (Ze G) r).left=toI (Ze G) c):=LH (by show toI (Ze G) r.left.toNat=_;rw[c8.out]);generalize toI (Ze G) c=tl at *;clear y0 y1 y2 y3 y5 q0 q1 q2 li a;go_upto_region 26 with fail;have bo:=Zy y (.cells #[.int .i64 tl,.slice none 0 0,.int .i64 r.prec] 52);have dm:=Blk.new y 52 #[.int .i64 tl,.slice none 0 0,.int .i64 r.prec];have jw:(y.alloc (.cells #[.int .i64 tl,.slice none 0 0,.int .i64 r.prec] 52)).heap.size=y.heap.size+1:=Zl _ _;go_region
     replace bo:=bo.drew;replace dm:=Blk.drew dm;replace jw:(y.alloc (.cells #[.int .i64 tl,.slice none 0 0,.int .i64 r.prec] 52)).drew.heap.size=y.heap.size+1:=jw;generalize (y.alloc (.cells #[.int .i64 tl,.slice none 0 0,.int .i64 r.prec] 52)).drew=WD at *;have kj:=LH (Blk.ext ak bo);have kg:=LH (Blk.ext dl bo);have kl:=LH dm;have dw:=LH (Zz ar bo);have j6:=LH (F.out.trans (dw.out.mono F.out.size));have j3:Hid (∀b,(Value.slice U (((Yh G).take q).map (Wb (Ze G))).length Y).ownBlock=some b->wC.heap.size<=b/\b<wr.heap.size):=LH λb a=>by obtain⟨cs,h3,_⟩:=m.out.rules;exact h3.lt b a
     generalize jc:y.heap.size=gY at *;generalize dp:wr.heap.size=M at *;have br:=la.out;obtain rfl:gY=M+1:=br;have mf:wr.heap.size<=WD.heap.size:=AA
     have j7:Hid (Below wr.heap.size wr WD):=LH (by rw[dp];exact dw.out);obtain⟨wE,mi⟩:∃x,x=wr:=⟨wr,rfl⟩;subst mi;have gx:=LH dp;have bx:Hid ((prog.info? 3).map (λi=>(i.zero,i.size,i.bytes))=some (some (.int .i64 0),1,8)):=LH Tryz.infoInt;have kp:Hid ((prog.info? 52).map (λi=>(i.zero,i.size,i.bytes))=some (some (.agg #[.int .i64 0,.slice none 0 0,.int .i64 0]),3,40)):=LH AB;have nw:g.heap.size<=M:=by have:=F.out.size;omega
     have m7:wC.heap.size<=M:=AA
     clear ar ak dl x0 x2 ct b8 mx bo dm dw jc dp;have na:=db.out.cap;go_wp2_with fail;go_loopw [16] (λi wz=>∃(kk:Nat) (O:Option Addr) (R:Nat),kk<=r.right.length/\i = .int .i64 (kk:Int)/\Hid (Off (λk=>k=M+1) WD wz)/\Hid (Blk wz (M+1) 52 #[.int .i64 tl,.slice O kk R,.int .i64 r.prec])/\Hid (wz.ownsRow WD.heap.size 3 1 (.slice O kk R) kk (ints .i64 ((r.right.take kk).map (Xd (Ze G)))))) (λi _=>r.right.length-(intOf i).toNat)
     case atStart=>exact⟨0,none,0,AV _,rfl,LH (Off.refl _ _),kl,LH (BJ _ _ _ _)⟩
     obtain⟨kk,O,R,ni,rfl,a5,HY,Ho⟩:=hrel;generalize ng:M+1=gY at *;have fo:=a5.out.blk kj.out AA;have x1:wr.cell? ⟨M,1,none⟩=some (.slice Ar r.right.length cr):=fo.cell 1;have xl:=fo.lt;have oo:wr.cell? ⟨gY,0,none⟩=some (.int .i64 tl):=HY.out.cell 0;have oq:wr.cell? ⟨gY,1,none⟩=some (.slice O kk R):=HY.out.cell 1;have os:wr.cell? ⟨gY,2,none⟩=some (.int .i64 r.prec):=HY.out.cell 2;have ot:=HY.out.lt;have ka:Hid (Below g.heap.size g wr):=LH (j6.out.trans (a5.out.is_below AA λk I=>AA));have j9:=LH (Zz V.out ka.out);have n4:WD.heap.size<=wr.heap.size:=a5.out.size;clear fo;by_cases jm:kk<r.right.length
     case pos =>
      obtain⟨sb,so,sv,rfl,nr,Hs,qs⟩:=(db.out.below j9.out).get jm;have l9:=d4.out sv (AM Hs.out);have da:Hid (ints .i64 ((r.right.take (kk+1)).map (Xd (Ze G)))=ints .i64 ((r.right.take kk).map (Xd (Ze G)))++[.int .i64 (Xd (Ze G) sv)]):=LH (by rw[Ya Hs.out];simp[ints]);by_cases h0:0<=sv
      ·as_aux_lemma =>
        have ci:Xd (Ze G) sv=sv:=by unfold Xd;rw[if_neg AA]
        have b0:=da;rw[ci] at b0;have l0:¬(sv<0):=AA
        clear ci da;go_wp2_with (first
         | (at_builtin;refine Ye rfl _ _ 27 rfl WD.heap.size 3 _ 1 8 underlying27 bx.out AC AC O kk R (ints .i64 ((r.right.take kk).map (Xd (Ze G)))) rfl Ho.out [.int .i64 sv] rfl rfl (by simp[Value.oneCell']) AA AA AA ?_;intro A5 c5 D o f C
            have b5:=HY.out.grown f (by intro e;have:=(Ho.out.lt gY e.symm).1;omega);have i1:D.cell? ⟨gY,1,none⟩=some (.slice O kk R):=b5.cell 1;have i2:=b5.frozen 1;have lh:=b5.lt;have d0:=LH b5;have bw:=LH o;have d2:=LH f;clear b5 o f C))
        go_roundw
        case rel =>
         refine⟨kk+1,A5,c5,AA,AF,LH (((a5.out.trans (Off.of_grown d2.out) λk I h=>?_).trans (Off.of_set _ _ _ _) λk _ h=>h)),LH (Blk.set d0.out 1 _),LH ?_⟩
         ·have:=(Ho.out.lt k h).1;omega
         rw[b0.out];exact (Off.of_set _ _ _ _).row bw.out λb a h=>by have:=(bw.out.lt b a).1;omega
        simp[intOf];omega
      as_aux_lemma =>
       obtain⟨jp,lu,jr,hw⟩:=Vy (s:=sv) (n:=n2) AA l9.1 AA;have ba:=a5.out.blk kg.out AA;have ct:wr.cell? ⟨d+1,jp,none⟩=some (.int .i64 (toI (Ze G) jp)):=by rw[ba.cell jp];simp only[ints,DS,By];rw[Ji lu];rfl
       have b8:=ba.lt;have ns:=Df (Ze G) jp;have ci:Xd (Ze G) sv=-1-toI (Ze G) jp:=by unfold Xd;rw[if_pos AA,jr]
       have nu:IntKind.i64.wrap (-1-toI (Ze G) jp)=-1-toI (Ze G) jp:=BS _ AA;have b0:=da;rw[ci] at b0;have l0:sv<0:=AA
       generalize toI (Ze G) jp=tj at *;clear ci ba da jr;go_wp2_with (first
        | (at_builtin;refine Ye rfl _ _ 27 rfl WD.heap.size 3 _ 1 8 underlying27 bx.out AC AC O kk R (ints .i64 ((r.right.take kk).map (Xd (Ze G)))) rfl Ho.out [.int .i64 (-1-tj)] rfl rfl (by simp[Value.oneCell']) AA AA AA ?_;intro A5 c5 D o f C
           have b5:=HY.out.grown f (by intro e;have:=(Ho.out.lt gY e.symm).1;omega);have i1:D.cell? ⟨gY,1,none⟩=some (.slice O kk R):=b5.cell 1;have i2:=b5.frozen 1;have lh:=b5.lt;have d0:=LH b5;have bw:=LH o;have d2:=LH f;clear b5 o f C))
       go_roundw
       case rel =>
        refine⟨kk+1,A5,c5,AA,AF,LH (((a5.out.trans (Off.of_grown d2.out) λk I h=>?_).trans (Off.of_set _ _ _ _) λk _ h=>h)),LH (Blk.set d0.out 1 _),LH ?_⟩
        ·have:=(Ho.out.lt k h).1;omega
        rw[b0.out];exact (Off.of_set _ _ _ _).row bw.out λb a h=>by have:=(bw.out.lt b a).1;omega
       simp[intOf];omega
     as_aux_lemma =>
      obtain rfl:r.right.length=kk:=AA
      have hm:Below wE.heap.size wE wr:=j7.out.trans (a5.out.is_below mf λk I=>by have:=gx.out;omega);have bv:=LH (m.out.below hm);obtain⟨cs,h3,fs⟩:=bv.out.rules;have H3:=LH h3;have co:wr.cell? ⟨d,2,none⟩=some (.slice U (((Yh G).take q).map (Wb (Ze G))).length Y):=bv.out.out.cell 2;have lj:=bv.out.out.lt;have kd:=LH bv.out.out;have k6:Hid (((Yh G).take (q+1)).map (Wb (Ze G))=((Yh G).take q).map (Wb (Ze G))++[Wb (Ze G) r]):=LH (by rw[Ya k8.out,DF];rfl);have hI:Za .i64 wr O r.right.length R (r.right.map (Xd (Ze G))):=by have:=Yl Ho.out;rwa [AR (AJ _)] at this
      have a8:=LH λw7 A7 c7 o f a=>Zyu.put bv.out AA (Wb (Ze G) r) (Ar:=O) (cr:=R) (by show Za .i64 wr O (r.right.map (Xd (Ze G))).length R (r.right.map (Xd (Ze G)));rw[BF];exact hI)
       (λb j1 a=>by have h1:=Ho.out.lt b (by rw[a];rfl);refine⟨h1.2,AA,λh=>?_⟩;have:=(j3.out b h).2;have:=gx.out;omega) (w1:=w7) A7 c7 o f a
      generalize ((Yh G).take q).map (Wb (Ze G))=rs at *;have n0:wC.heap.size<=wr.heap.size:=AA
      have nq:rs.length<60:=AA
      clear dq;clear h3 fs hm hI;go_wp2_with (first
       | (at_builtin;refine Ye rfl _ _ 24 rfl wC.heap.size 52 _ 3 40 underlying24 kp.out AC AC U rs.length Y cs rfl H3.out [.int .i64 tl,.slice O r.right.length R,.int .i64 r.prec] rfl rfl (by simp[Value.oneCell']) AA AA AA ?_;intro A7 c7 w7 o f C
          have b7:=kd.out.grown f (by intro e;have:=(H3.out.lt d e.symm).1;omega);have i1:w7.cell? ⟨d,2,none⟩=some (.slice U rs.length Y):=b7.cell 2;have i2:=b7.frozen 2;have m2:=b7.lt;have HF:=LH (a8.out w7 A7 c7 (λm5 h1=>by rw[Cx h1 H3.out];show w7.ownsRow _ _ _ _ _ (cs++[.int .i64 (Wb (Ze G) r).left,.slice O (r.right.map (Xd (Ze G))).length R,.int .i64 r.prec]);rw[lc.out,BF];exact o) f C);clear b7 o f C))
      go_roundw
      case rel=>exact⟨q+1,A7,c7,AA,AF,LH (by rw[k6.out];exact HF.out)⟩
      simp[intOf];omega
   as_aux_lemma =>
    obtain rfl:J=q:=AA
    have dy:=LH (m.out.off.row cw.out λb a h=>by have:=(cw.out.lt b a).1;omega);have jd:((Yh G).take J).map (Wb (Ze G))=(Yh G).map (Wb (Ze G)):=by rw[AR (by rw[gn.out];exact AJ _)]
    rw[jd] at m dq;have ba:=m.out.off.blk gv.out AA;have ct:wr.cell? ⟨d+1,S,none⟩=some (.int .i64 (toI (Ze G) S)):=by rw[ba.cell S];simp only[ints,DS,By];rw[Ji jx];rfl
    have b8:=ba.lt;have o0:wr.cell? ⟨d,0,none⟩=some (.slice E n1 H):=m.out.out.cell 0;have o1:wr.cell? ⟨d,1,none⟩=some (.slice z (Ze G).length A):=m.out.out.cell 1;have o2:wr.cell? ⟨d,2,none⟩=some (.slice U J Y):=by have:=m.out.out.cell 2;rw[dq] at this;exact this
    have o3:wr.cell? ⟨d,3,none⟩=some (.int .i64 0):=m.out.out.cell 3;have oe:=m.out.out.frozen 3;have ol:=m.out.out.lt;have aq:Blk wr (w.heap.size+1) 26 #[.slice none 0 0,.slice none 0 0,.slice none 0 0,.int .i64 0]:=Blk.ext W.out F.out;have r0:wr.cell? ⟨w.heap.size+1,0,none⟩=some (.slice none 0 0):=aq.cell 0;have r1:wr.cell? ⟨w.heap.size+1,1,none⟩=some (.slice none 0 0):=aq.cell 1;have r2:wr.cell? ⟨w.heap.size+1,2,none⟩=some (.slice none 0 0):=aq.cell 2;have r3:wr.cell? ⟨w.heap.size+1,3,none⟩=some (.int .i64 0):=aq.cell 3;have f0:=aq.frozen 0;have f1:=aq.frozen 1;have f2:=aq.frozen 2;have f3:=aq.frozen 3;have m9:=aq.lt;have m8:=W.out.lt;have ln:w.heap.size+1≠d:=AA
    have md:y3=y3:=rfl;clear md;rw[lb.out] at y3;have k7:Hid ((Zi G).start=toI (Ze G) S):=LH (by show toI (Ze G) G.start.toNat=_;rw[b2.out]);have fu:Xp G=true:=d3.out;have hH:=Gr.fits (Ju dc.out (by have:=fu;unfold Xp at this;rw[AS] at this;exact this.2));have k4:=LH fu;have mz:=LH hH;have fm:=m.out.off.row kh.out λb a h=>by have:=cy.out b a;omega
    have fi:=m.out.off.row gj.out λb a h=>by have:=(gj.out.lt b a).1;omega
    have bp:∀wF,Off (λk=>k=d\/k=w.heap.size+1) wr wF->Yf wF ⟨E,n1,H,z,(Ze G).length,A,U,J,Y⟩ (Zi G):=λwF cf=>by
     obtain⟨cs,h3,fs⟩:=m.out.rules;refine⟨Cr (cf.row fm λb a h=>by have h1:=cy.out b a;have h2:=(fm.lt b a).1;omega),?_,?_,λr hr s hs=>?_⟩
     ·have:=Yl (cf.row fi λb a h=>by have h1:=(fi.lt b a).1;omega);rw[show ((Ze G).map λi=>Value.string (Ws G i))=((Ze G).map (Ws G)).map Value.string by rw[List.map_map];rfl] at this;exact this
     ·have:=Cn (cf.row h3 λb a h=>by have h1:=(h3.lt b a).1;omega) (fs.keep cf.size λk I C=>⟨cf.keep k I λh=>by have h1:=C.1;omega,C⟩);rw[dq] at this;exact this
     have h1:=hH.sym r hr s hs;have h2:=hH.n2;have h3:=hH.n1;unfold U3;omega
    have kn:=LH bp;generalize toI (Ze G) S=ts at *;clear jd ba fm fi bp fu hH;go_wp2_with fail;have dj:=Off.of_set wr d 3 (.int .i64 ts);have s0:=Off.of_set (wr.setCell ⟨d,3,none⟩ (.int .i64 ts)) (w.heap.size+1) 0 (.slice E n1 H);have s1:=s0.trans (Off.of_set _ (w.heap.size+1) 1 (.slice z (Ze G).length A)) λ_ _ h=>h;have s2:=s1.trans (Off.of_set _ (w.heap.size+1) 2 (.slice U J Y)) λ_ _ h=>h;have s3:=s2.trans (Off.of_set _ (w.heap.size+1) 3 (.int .i64 ts)) λ_ _ h=>h;have bn:Below w.heap.size w (wr.setCell ⟨d,3,none⟩ (.int .i64 ts)):=ao.out.trans (dj.is_below ao.out.size λk I=>AA);have lo:Blk (wr.setCell ⟨d,3,none⟩ (.int .i64 ts)) (w.heap.size+1) 26 #[.slice none 0 0,.slice none 0 0,.slice none 0 0,.int .i64 0]:=dj.blk (Blk.ext W.out F.out) ln;refine AW (Yu (p:=2) (u:=3) (v:=4) AB _ _ (w.heap.size+1) 26 #[.slice E n1 H,.slice z (Ze G).length A,.slice U J Y,.int .i64 ts] (0,0) _ rfl (Blk.set (Blk.set (Blk.set (Blk.set lo 0 (.slice E n1 H)) 1 (.slice z (Ze G).length A)) 2 (.slice U J Y)) 3 (.int .i64 ts)) underlying26 rfl AB) rfl ?_;refine⟨bn.trans (s3.is_below bn.size λk I=>AA),.inr ⟨k4.out,⟨E,n1,H,z,(Ze G).length,A,U,J,Y⟩,Z,J,ck,?_,?_,jq,by simp only[];omega,by simp only[];omega,by rw[kw.out];exact Yl (s3.row (dj.row dy.out λb a h=>by have:=(dy.out.lt b a).1;omega) λb a h=>by have:=(dy.out.lt b a).1;omega)⟩⟩
    ·rw[k7.out];rfl
    exact kn.out _ ((offX dj s3))
theorem Zuv(h:GH)(G:Gr)(w:World)(c:Yf w h G)(h1:h.n1<=100)(a:h.n2<=100)(b:h.n3<=100):
 Calls prog 58 #[GV h G.start] w (Dh G w):=(Dk h G w c h1 a b).mono λe w' d=>d.plain
theorem Zw4(A:Option Addr)(n c:Nat)(xs:List Nat)(w:World)(h:Zq .u32 w A n c xs)(p:n<=1000000):
 Calls prog 209 #[.slice A n c] w (RetOwn w xs):=by
 have j:=h.len;subst j;have q:∀(A:Option Addr) (n c:Nat) (w:World),(binOp .eql 31 (.slice A n c) (.slice none 0 0)).run prog w = .ok (.bool A.isNone) w:=λA n c w=>Lib.run_eql_slice_nil w _ _ _ _ _ _ _ underlying31;rcases A with _ | m
 ·have h0:xs.length=0:=by
   rcases DJ xs.length with h0 | h0
   ·exact h0
   obtain⟨b,r,f,_⟩:=h.at_ h0;cases f
  obtain rfl:=BL h0;go_enter func209,ntmps209;go_wp2;go_ret;exact⟨none,0,rfl,BJ _ _ _ _,AL _ _⟩
 have d:=Zt0 w 49 0 [] rfl AA;have k:=h.sl.below ((AL _ _).alloc (AJ _) (.cells #[] 49));go_enter func209,ntmps209;go_wp2_with (at_builtin;refine Zxz rfl _ _ 31 rfl w 49 (.int .u32 0) 4 underlying31 Tryz.info34 rfl _ 0 0 [] rfl d _ xs.length c (nums .u32 xs) rfl k (nums_one _ _) AA AA AE ?_;intro l o w' a g);go_ret;simp only[BH,DD] at a;exact⟨_,_,rfl,a,X6 ((AL _ _).alloc (AJ _) _) g d AE⟩
theorem nat_sub_ok(v:Option Addr)(n c1:Nat)(xs:List Nat)(z:Option Addr)(m c2:Nat)(P:List Nat)(w:World)(h1:Zq .u32 w v n c1 xs)(d:Zq .u32 w z m c2 P)(r:Lim xs)(s:Lim P)(t:Zm xs=true)(N:Zm P=true)(R:val P<=val xs)(U:m<=n):
 Calls prog 181 #[.slice v n c1,.slice z m c2] w (Xr w (Mw xs P)):=by
 obtain rfl:=h1.len;obtain rfl:=d.len;have ai:xs.length<=32:=by simp[Zm] at t;omega
 have ab:decide (Vq xs P<0)=false:=by
  simp only[Vq,t,N,Bool.and_self,if_true,Vm];rw[if_neg AA];split <;> simp
 have G:Mw xs P=(limbs (val xs-val P),0):=by simp[Mw,t,N];omega
 rw[G];clear G;go_enter func181,ntmps181;go_wp2_with (first
  | (go_at_call 75;(with_reducible refine (Zb _ _ _ _ _ h1).mono ?_);rintro e w'⟨rfl,rfl⟩)
  | (go_at_call 75;(with_reducible refine (Zb _ _ _ _ _ d).mono ?_);rintro e w'⟨rfl,rfl⟩)
  | (go_at_call 76;(with_reducible refine (Zym _ _ _ _ _ _ _ _ _ h1 d r s).mono ?_);rintro e w1⟨rfl,b⟩)
  | (go_at_call 209;(with_reducible refine (Zw4 _ _ _ _ _ (h1.same b) AA).mono ?_);rintro e Y⟨A,c,rfl,a,q⟩))
 have I:=Bv a (base':=w.heap.size) (by rw[b.size];exact AJ _);have E:Below w w Y:=(b.below _).trans (q.mono (by rw[b.size];exact AJ _));clear a q b;go_loopw [7,28] (SubRel w A xs.length c xs P) (λ_ i _=>xs.length-(intOf i).toNat)
 case atStart=>exact⟨0,AV _,rfl,rfl,I,E⟩
 clear I E;obtain⟨k,hk,rfl,rfl,a,f⟩:=hrel;have F:=Qi xs P k;have o:=LH (Mj xs P k);by_cases h:k<xs.length
 ·obtain⟨g,u,rfl,H,ag,O,ad,af⟩:=Gh a h;obtain⟨x,Hx⟩:∃x,Hid (xs[k]? = some x):=⟨_,LH (AN h)⟩;have W:u = .int .u32 (x:Int):=by
   obtain⟨x',l,rfl⟩:=Zrz _ _ _ _ O.out;rw[Zsa _ _ _ _ o.out Hx.out] at l;injection l with l;rw[l]
  subst W;have L:=r.of_get Hx.out;by_cases S:k<P.length
  ·obtain⟨b2,o2,y,rfl,q,p,ae⟩:=(d.below f).get (j:=k) S;have X:=s.of_get p.out;go_wp2_with (go_at_call 210;(with_reducible refine (Dj x y _ _ L X F).mono ?_);rintro e w'⟨rfl,rfl⟩);go_roundw
   case rel =>
    refine⟨k+1,AA,AF,?_,?_,f.setCell H _⟩
    ·simp only[Xn,Yn Hx.out,Yn p.out]
    have:=Lt a k (.int .u32 (((4294967296+x-y-(Xn xs P k).2) % 4294967296:Nat):Int));rw[<-Be,Md _ xs k _ o.out h] at this;simpa [Xn,Hx.out,p.out] using this
   simp[intOf];omega
  have C:=LH (K8 (xs:=P) (j:=k) AA);go_wp2_with (go_at_call 210;(with_reducible refine (L7 x _ _ L F).mono ?_);rintro e w'⟨rfl,rfl⟩);go_roundw
  case rel =>
   refine⟨k+1,AA,AF,?_,?_,f.setCell H _⟩
   ·simp only[Xn,Yn Hx.out,C.out,Nat.sub_zero]
   have:=Lt a k (.int .u32 (((4294967296+x-0-(Xn xs P k).2) % 4294967296:Nat):Int));rw[<-Be,Md _ xs k _ o.out h] at this;have M:=C.out;rw[AP] at M;simpa [Xn,Hx.out,M] using this
  simp[intOf];omega
 obtain rfl:k=xs.length:=AA
 rw[List.drop_length,DH] at a;have V:Zq .u32 wr A xs.length c (Xn xs P xs.length).1:=Yl a;have J:=Zyj xs P r s xs.length (AJ _) U R;have T:=Gv xs P xs.length;have B:=LH (Vg _ T);rw[J] at B;have Z:=LH (Mj xs P xs.length);clear J;go_wp2_with (go_at_call 199;(with_reducible refine (Q3 _ _ _ _ _ V).mono ?_);rintro e w'⟨rfl,D,rfl⟩);go_ret2;rw[B.out] at D ⊢;exact⟨_,_,rfl,D,f⟩
theorem nat_sub(f:Option Addr)(n c1:Nat)(xs:List Nat)(g:Option Addr)(m c2:Nat)(t:List Nat)(w:World)(h1:Zq .u32 w f n c1 xs)(b:Zq .u32 w g m c2 t)(h:Lim xs)(j:Lim t):
 Calls prog 181 #[.slice f n c1,.slice g m c2] w (Xr w (Mw xs t)):=by
 by_cases d:Zm xs=true
 case neg =>
  have q:Zm xs=false:=by simpa using d
  have a:Mw xs t=([],1):=by simp[Mw,q]
  rw[a];clear a d;go_enter func181,ntmps181;go_wp2_with (first
   | (go_at_call 75;(with_reducible refine (Zb _ _ _ _ _ h1).mono ?_);rintro e w'⟨rfl,rfl⟩)
   | (go_at_call 75;(with_reducible refine (Zb _ _ _ _ _ b).mono ?_);rintro e w'⟨rfl,rfl⟩))
  go_ret2;exact⟨none,0,rfl,Zq.nil _ _ _ _ AE,AL _ _⟩
 by_cases c:Zm t=true
 case neg =>
  have r:Zm t=false:=by simpa using c
  have a:Mw xs t=([],1):=by simp[Mw,r]
  rw[a];clear a c;go_enter func181,ntmps181;go_wp2_with (first
   | (go_at_call 75;(with_reducible refine (Zb _ _ _ _ _ h1).mono ?_);rintro e w'⟨rfl,rfl⟩)
   | (go_at_call 75;(with_reducible refine (Zb _ _ _ _ _ b).mono ?_);rintro e w'⟨rfl,rfl⟩))
  go_ret2;exact⟨none,0,rfl,Zq.nil _ _ _ _ AE,AL _ _⟩
 by_cases k:val t<=val xs
 ·refine nat_sub_ok f n c1 xs g m c2 t w h1 b h j d c k ?_;rcases BC n m with o | l
  ·have:=Qu xs t h j (X8 t c) (by rw[h1.len,b.len];exact o);omega
  exact l
 have s:decide (Vq xs t<0)=true:=by
  simp only[Vq,d,c,Bool.and_self,if_true,Vm];rw[if_pos AA];simp
 have a:Mw xs t=([],11):=by simp[Mw,d,c];omega
 rw[a];clear a;go_enter func181,ntmps181;go_wp2_with (first
  | (go_at_call 75;(with_reducible refine (Zb _ _ _ _ _ h1).mono ?_);rintro e w'⟨rfl,rfl⟩)
  | (go_at_call 75;(with_reducible refine (Zb _ _ _ _ _ b).mono ?_);rintro e w'⟨rfl,rfl⟩)
  | (go_at_call 76;(with_reducible refine (Zym _ _ _ _ _ _ _ _ _ h1 b h j).mono ?_);rintro e w1⟨rfl,p⟩))
 go_ret2;exact⟨none,0,rfl,Zq.nil _ _ _ _ AE,p.below _⟩
theorem Zw7(h:Option Addr)(n c1:Nat)(xs:List Nat)(bit:Nat)(w:World)(h1:Zq .u32 w h n c1 xs)(q:Lim xs)(t:bit<=1)(L:n<=1000):
 Calls prog 212 #[.slice h n c1,.int .u32 (bit:Int)] w (RetNew w (limbs (2*val xs+bit))):=by
 obtain rfl:=h1.len;have p:=run_make_cap (P:=prog) 31 49 .u32 4 underlying31 Tryz.info34 (xs.length+1) AA AA;have B:∀w:World,(Instr.makeSlice 31 (.int .i64 0) (.int .i64 ((xs.length:Int)+1))).run prog w = .ok (.slice (some ⟨w,0,none⟩) 0 (xs.length+1)) (w.alloc (.cells (nums .u32 (List.replicate (xs.length+1) 0)).toArray 49)):=p;clear p;go_enter func212,ntmps212;go_wp2;go_loopw [1,5,14] (TwRel w xs bit) (λ_ _ i _=>xs.length-(intOf i).toNat)
 case atStart=>exact⟨0,_,_,AV _,rfl,rfl,rfl,own_cap w _ .u32 (xs.length+1) _ AE AA,(AL _ _).alloc (AJ _) _⟩
 clear B;obtain⟨k,A,G,J,rfl,rfl,rfl,c,b⟩:=hrel;have u:=Ae xs bit t q k;have o:=b.size;by_cases z:k<xs.length
 ·obtain⟨F,N,x,rfl,H,Hx,I⟩:=(h1.below b).get (j:=k) z;have D:=q.of_get Hx.out;have M:=shl_or x (twP xs bit k).2 D u;go_wp2_with (at_builtin;refine Vc (w:=wr) rfl _ _ 31 rfl w 49 (.int .u32 0) 4 underlying31 Tryz.info34 rfl _ k _ _ rfl c _ rfl rfl AA AA AA ?_;intro d f r a g);go_roundw
  case rel =>
   refine⟨k+1,d,f,AA,AF,?_,rfl,?_,X6 b g c o⟩
   ·have e:x / 2147483648=(2*x+(twP xs bit k).2) / 4294967296:=AA
    simp only[twP,Yn Hx.out];rw[<-e];go_num
   have e:=Mi .u32 (twP xs bit k).1 ((2*x+(twP xs bit k).2) % 4294967296);simp only[twP,Yn Hx.out];rw[e];simpa using a
  simp[intOf];omega
 obtain rfl:k=xs.length:=AA
 have y:Lim ((twP xs bit xs.length).1++[(twP xs bit xs.length).2]):=(twP_lim xs bit xs.length).append (Lim.mk AA Lim.nil);have l:=LH (Vg _ y);rw[twP_all] at l;have E:=LH (Zye xs bit xs.length);have s:=LH (Mi .u32 (twP xs bit xs.length).1 (twP xs bit xs.length).2);go_wp2_with (first
  | (at_builtin;refine Vc (w:=wr) rfl _ _ 31 rfl w 49 (.int .u32 0) 4 underlying31 Tryz.info34 rfl _ xs.length _ _ rfl c _ rfl rfl AA AA AA ?_;intro d f r a g;rw[<-s.out] at a)
  | (go_at_call 199;have C:Zq .u32 r d (xs.length+1) f ((twP xs bit xs.length).1++[(twP xs bit xs.length).2]):=Yl a;(with_reducible refine (Q3 _ _ _ _ _ C).mono ?_);rintro e w'⟨rfl,m,rfl⟩))
 have v:=Zv3 a;go_ret;rw[l.out] at m ⊢;unfold RetNew;exact⟨_,_,rfl,m,X6 b g c o,v⟩
theorem nat_take(q:Option Addr)(n c1:Nat)(xs:List Nat)(r:Option Addr)(m c2:Nat)(P:List Nat)(w:World)(h1:Zq .u32 w q n c1 xs)(z:Zq .u32 w r m c2 P)(U:Lim xs)(V:Lim P)(hn:n<=1000):
 Calls prog 213 #[.slice q n c1,.slice r m c2] w (RetTake w xs P):=by
 obtain rfl:=h1.len;obtain rfl:=z.len;go_enter func213,ntmps213;go_wp2_with (go_at_call 209;(with_reducible refine (Zw4 _ _ _ _ _ h1 AA).mono ?_);rintro e w2⟨A,c,rfl,F,B⟩);go_loopw [7,14] (SubRel w A xs.length c xs P) (λ_ i _=>xs.length-(intOf i).toNat)
 case atStart=>exact⟨0,AV _,rfl,rfl,F,B⟩
 clear F B;obtain⟨k,hk,rfl,rfl,d,b⟩:=hrel;have C:=Qi xs P k;have l:=LH (Mj xs P k);by_cases f:k<xs.length
 ·obtain⟨g,u,rfl,D,ae,J,aa,ad⟩:=Gh d f;obtain⟨x,Hx⟩:∃x,Hid (xs[k]? = some x):=⟨_,LH (AN f)⟩;have R:u = .int .u32 (x:Int):=by
   obtain⟨x',h,rfl⟩:=Zrz _ _ _ _ J.out;rw[Zsa _ _ _ _ l.out Hx.out] at h;injection h with h;rw[h]
  subst R;have G:=U.of_get Hx.out;by_cases O:k<P.length
  ·obtain⟨X,o2,y,rfl,Z,o,ab⟩:=(z.below b).get (j:=k) O;have T:=V.of_get o.out;go_wp2_with (go_at_call 210;(with_reducible refine (Dj x y _ _ G T C).mono ?_);rintro e w'⟨rfl,rfl⟩);go_roundw
   case rel =>
    refine⟨k+1,AA,AF,?_,?_,b.setCell D _⟩
    ·simp only[Xn,Yn Hx.out,Yn o.out]
    have:=Lt d k (.int .u32 (((4294967296+x-y-(Xn xs P k).2) % 4294967296:Nat):Int));rw[<-Be,Md _ xs k _ l.out f] at this;simpa [Xn,Hx.out,o.out] using this
   simp[intOf];omega
  have s:=LH (K8 (xs:=P) (j:=k) AA);go_wp2_with (go_at_call 210;(with_reducible refine (L7 x _ _ G C).mono ?_);rintro e w'⟨rfl,rfl⟩);go_roundw
  case rel =>
   refine⟨k+1,AA,AF,?_,?_,b.setCell D _⟩
   ·simp only[Xn,Yn Hx.out,s.out,Nat.sub_zero]
   have:=Lt d k (.int .u32 (((4294967296+x-0-(Xn xs P k).2) % 4294967296:Nat):Int));rw[<-Be,Md _ xs k _ l.out f] at this;have I:=s.out;rw[AP] at I;simpa [Xn,Hx.out,I] using this
  simp[intOf];omega
 obtain rfl:k=xs.length:=AA
 rw[List.drop_length,DH] at d;have p:Zq .u32 wr A xs.length c (Xn xs P xs.length).1:=Yl d;have N:=Zv3 d;have H:∀v:Bool,v=decide ((Xn xs P xs.length).2=0/\P.length<=xs.length)->
  ∀w',Zq .u32 w' A (Xx (Xn xs P xs.length).1).length (Xx (Xn xs P xs.length).1).length (Xx (Xn xs P xs.length).1)->Below w w w'->
  RetTake w xs P (.returned (.tuple #[.slice A (Xx (Xn xs P xs.length).1).length (Xx (Xn xs P xs.length).1).length,.bool v])) w':=by
  intro v S w' a L;subst S;unfold RetTake;exact⟨_,_,rfl,a,L,N⟩
 have W:=LH (Mj xs P xs.length);generalize M:(Xn xs P xs.length).2=t at *;clear M;by_cases h0:t=0
 ·subst h0;by_cases E:P.length<=xs.length
  ·have hd:decide ((xs.length:Int) ≥ (P.length:Int))=true:=AG
   go_wp2_with (go_at_call 199;(with_reducible refine (Q3 _ _ _ _ _ p).mono ?_);rintro e w'⟨rfl,a,rfl⟩);go_ret2;exact H _ (by simp[E]) _ a b
  have hd:decide ((xs.length:Int) ≥ (P.length:Int))=false:=AG
  go_wp2_with (go_at_call 199;(with_reducible refine (Q3 _ _ _ _ _ p).mono ?_);rintro e w'⟨rfl,a,rfl⟩);go_ret2;exact H _ (by simp[E]) _ a b
 have Y:((t:Int)==0)=false:=by simp[h0]
 go_wp2_with (go_at_call 199;(with_reducible refine (Q3 _ _ _ _ _ p).mono ?_);rintro e w'⟨rfl,a,rfl⟩);go_ret2;exact H _ (by simp[h0]) _ a b
theorem nat_tk(f:Option Addr)(n c1:Nat)(xs:List Nat)(g:Option Addr)(m c2:Nat)(r:List Nat)(w:World)(h1:Zq .u32 w f n c1 xs)(j:Zq .u32 w g m c2 r)(a:Lim xs)(b:Lim r)(ty:Mo r)(q:n<=1000):
 Calls prog 213 #[.slice f n c1,.slice g m c2] w (RetTk w (val xs) (val r)):=by
 refine (nat_take _ _ _ _ _ _ _ _ _ h1 j a b q).mono ?_;intro e w' h;unfold RetTake at h;unfold RetTk;obtain⟨A,c,rfl,k,l,o⟩:=h;refine⟨A,c,_,?_,k,l,o,?_⟩
 ·have hd:decide ((Xn xs r xs.length).2=0/\r.length<=xs.length)=decide (val r<=val xs):=?_
  ·rw[hd]
  rw[decide_eq_decide];by_cases d:r.length<=xs.length
  ·rw[Zup xs r a b _ (AJ _) d];split <;> omega
  have:=Qu xs r a b ty AA;constructor
  ·intro h;omega
  intro h;omega
 refine LH λp=>?_;have d:r.length<=xs.length:=by
  rcases BC xs.length r.length with h | h
  ·have:=Qu xs r a b ty h;omega
  exact h
 rw[Vg _ (Gv xs r _),Zyj xs r a b _ (AJ _) d p]
theorem nat_quo(C:Option Addr)(n c1:Nat)(xs:List Nat)(D:Option Addr)(m c2:Nat)(ys:List Nat)(w:World)(h1:Zq .u32 w C n c1 xs)(p:Zq .u32 w D m c2 ys)(J:Lim xs)(ly:Lim ys):
 Calls prog 182 #[.slice C n c1,.slice D m c2] w (RetQuo w (M2 xs ys)):=by
 obtain rfl:=h1.len;obtain rfl:=p.len;by_cases N:Zm xs=true
 case neg =>
  have ca:Zm xs=false:=by simpa using N
  have l:M2 xs ys=([],[],1):=by simp[M2,ca]
  rw[l];clear l N;go_enter func182,ntmps182;go_wp2_with (first
   | (go_at_call 75;(with_reducible refine (Zb _ _ _ _ _ h1).mono ?_);rintro e w'⟨rfl,rfl⟩)
   | (go_at_call 75;(with_reducible refine (Zb _ _ _ _ _ p).mono ?_);rintro e w'⟨rfl,rfl⟩))
  go_ret3
  unfold RetQuo;exact⟨none,0,none,0,rfl,Zq.nil _ _ _ _ AE,Zq.nil _ _ _ _ AE,AL _ _⟩
 by_cases O:Zm ys=true
 case neg =>
  have cb:Zm ys=false:=by simpa using O
  have l:M2 xs ys=([],[],1):=by simp[M2,cb]
  rw[l];clear l O;go_enter func182,ntmps182;go_wp2_with (first
   | (go_at_call 75;(with_reducible refine (Zb _ _ _ _ _ h1).mono ?_);rintro e w'⟨rfl,rfl⟩)
   | (go_at_call 75;(with_reducible refine (Zb _ _ _ _ _ p).mono ?_);rintro e w'⟨rfl,rfl⟩))
  go_ret3
  unfold RetQuo;exact⟨none,0,none,0,rfl,Zq.nil _ _ _ _ AE,Zq.nil _ _ _ _ AE,AL _ _⟩
 by_cases y:ys.length=0
 ·have l:M2 xs ys=([],[],1):=by simp[M2,y]
  rw[l];clear l;have b8:((ys.length:Int)==0)=true:=by simp[y]
  clear y;go_enter func182,ntmps182;go_wp2_with (first
   | (go_at_call 75;(with_reducible refine (Zb _ _ _ _ _ h1).mono ?_);rintro e w'⟨rfl,rfl⟩)
   | (go_at_call 75;(with_reducible refine (Zb _ _ _ _ _ p).mono ?_);rintro e w'⟨rfl,rfl⟩))
  go_ret3
  unfold RetQuo;exact⟨none,0,none,0,rfl,Zq.nil _ _ _ _ AE,Zq.nil _ _ _ _ AE,AL _ _⟩
 have b8:((ys.length:Int)==0)=false:=by rw[AQ];omega
 have co:xs.length<=32:=by simp[Zm] at N;omega
 have ty:=X8 ys O;have aq:0<val ys:=by
  rcases DJ (val ys) with h | h
  ·have:=Mf ys ly ty;rw[h,Va] at this;rw[<-this] at y;simp at y
  exact h
 have bw:=Wm (P:=prog) 31 49 .u32 4 underlying31 Tryz.info34 xs.length AA AA;have l:M2 xs ys=(limbs (val xs / val ys),limbs (val xs % val ys),0):=by simp[M2,N,O,y]
 have a2:Zz9 xs=bitLen (val xs):=by simp[Zz9,N]
 have ch:bitLen (val xs)<=1024:=by
  rcases BC 1024 (bitLen (val xs)) with h | h
  ·have:=bit_in xs J 1024 h;omega
  exact h
 rw[l];have bh:=LH a2;clear l a2;go_enter func182,ntmps182;go_wp2_with (first
  | (go_at_call 75;(with_reducible refine (Zb _ _ _ _ _ h1).mono ?_);rintro e w'⟨rfl,rfl⟩)
  | (go_at_call 75;(with_reducible refine (Zb _ _ _ _ _ p).mono ?_);rintro e w'⟨rfl,rfl⟩)
  | (go_at_call 211;(with_reducible refine (nat_bits _ _ _ _ _ (h1.below ((AL _ _).alloc (AJ _) _)) J).mono ?_);rintro e w'⟨rfl,rfl⟩;rw[bh.out]))
 go_loopw [8,9] (QuoRel w xs (val ys)) (λ_ i _=>(intOf i+1).toNat)
 case atStart =>
  have hz:val xs / 2 ^ bitLen (val xs)=0:=Nat.div_eq_of_lt (bitLen_lt _);have e1:(List.replicate xs.length 0).length=xs.length:=AE
  have e2:val (List.replicate xs.length 0)=val xs / 2 ^ bitLen (val xs) / val ys*2 ^ bitLen (val xs):=by rw[hz,zz_val];simp
  have e3:[]=limbs (val xs / 2 ^ bitLen (val xs) % val ys):=by rw[hz,Nat.zero_mod,Va]
  exact⟨bitLen (val xs),none,0,List.replicate xs.length 0,[],rfl,AJ _,rfl,Zq.nil _ _ _ _ AE,(λ_ _ h=>by cases h),Own.new w 49 .u32 (List.replicate xs.length 0),(AL _ _).alloc (AJ _) _,
   LH e1,zz_lim _,LH e2,LH e3⟩
 clear bw;obtain⟨k,A,c,qs,o,rfl,hk,rfl,an,ck,W,q,E,I,S,U⟩:=hrel;have X:=W.lt;by_cases bv:0<k
 ·obtain⟨i,rfl⟩:∃i,k=i+1:=⟨k-1,AA⟩;clear bv;have a7:((i+1:Nat):Int)-1=(i:Int):=AA
  rw[a7];clear a7;have V:=bit_in xs J i AA;have R:=LH (bit_of xs J i);have ax:=LH (Zsy (val xs) (val ys) i aq);obtain⟨j,r,a8,hr⟩:∃j r,i=32*j+r/\r<32:=⟨i / 32,i % 32,AA,AA⟩;have hj:i / 32=j:=AA
  have am:i % 32=r:=AA
  rw[hj] at V R;rw[am] at R;have cm:(i:Int) / 32=(j:Int):=AA
  have cr:(i:Int) % 32=(r:Int):=AA
  have cd:=LH a8;have Hj:=LH hj;have Hr:=LH am;clear a8 hj am;obtain⟨b1,o1,u,rfl,cg,Hu,ci⟩:=(h1.below q).get (j:=j) V;have b6:=J.of_get Hu.out;have cq:(2:Int) ^ r=((2 ^ r:Nat):Int):=AE
  have cu:(u:Int) / ((2 ^ r:Nat):Int)=((u / 2 ^ r:Nat):Int):=AE
  have a6:=Yn (d:=0) Hu.out;have a3:u / 2 ^ r % 2=val xs / 2 ^ i % 2:=by have:=R.out;rwa [a6] at this
  have b9:u / 2 ^ r<4294967296:=Ev (Nat.div_le_self _ _) b6;have cf:bits .and .u32 ((u / 2 ^ r:Nat):Int) 1=((u / 2 ^ r % 2:Nat):Int):=by
   have:=u32_and_nat (u / 2 ^ r) 1 b9 AC;rw[show ((1:Nat):Int)=1 from rfl] at this;rw[this,Nat.and_one_is_mod]
  have a4:u / 2 ^ r % 2<=1:=AA
  generalize u / 2 ^ r=z at *;generalize bs:z % 2=bt at *;have bi:=LH a3;clear bs a3 a6 R;have ap:val o=val xs / 2 ^ (i+1) % val ys:=by rw[U.out,Yd]
  have lr:Lim o:=by rw[U.out];exact Z9 _
  have bb:val ys<4294967296 ^ 32:=by
   have h1:=Ui ys ly;have p:ys.length<=32:=by simp[Zm] at O;omega
   exact AK h1 (DA AC p)
  have cs:o.length<=32:=by
   rw[U.out,Vt];exact Nat.lt_trans (Nat.mod_lt _ aq) bb
  have Y:=ax.out;have cv:(limbs (2*val o+bt)).length<=33:=by
   rw[Vt,Nat.pow_succ];have:val o<val ys:=by rw[ap];exact Nat.mod_lt _ aq
   generalize (4294967296:Nat) ^ 32=B at *;omega
  have bn:=LH ap;simp only[] at Y;rw[<-bi.out,<-bn.out] at Y;have T:=LH Y;clear Y ax ap bb;obtain⟨s,ae⟩:∃s,Hid (qs[j]? = some s):=⟨_,LH (AN (by rw[E.out];exact V))⟩;have a9:=set_bit qs I i (by rw[Hj.out,E.out];exact V) _ S.out;rw[Hj.out,Hr.out,Yn ae.out] at a9;obtain⟨be,cx,bf⟩:=a9;have b3:=I.of_get ae.out;have bz:2 ^ r<4294967296:=by
   have:=Nat.pow_lt_pow_right (a:=2) AC hr;simpa using this
  have cp:bits .or .u32 (s:Int) ((2 ^ r:Nat):Int)=((s+2 ^ r:Nat):Int):=by
   rw[u32_or_nat _ _ b3 bz,be]
  generalize b0:(2:Nat) ^ r=M at *;have bm:=LH bf;clear b0 be bf;have ct:IntKind.u32.wrap (M:Int)=(M:Int):=by rw[IntKind.wrap_u32];omega
  have b1:(0:Int)<=(j:Int):=AA
  have b2:(j:Int)<(xs.length:Int):=AA
  by_cases x:val ys<=2*val o+bt
  ·have ai:decide (val ys<=2*val o+bt)=true:=by simpa using x
   have ad:=LH (T.out.1 x);have bj:=LH x;clear x T;generalize H:2*val o+bt=v2 at *;have af:=LH H;clear H;go_wp2_with (first
    | (go_at_call 212;(with_reducible refine (Zw7 _ _ _ _ bt _ an lr a4 AA).mono ?_);intro e w1 f;unfold RetNew at f;rw[af.out] at f;obtain⟨C,c3,rfl,Z,g,a5⟩:=f)
    | (go_at_call 213;(with_reducible refine (nat_tk _ _ _ _ _ _ _ _ _ Z ((p.below q).below g) (Z9 _) ly ty AA).mono ?_);intro e w2 f;unfold RetTk at f;rw[Yd,ai] at f;obtain⟨D,c4,ts,rfl,ht,t,aj,ay⟩:=f))
   have G:=(W.below g X).below t (AK X g.size);have cj:=own_cell G ae.out;have cl:=G.frozen j;have F:=q.size;have ah:=g.size;have hB:=(q.trans (g.mono F)).trans (t.mono (BD F ah));go_region
   go_wp2;go_roundw
   case rel =>
    obtain⟨ar,au⟩:=ad.out;have bu:=nums_far ht (B:=w.heap.size) (λb L h=>by have:=aj b L h;omega) j (.int .u32 ((s+M:Nat):Int));have b5:=G.set_ j (s+M);refine⟨i,D,c4,qs.set j (s+M),ts,AF,AA,rfl,bu.drew,λb L h=>?_,b5.drew,(hB.setCell AE _).drew,LH (by rw[List.length_set];exact E.out),?_,LH ?_,LH ?_⟩
    ·have:=aj b L h;omega
    ·intro v hv;rcases List.mem_or_eq_of_mem_set hv with h | h
     ·exact I v h
     omega
    ·rw[bm.out,S.out,au,Nat.pow_succ,Nat.add_mul,Nat.one_mul,<-DU,Ei _ 2,DU]
    rw[ay.out bj.out,ar]
   simp[intOf] <;> omega
  have ai:decide (val ys<=2*val o+bt)=false:=by simpa using x
  have ad:=LH (T.out.2 AA);clear x T;generalize H:2*val o+bt=v2 at *;have af:=LH H;clear H;go_wp2_with (first
   | (go_at_call 212;(with_reducible refine (Zw7 _ _ _ _ bt _ an lr a4 AA).mono ?_);intro e w1 f;unfold RetNew at f;rw[af.out] at f;obtain⟨C,c3,rfl,Z,g,a5⟩:=f)
   | (go_at_call 213;(with_reducible refine (nat_tk _ _ _ _ _ _ _ _ _ Z ((p.below q).below g) (Z9 _) ly ty AA).mono ?_);intro e w2 f;unfold RetTk at f;rw[Yd,ai] at f;obtain⟨D,c4,ts,rfl,ht,t,aj,ay⟩:=f))
  have G:=(W.below g X).below t (AK X g.size);have F:=q.size;have ah:=g.size;have hB:=(q.trans (g.mono F)).trans (t.mono (BD F ah));go_roundw
  case rel =>
   obtain⟨ar,au⟩:=ad.out;refine⟨i,C,c3,qs,limbs v2,AF,AA,rfl,Z.below t,λb L h=>?_,G,hB,E,I,LH ?_,LH ?_⟩
   ·have:=a5 b L h;omega
   ·rw[S.out,au,Nat.pow_succ,<-DU,Ei _ 2,DU]
   rw[ar]
  simp[intOf] <;> omega
 obtain rfl:k=0:=AA
 have bx:=W.nums (n:=xs.length) (c:=xs.length) E.out (AJ _) AA;have av:=LH (Vg _ I);have al:=S.out;rw[Nat.pow_zero,Nat.div_one,Ep] at al;rw[al] at av;have ao:=U.out;rw[Nat.pow_zero,Nat.div_one] at ao;have bl:=LH ao;clear al ao;go_wp2_with (go_at_call 199;(with_reducible refine (Q3 _ _ _ _ _ bx).mono ?_);rintro e w'⟨rfl,hN,rfl⟩);go_ret3
 rw[av.out] at hN ⊢;rw[<-bl.out];unfold RetQuo;exact⟨_,_,_,_,rfl,hN,an,q⟩
