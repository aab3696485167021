/- what is of use of a grammar: the reference's Reduce, walked. -/
import Derived.Test.YtggbjdmpjidhgaaGreatDoorV23
import Derived.Test.YtggbjdmpjidhgaaGreatDoorV24
set_option linter.all false
set_option maxHeartbeats 1500000
set_option maxRecDepth 100000
namespace Go.Proofs.YtggbjdmpjidhgaaGreatDoor
open Go.RowKit Go.Proofs.Tryz
variable{w:World}{G:Gr}{S:Nat->Prop}{ts:List ((List Int × Nat) × Nat)}{l:List Int}{n er':Nat}{o:List Nat}
set_option maxHeartbeats 8000000 in
theorem Dk(h:GH)(G:Gr)(w:World)(f:Yf w h G)(h1:h.n1<=100)(h2:h.n2<=100)(h3:h.n3<=100):
 Calls prog 58 #[GV h G.start] w (Zyo G w):=by
 obtain⟨a1,n1,c1,a2,n2,c2,a3,n3,c3⟩:=h;have e1:G.terms.length=n1:=f.terms.len;have e2:G.nons.length=n2:=f.nons.len;have e3:G.rules.length=n3:=f.rules.len;have k1:=f.terms.cap;have k2:=f.nons.cap;have k3:=f.rules.cap;simp only[] at h1 h2 h3 k1 k2 k3;have Hg:=LH f;have g9:=Zy w (.cells #[.slice a1 n1 c1,.slice a2 n2 c2,.slice a3 n3 c3,.int .i64 G.start] 26);have fq:=Y1.new w 26 ⟨a1,n1,c1,a2,n2,c2,a3,n3,c3⟩ G.start;clear f;go_enter func58,ntmps58;have⟨z5,z0,z1,z2,z3⟩:=fq;simp only[] at z0 z1 z2 z3;go_upto_region 1 with fail;have fp:=Zy (w.alloc (.cells #[.slice a1 n1 c1,.slice a2 n2 c2,.slice a3 n3 c3,.int .i64 G.start] 26)) (.cells #[.slice none 0 0,.slice none 0 0,.slice none 0 0,.int .i64 0] 26);have fj:=Blk.new (w.alloc (.cells #[.slice a1 n1 c1,.slice a2 n2 c2,.slice a3 n3 c3,.int .i64 G.start] 26)) 26 #[.slice none 0 0,.slice none 0 0,.slice none 0 0,.int .i64 0];have bn:=Zz g9 fp;have fr:=fq.below fp;have jy:(w.alloc (.cells #[.slice a1 n1 c1,.slice a2 n2 c2,.slice a3 n3 c3,.int .i64 G.start] 26)).heap.size=w.heap.size+1:=Zl _ _;generalize (w.alloc (.cells #[.slice a1 n1 c1,.slice a2 n2 c2,.slice a3 n3 c3,.int .i64 G.start] 26)).alloc (.cells #[.slice none 0 0,.slice none 0 0,.slice none 0 0,.int .i64 0] 26)=W1 at *;rw[jy] at fj;clear jy fp fq g9 z0 z1 z2 z3 z5;have h8:Hid (Blk W1 (w.heap.size+1) 26 #[.slice none 0 0,.slice none 0 0,.slice none 0 0,.int .i64 0]):=LH fj;have⟨y5,y0,y1,y2,y3⟩:=fr;simp only[] at y0 y1 y2 y3;go_wp2_with fail;(with_reducible refine (Jr ⟨a1,n1,c1,a2,n2,c2,a3,n3,c3⟩ G W1 (Hg.out.below bn) (by simp only[];omega) (by simp only[];omega) (by simp only[];omega)).mono ?_);rintro e L⟨rfl,dn⟩;have he:=Zz bn dn;have jg:=fr.below dn;have aj:Blk L (w.heap.size+1) 26 #[.slice none 0 0,.slice none 0 0,.slice none 0 0,.int .i64 0]:=Blk.ext h8.out dn;clear dn fr bn fj h8 y0 y1 y2 y3 y5;have r0:L.cell? ⟨w.heap.size+1,0,none⟩=some (.slice none 0 0):=aj.cell 0;have r1:L.cell? ⟨w.heap.size+1,1,none⟩=some (.slice none 0 0):=aj.cell 1;have r2:L.cell? ⟨w.heap.size+1,2,none⟩=some (.slice none 0 0):=aj.cell 2;have r3:L.cell? ⟨w.heap.size+1,3,none⟩=some (.int .i64 0):=aj.cell 3;have f0:=aj.frozen 0;have f1:=aj.frozen 1;have f2:=aj.frozen 2;have f3:=aj.frozen 3;have dz:=LH aj;have an:=LH he;have d1:=LH jg;clear aj he jg;rcases cj:G.right with _ | _
 case false =>
  have bz:Hid (Xp G=false):=LH (by unfold Xp;rw[cj];rfl);clear cj;go_wp2_with fail;refine AV (Yu (p:=2) (u:=3) (v:=4) AB _ _ (w.heap.size+1) 26 #[.slice none 0 0,.slice none 0 0,.slice none 0 0,.int .i64 0] (0,0) _ rfl ((((Blk.set (Blk.set (Blk.set (Blk.set dz.out 0 (.slice none 0 0)) 1 (.slice none 0 0)) 2 (.slice none 0 0)) 3 (.int .i64 0))))) underlying26 rfl AB) rfl ?_;exact⟨(((an.out.trans (Zn (Zd _ _ _ _) an.out.size (DR _))).trans (Zn (Zd _ _ _ _) (by simpa using an.out.size) (DR _))).trans (Zn (Zd _ _ _ _) (by simpa using an.out.size) (DR _))).trans (Zn (Zd _ _ _ _) (by simpa using an.out.size) (DR _)),.inl ⟨bz.out,1,AC,rfl⟩⟩
 have cd:=Gr.fits cj;have dc:=LH cj;have aa:=LH cd;have jq:=cd.n1;have l3:=cd.n2;have l4:=cd.n3;rw[e1] at jq;rw[e2] at l3;rw[e3] at l4;have⟨y5,y0,y1,y2,y3⟩:=d1.out;simp only[] at y0 y1 y2 y3;have HS:Hid (∀P,Below L.heap.size L P->P.cell? ⟨w.heap.size,0,none⟩=some (.slice a1 n1 c1)/\P.cell? ⟨w.heap.size,1,none⟩=some (.slice a2 n2 c2)/\P.cell? ⟨w.heap.size,2,none⟩=some (.slice a3 n3 c3)/\P.cell? ⟨w.heap.size,3,none⟩=some (.int .i64 G.start)/\Below L.heap.size L P):=LH λP a=>⟨by rw[a.cell (by exact y5)];exact y0,by rw[a.cell (by exact y5)];exact y1,by rw[a.cell (by exact y5)];exact y2,by rw[a.cell (by exact y5)];exact y3,a⟩;have CP:=LH λX (a:Below L.heap.size L X)=>(Qt ⟨a1,n1,c1,a2,n2,c2,a3,n3,c3⟩ G X ((Hg.out.below an.out).below a) (by simp only[];omega) (by simp only[];omega) (by simp only[];omega)).mono λe w' hh=>And.intro (Zz a hh.1) (And.intro (LH hh.1) (hh.2.resolve_left λhc=>by rw[dc.out] at hc;cases hc.1).2);have CR:=LH λX (a:Below L.heap.size L X)=>(Lw ⟨a1,n1,c1,a2,n2,c2,a3,n3,c3⟩ G X ((Hg.out.below an.out).below a) (by simp only[];omega) (by simp only[];omega) (by simp only[];omega)).mono λe w' hh=>And.intro (Zz a hh.1) (And.intro (LH hh.1) (hh.2.resolve_left λhc=>by rw[dc.out] at hc;cases hc.1).2);clear cj cd r0 r1 r2 r3 f0 f1 f2 f3;go_upto_region 3 with fail;go_region_held3 (λP=>P.cell? ⟨w.heap.size,0,none⟩=some (.slice a1 n1 c1)/\P.cell? ⟨w.heap.size,1,none⟩=some (.slice a2 n2 c2)/\P.cell? ⟨w.heap.size,2,none⟩=some (.slice a3 n3 c3)/\P.cell? ⟨w.heap.size,3,none⟩=some (.int .i64 G.start)/\Below L.heap.size L P)
  ((refine HS.out _ ?_;(repeat (first | assumption | exact AK _ _ | refine Below.drew ?_));done))
  (first
    | (go_at_call 109;with_reducible refine (CP.out _ (by (repeat (first | assumption | exact AK _ _ | refine Below.drew ?_)))).mono ?_;rintro e w7⟨lk,km,gP,lp,rfl,gr⟩)
    | (go_at_call 110;with_reducible refine (CR.out _ (by (repeat (first | assumption | exact AK _ _ | refine Below.drew ?_)))).mono ?_;rintro e g⟨di,gw,gQ,lq,rfl,gs⟩))
 rename_i ll;clear ll;have gm:Hid (Z8 g gP (Zt G)):=LH (Blk.hidden gr gw);have ke:Hid (Z8 g gQ (Z5 G)):=LH gs;have V:=LH (Zz an.out di);have bm:=LH (d1.out.below di);have W:Hid (Blk g (w.heap.size+1) 26 #[.slice none 0 0,.slice none 0 0,.slice none 0 0,.int .i64 0]):=LH (Blk.ext dz.out di);clear lk km lp gr di gw lq gs CP CR HS y0 y1 y2 y3 y5 dz an d1;have⟨y5,y0,y1,y2,y3⟩:=bm.out;simp only[] at y0 y1 y2 y3;obtain⟨S,fy⟩:∃S:Nat,G.start=(S:Int):=⟨G.start.toNat,by have:=aa.out.st;omega⟩;have jx:S<n2:=by have:=aa.out.st;omega
 have b2:Hid (G.start.toNat=S):=LH AA;have c0:=gm.out.at (i:=S) (by rw[Vx,e2];exact jx);have d3:Hid (Xp G=(Zt G).getD S false):=LH (by unfold Xp;rw[dc.out,b2.out];rfl);rw[fy] at y3;have lb:=LH fy;clear fy;generalize ju:(Zt G).getD S false=pv at *;rcases pv with _ | _
 case false =>
  have r0:g.cell? ⟨w.heap.size+1,0,none⟩=some (.slice none 0 0):=W.out.cell 0;have r1:g.cell? ⟨w.heap.size+1,1,none⟩=some (.slice none 0 0):=W.out.cell 1;have r2:g.cell? ⟨w.heap.size+1,2,none⟩=some (.slice none 0 0):=W.out.cell 2;have r3:g.cell? ⟨w.heap.size+1,3,none⟩=some (.int .i64 0):=W.out.cell 3;have f0:=W.out.frozen 0;have f1:=W.out.frozen 1;have f2:=W.out.frozen 2;have f3:=W.out.frozen 3;clear ju;go_wp2_with fail;refine AV (Yu (p:=2) (u:=3) (v:=4) AB _ _ (w.heap.size+1) 26 #[.slice none 0 0,.slice none 0 0,.slice none 0 0,.int .i64 0] (0,0) _ rfl ((((Blk.set (Blk.set (Blk.set (Blk.set W.out 0 (.slice none 0 0)) 1 (.slice none 0 0)) 2 (.slice none 0 0)) 3 (.int .i64 0))))) underlying26 rfl AB) rfl ?_;exact⟨(((V.out.trans (Zn (Zd _ _ _ _) V.out.size (DR _))).trans (Zn (Zd _ _ _ _) (by simpa using V.out.size) (DR _))).trans (Zn (Zd _ _ _ _) (by simpa using V.out.size) (DR _))).trans (Zn (Zd _ _ _ _) (by simpa using V.out.size) (DR _)),.inl ⟨d3.out,9,AC,rfl⟩⟩
 clear ju;have gp:Hid ((prog.info? 91).map (λi=>(i.zero,i.size,i.bytes))=some (some (.agg #[.string ByteArray.empty,.int .i64 0,.int .i64 0]),3,32)):=LH AB;have g2:Hid ((g.alloc (.cells #[] 91)).ownsRow g.heap.size 91 3 (.slice (some ⟨g.heap.size,0,none⟩) 0 0) 0 []):=LH (World.ownsRow_made g #[] 0 (AI _) (AU _) rfl);have cu:=LH (Zy g (.cells #[] 91));have d5:=LH (D4 ((Hg.out.below V.out).below cu.out).terms);have g0:Hid ((V8 G.terms).length=n1*3):=LH (by rw[Ff,e1]);have ma:(g.alloc (.cells #[] 91)).heap.size=g.heap.size+1:=Zl _ _;go_upto_region 6 with fail;go_upto_region 7 with (at_builtin;refine Zz6 rfl _ _ 22 rfl g.heap.size 91 _ 3 32 underlying22 gp.out AC AC (some ⟨g.heap.size,0,none⟩) 0 0 [] rfl g2.out a1 n1 c1 (V8 G.terms) g0.out rfl d5.out.1 d5.out.2 (Zuz _) AA AA AA ?_;intro E H w9 o f C;simp only[BH,DG] at o f C);have ff:Below g.heap.size g w9:=cu.out.trans (Zn f cu.out.size (AI _));have fl:w9.ownsRow g.heap.size 91 3 (.slice E n1 H) n1 (V8 G.terms):=o;have h9:∀b,(Value.slice E n1 H).ownBlock=some b->b<w9.heap.size:=λb a=>(fl.lt b a).2;have h4:=Blk.new w9 26 #[.slice E n1 H,.slice none 0 0,.slice none 0 0,.int .i64 0];have hn:=Zy w9 (.cells #[.slice E n1 H,.slice none 0 0,.slice none 0 0,.int .i64 0] 26);have ja:=fl.alloc (.cells #[.slice E n1 H,.slice none 0 0,.slice none 0 0,.int .i64 0] 26);have mb:g.heap.size<=w9.heap.size:=ff.size;have fx:(w9.alloc (.cells #[.slice E n1 H,.slice none 0 0,.slice none 0 0,.int .i64 0] 26)).heap.size=w9.heap.size+1:=Zl _ _;have fe:=ff.trans (hn.mono mb);generalize w9.alloc (.cells #[.slice E n1 H,.slice none 0 0,.slice none 0 0,.int .i64 0] 26)=b3 at *;generalize w9.heap.size=d at *;clear o f C fl hn ff g2 d5 g0 gp cu ma;have jf:=bm.out.below fe;have lz:=make_intsT n2 AA;clear y0 y1 y2 y3 y5;have⟨y5,y0,y1,y2,y3⟩:=jf;simp only[] at y0 y1 y2 y3;go_upto_region 8 with fail;have fk:=Blk.new b3 3 (ints .i64 (List.replicate n2 0)).toArray;have fh:=Zy b3 (.cells (ints .i64 (List.replicate n2 0)).toArray 3);have h5:=Blk.ext h4 fh;have jb:=ja.alloc (.cells (ints .i64 (List.replicate n2 0)).toArray 3);have mc:(b3.alloc (.cells (ints .i64 (List.replicate n2 0)).toArray 3)).heap.size=b3.heap.size+1:=Zl _ _;have hd:=fe.trans (fh.mono (by rw[fx];omega));generalize b3.alloc (.cells (ints .i64 (List.replicate n2 0)).toArray 3)=lf at *;rw[fx] at fk mc;have du:=LH hd;have kf:=LH fk;have gk:=LH h5;have gt:=LH jb;have cy:=LH h9;clear fk fh h4 h5 ja jb fe hd h9 jf lz y0 y1 y2 y3 y5 fx;go_wp2_with fail;go_loopw [9] (λi wr=>∃j:Nat,j<=n2/\i = .int .i64 (j:Int)/\Hid (Blk wr (d+1) 3 (ints .i64 (Nb n2 j)).toArray)/\Hid (Off (λk=>k=d+1) lf wr)) (λi _=>n2-(intOf i).toNat)
 case atStart=>exact⟨0,AU _,rfl,LH (by rw[fill_start];exact kf.out),LH (Off.refl _ _)⟩
 obtain⟨j,hj,rfl,HT,HO⟩:=hrel;by_cases ji:j<n2
 case pos =>
  have hc:=HT.out.cell j;obtain⟨v,hv⟩:∃v,(ints .i64 (Nb n2 j)).toArray[j]? = some v:=⟨_,Array.getElem?_eq_getElem (by simp[ints,fill_len hj,ji])⟩;rw[hv] at hc;have hf:=HT.out.frozen j;have hl:=HT.out.lt;have a8:Hid (Blk (wr.setCell ⟨d+1,j,none⟩ (.int .i64 (-1))) (d+1) 3 (ints .i64 (Nb n2 (j+1))).toArray):=LH (by
   have:=Blk.set HT.out j (.int .i64 (-1));rw[show (ints .i64 (Nb n2 j)).toArray.setIfInBounds j (.int .i64 (-1))=(ints .i64 (Nb n2 (j+1))).toArray by rw[<-fill_step ji];simp[ints,List.map_set]] at this;exact this)
  clear hv;go_wp2_with fail;go_roundw
  case rel=>exact⟨j+1,AA,AF,a8,LH (HO.out.trans (Off.of_set wr (d+1) j (.int .i64 (-1))) λ_ _ h=>h)⟩
  simp[intOf];omega
 as_aux_lemma =>
  obtain rfl:n2=j:=AA
  obtain⟨T,mg⟩:∃x,x=wr:=⟨wr,rfl⟩;subst mg;have me:=HO.out.size;have d6:Hid (Blk T (d+1) 3 (ints .i64 (toL n2 [])).toArray):=LH (by rw[toL_nil];have:=HT.out;rwa [fill_end] at this);have bi:Hid (Below g.heap.size g T):=LH (du.out.trans (HO.out.is_below (B:=g.heap.size) du.out.size λk I=>AA));have j8:=LH (Zz V.out bi.out);have gl:=LH (HO.out.blk gk.out AA);have gu:=LH (HO.out.row gt.out λb a h=>by have:=cy.out b a;omega);have nd:d+1<T.heap.size:=d6.out.lt;clear HT HO gk gt du me;go_wp2_with fail;go_loopw [10,11] (λkk i wz=>∃(q:Nat) (Z:Option Addr) (ck:Nat) (z:Option Addr) (A:Nat),q<=n3/\i = .int .i64 (q:Int)/\kk = .slice Z (ksN G q).length ck/\Hid (Red2 T d (d+1) n2 (.slice E n1 H) G wz Z ck z A (ksN G q) (Wu (Wj G q)))) (λ_ i _=>n3-(intOf i).toNat)
  case atStart=>exact⟨0,none,0,none,0,AU _,rfl,rfl,LH ⟨Off.refl _ _,d6.out,gl.out,BJ _ _ _ _,BJ _ _ _ _⟩⟩
  obtain⟨q,Z,ck,z,A,hq,rfl,rfl,m⟩:=hrel;have F:Hid (Below g.heap.size g wr):=LH (bi.out.trans (m.out.off.is_below bi.out.size λk I=>AA));have ao:=LH (Zz V.out F.out);have cc:=bm.out.below F.out;have⟨y5,y0,y1,y2,y3⟩:=cc;simp only[] at y0 y1 y2 y3;clear cc;by_cases cg:q<n3
  case pos =>
   as_aux_lemma =>
    obtain⟨bb,j1,r,Ar,cr,rfl,cb,Hr,q0,q1,q2,ch⟩:=Hg.out.rules.get cg;rw[<-ao.out.cell (by exact cb)] at q0 q1 q2;have a:bb<wr.heap.size:=AJ cb ao.out.size;have db:=LH ch;have au:=AL Hr.out;obtain⟨l1,l2⟩:=aa.out.left r au;obtain⟨c,ce⟩:∃c:Nat,r.left=(c:Int):=⟨r.left.toNat,AA⟩;have bq:c<n2:=AA
    have c8:Hid (r.left.toNat=c):=LH AA;have ly:=aa.out.len r au;have bf:=aa.out.symB au;rw[e2] at bf;have d4:=LH bf;rw[ce] at q0;have ar:=Zy wr (.cells #[.int .i64 (c:Int),.slice Ar r.right.length cr,.int .i64 r.prec] 52);have ak:=Blk.new wr 52 #[.int .i64 (c:Int),.slice Ar r.right.length cr,.int .i64 r.prec];have a6:=LH (m.out.below ar);have dv:=LH (F.out.trans (ar.mono F.out.size));have gz:Hid (∀b,(Value.slice Z (ksN G q).length ck).ownBlock=some b->b<wr.heap.size):=LH λb a=>(m.out.kept.lt b a).2;have dp:d+1<wr.heap.size:=m.out.tos.lt;have nx:g.heap.size<=wr.heap.size:=F.out.size;clear bf l1 l2 ce au ch;go_upto_region 17 with fail;generalize wr.alloc (.cells #[.int .i64 (c:Int),.slice Ar r.right.length cr,.int .i64 r.prec] 52)=y at *;generalize wr.heap.size=M at *;have cz:=LH ak;clear ar ak m F ao q0 q1 q2 a y0 y1 y2 y3 y5;have x0:y.cell? ⟨M,0,none⟩=some (.int .i64 (c:Int)):=cz.out.cell 0;have x1:y.cell? ⟨M,1,none⟩=some (.slice Ar r.right.length cr):=cz.out.cell 1;have j5:=LH (Zz V.out dv.out);have lP:Hid ((Zt G).length=n2):=LH (by rw[Vx,e2]);have h6:Z8 y gP (Zt G):=Blk.ext gm.out dv.out;have h7:Z8 y gQ (Z5 G):=Blk.ext ke.out dv.out;have cQ:=h7.at (i:=c) (by rw[K9,e2];exact bq);have CA:=LH (rf_all Ar r.right.length cr gP n2 r.right (Zt G) true y (db.out.below j5.out) h6 lP.out AA d4.out);have c9:Hid (Ky (Zt G) (Z5 G) r=((Z5 G).getD c false&&Xj true (Zt G) r.right)):=LH (by unfold Ky;rw[c8.out]);have bz:Hid (Ky (Zt G) (Z5 G) r=false->ksN G (q+1)=ksN G q/\Wj G (q+1)=Wj G q):=LH (ksN_no Hr.out);have g4:Hid (Ky (Zt G) (Z5 G) r=true->ksN G (q+1)=ksN G q++[q]/\Wj G (q+1)=Wj G q++[r]):=LH (Zts Hr.out);generalize (Z5 G).getD c false=qv at *;generalize Xj true (Zt G) r.right=av at *;clear h6 h7;rcases qv with _ | _
    ·obtain⟨e4,e5⟩:=bz.out (by rw[c9.out];rfl);have E4:=LH e4;have E5:=LH e5;clear e4 e5;go_wp2_with fail;go_roundw
     case rel=>exact⟨q+1,Z,ck,z,A,AA,AF,by rw[E4.out],LH (by rw[E4.out,E5.out];exact a6.out)⟩
     simp[intOf];omega
    rcases av with _ | _
    ·obtain⟨e4,e5⟩:=bz.out (by rw[c9.out];rfl);have E4:=LH e4;have E5:=LH e5;clear e4 e5;go_wp2_with (go_at_call 111;(with_reducible refine CA.out.mono ?_);rintro e w'⟨rfl,rfl⟩);go_roundw
     case rel=>exact⟨q+1,Z,ck,z,A,AA,AF,by rw[E4.out],LH (by rw[E4.out,E5.out];exact a6.out)⟩
     simp[intOf];omega
    obtain⟨e4,e5⟩:=g4.out (by rw[c9.out];rfl);have E4:=LH e4;have E6:Hid (Wu (Wj G (q+1))=N3 (Wu (Wj G q)) c):=LH (by rw[e5,Vs,c8.out]);clear e4 e5 bz g4 c9;have bx:Hid ((prog.info? 3).map (λi=>(i.zero,i.size,i.bytes))=some (some (.int .i64 0),1,8)):=LH Tryz.infoInt;have jm:=Zu9 G q;have jc:T.heap.size<=y.heap.size:=a6.out.off.size;have l5:=Zsg G aa.out q;rw[e2] at l5;generalize ksN G q=ks at *;generalize Wu (Wj G q)=t at *;by_cases be:c∈t
    case pos =>
     as_aux_lemma =>
      obtain⟨kk,lv,lw,jj⟩:∃k,k<t.length/\t[k]? = some c/\toI t c=(k:Int):=by
       obtain⟨k,I⟩:∃k:Nat,toI t c=(k:Int):=⟨(toI t c).toNat,by have h1:=Df t c;have h2:¬toI t c<0:=λh=>Bx.1 h be;omega⟩;unfold toI at I ⊢;obtain⟨x,hx,hp,_⟩:=Fb I;have:x=c:=by simpa using hp
       subst this;exact⟨k,(AN.1 hx).1,hx,I⟩
      have a8:Hid (N3 t c=t):=LH (by unfold N3;rw[if_pos be]);have kt:=LH jj;clear be lv lw jj;go_wp2_with (first
       | (go_at_call 111;(with_reducible refine CA.out.mono ?_);rintro e w'⟨rfl,rfl⟩)
       | (at_builtin;refine Ye rfl _ _ 27 rfl T.heap.size 3 _ 1 8 underlying27 bx.out AC AC Z ks.length ck (ints .i64 (Z6 ks)) rfl a6.out.kept [.int .i64 (q:Int)] rfl rfl (by simp[Value.oneCell']) AA AA AA ?_;intro A5 c5 D o f C
          have N:=LH (a6.out.put AA AA q A5 c5 o f);have az:=cz.out.grown f (by intro e;have:=gz.out M e.symm;omega);have mu:D.cell? ⟨M,0,none⟩=some (.int .i64 (c:Int)):=az.cell 0;have my:=az.lt;have ct:D.cell? ⟨d+1,c,none⟩=some (.int .i64 (kk:Int)):=by rw[N.out.tos.cell c];simp only[ints,DT,BA];rw[Ji bq,kt.out];rfl
          have b8:=N.out.tos.lt;clear o f C az))
      go_roundw
      case rel=>exact⟨q+1,A5,c5,z,A,AA,AF,by rw[E4.out,AS];rfl,LH (by rw[E4.out,E6.out,a8.out];exact N.out)⟩
      simp[intOf];omega
    as_aux_lemma =>
     have a8:Hid (N3 t c=t++[c]):=LH (by unfold N3;rw[if_neg be]);have ld:Hid (toI t c=-1):=LH (Fw be);have kr:=LH be;have kq:Hid ((prog.info? 9).map (λi=>(i.zero,i.size,i.bytes))=some (some (.string ByteArray.empty),1,16)):=LH AB;clear be;go_upto_region 21 with (first
      | (go_at_call 111;(with_reducible refine CA.out.mono ?_);rintro e w'⟨rfl,rfl⟩)
      | (at_builtin;refine Ye rfl _ _ 27 rfl T.heap.size 3 _ 1 8 underlying27 bx.out AC AC Z ks.length ck (ints .i64 (Z6 ks)) rfl a6.out.kept [.int .i64 (q:Int)] rfl rfl (by simp[Value.oneCell']) AA AA AA ?_;intro A5 c5 D o f C
         have N:=LH (a6.out.put AA AA q A5 c5 o f);have az:=cz.out.grown f (by intro e;have:=gz.out M e.symm;omega);have mu:D.cell? ⟨M,0,none⟩=some (.int .i64 (c:Int)):=az.cell 0;have my:=az.lt;have ct:D.cell? ⟨d+1,c,none⟩=some (.int .i64 (-1)):=by rw[N.out.tos.cell c];simp only[ints,DT,BA];rw[Ji bq,ld.out];rfl
         have m6:=N.out.tos.frozen c;have b8:=N.out.tos.lt;have co:D.cell? ⟨d,1,none⟩=some (.slice z t.length A):=N.out.out.cell 1;have ki:=LH az;clear o f C az))
     have bs:=Off.of_set D (d+1) c (.int .i64 (t.length:Int));have gi:Hid (Below g.heap.size g D):=LH (bi.out.trans (N.out.off.is_below bi.out.size λk I=>AA));have fg:Below g.heap.size g (D.setCell ⟨d+1,c,none⟩ (.int .i64 (t.length:Int))):=gi.out.trans (bs.is_below gi.out.size λk I=>AA);have je:=bm.out.below fg;have dk:=bs.blk N.out.out AA;have fn:=bs.blk ki.out AA;have hz:=bs.row N.out.nons λb a h=>by have:=(N.out.nons.lt b a).1;omega
     obtain⟨nb,no,nm,rfl,np,kz,m4⟩:=((Hg.out.below V.out).below fg).nons.get bq;have jt:nm=Ws G c:=by unfold Ws;rw[kz.out];rfl
     have k9:=LH λw6 A6 c6 o f=>Red2.name N.out AA AA AA kr.out (l:=c) (w1:=w6) A6 c6 o f;have n5:T.heap.size<=D.heap.size:=N.out.off.size;have n6:D.heap.size<=(D.setCell ⟨d+1,c,none⟩ (.int .i64 (t.length:Int))).heap.size:=bs.size;generalize D.setCell ⟨d+1,c,none⟩ (.int .i64 (t.length:Int))=ws at *;have⟨y5,y0,y1,y2,y3⟩:=je;simp only[] at y0 y1 y2 y3;have x0:ws.cell? ⟨M,0,none⟩=some (.int .i64 (c:Int)):=fn.cell 0;have om:=fn.lt;have co:ws.cell? ⟨d,1,none⟩=some (.slice (z) t.length A):=dk.cell 1;have lj:=dk.lt;have b9:Below ws.heap.size ws (ws.drew.alloc (.cells #[.string nm] 9)):=(AK ws.heap.size ws).drew.alloc (AI _) _;have g1:Hid ((ws.drew.alloc (.cells #[.string nm] 9)).ownsRow T.heap.size 9 1 (.slice z t.length A) t.length (t.map λi=>Value.string (Ws G i))):=LH (M5 hz b9);have kc:=LH (Blk.ext dk b9);have j4:=LH b9;have lx:T.heap.size<=(ws.drew.alloc (.cells #[.string nm] 9)).heap.size:=by have:=b9.size;omega
     have k0:=LH jt;clear bs fg je dk fn hz jt b9;go_region_law (first
      | (refine V5 rfl _ _ 23 rfl T.heap.size 9 _ 1 16 underlying23 kq.out AC AC z t.length A (t.map λi=>Value.string (Ws G i)) (by simp[Act.eval,Act.put]) (by exact g1.out) ⟨ws.heap.size,0,none⟩ 1 1 [.string nm] rfl (by simp[Act.eval,Act.put]) (by exact Qn ws.drew [.string nm] _) (by simp[Value.oneCell']) AA AA (by exact lx) ?_;intro A6 c6 w6 o bp C
         have b6:=kc.out.grown bp (by intro e;have:=(g1.out.lt d e.symm).1;omega);have i1:w6.cell? ⟨d,1,none⟩=some (.slice z t.length A):=b6.cell 1;have i2:=b6.frozen 1;have HF:=LH (k9.out w6 A6 c6 (by rw[<-k0.out];exact o) (Zc (Xz _ j4.out) bp));clear b6 o bp C))
     all_goals
      go_wp2_with fail;go_roundw
      case rel=>exact⟨q+1,A5,c5,A6,c6,AA,AF,by rw[E4.out,AS];rfl,LH (by rw[E4.out,E6.out,a8.out];exact HF.out)⟩
      simp[intOf];omega
  as_aux_lemma =>
   obtain rfl:n3=q:=AA
   obtain⟨wC,mh⟩:∃x,x=wr:=⟨wr,rfl⟩;subst mh;have k5:Hid (Wu (Wj G n3)=Ze G):=LH (by rw[<-e3,Jp];rfl);have ft:=Mh G n3 AA;have jk:Wj G n3=Yh G:=by rw[<-e3,Jp]
   rw[jk] at ft;have jn:∀i,i∈ksN G n3->i<n3:=λi hi=>ks_lt hi;have nj:=Zu9 G n3;rw[k5.out] at m;have nn:(Ze G).length<=n2:=by have:=Zu7 aa.out;omega
   generalize jo:ksN G n3=ks at *;have kw:Hid (ksN G G.rules.length=ks):=LH (by rw[e3];exact jo);clear jo;have gv:=LH m.out.tos;have cw:=LH m.out.kept;have gj:=LH m.out.nons;have kh:=LH (m.out.off.row gu.out λb a h=>by have:=cy.out b a;omega);have lm:Hid (Zyu wC d (.slice E n1 H) (.slice z (Ze G).length A) wC none 0 []):=LH ⟨Off.refl _ _,m.out.out,[],BJ _ _ _ _,Kz.nil _ _⟩;have nf:d+1<wC.heap.size:=m.out.tos.lt;have ny:T.heap.size<=wC.heap.size:=m.out.off.size;have cv:=F;have gy:=LH ft;have ku:=LH jn;generalize js:ks.length=J at *;have ky:=LH js;have m1:Hid (S∈Ze G):=LH (by have:=Jm aa.out (by rw[b2.out];have:=d3.out;unfold Xp at this;rw[AR,b2.out] at this;exact this.2);rwa [b2.out] at this);have nv:g.heap.size<=wC.heap.size:=cv.out.size;clear m ft jk jn F ao js d6 bi j8 gl gu cg hq;have gn:Hid ((Yh G).length=J):=LH gy.out.1.symm;clear y0 y1 y2 y3 y5;have jh:=bm.out.below cv.out;have⟨y5,y0,y1,y2,y3⟩:=jh;simp only[] at y0 y1 y2 y3;clear jh;go_wp2_with fail;clear y0 y1 y2 y3 y5;go_loopw [13] (λi wz=>∃(q:Nat) (U:Option Addr) (Y:Nat),q<=J/\i = .int .i64 (q:Int)/\Hid (Zyu wC d (.slice E n1 H) (.slice z (Ze G).length A) wz U Y (((Yh G).take q).map (Wb (Ze G))))) (λi _=>J-(intOf i).toNat)
   case atStart=>exact⟨0,none,0,AU _,rfl,LH (by simpa using lm.out)⟩
   obtain⟨q,U,Y,hq,rfl,m⟩:=hrel;have F:Hid (Below g.heap.size g wr):=LH (cv.out.trans (m.out.off.is_below cv.out.size λk I=>AA));have ao:=LH (Zz V.out F.out);have cc:=bm.out.below F.out;have nz:wC.heap.size<=wr.heap.size:=m.out.off.size;have dq:(((Yh G).take q).map (Wb (Ze G))).length=q:=by rw[BF,BY,gn.out];omega
   have⟨y5,y0,y1,y2,y3⟩:=cc;simp only[] at y0 y1 y2 y3;clear cc;by_cases cg:q<J
   case pos =>
    as_aux_lemma =>
     obtain⟨i,hi⟩:∃i,ks[q]? = some i:=⟨_,AM (by rw[ky.out];exact cg)⟩;have lr:=ku.out i (AL hi);obtain⟨r,fv,fw⟩:=gy.out.2 q i hi;have hy:wr.ownsRow T.heap.size 3 1 (.slice Z J ck) J (ints .i64 (Z6 ks)):=m.out.off.row cw.out λb a h=>by have:=(cw.out.lt b a).1;omega
     have hu:Za .i64 wr Z J ck (Z6 ks):=Yl hy;obtain⟨kb,ko,kv,rfl,nh,kx,li⟩:=hu.get cg;obtain rfl:(i:Int)=kv:=by have h:=kx.out;rw[show (Z6 ks)[q]? = some (i:Int) by unfold Z6;rw[BA,hi];rfl] at h;exact BI h
     obtain⟨bb,j1,r',Ar,cr,rfl,cb,Hr,q0,q1,q2,ch⟩:=Hg.out.rules.get lr;obtain rfl:r=r':=by have h:=Hr.out;rw[fv] at h;exact BI h
     rw[<-ao.out.cell (by exact cb)] at q0 q1 q2;have a:bb<wr.heap.size:=AJ cb ao.out.size;have db:=LH ch;have au:=AL fv;have m0:Hid (r∈Yh G):=LH (AL fw);obtain⟨l1,l2⟩:=aa.out.left r au;obtain⟨c,ce⟩:∃c:Nat,r.left=(c:Int):=⟨r.left.toNat,AA⟩;have bq:c<n2:=AA
     have c8:Hid (r.left.toNat=c):=LH AA;have ly:=aa.out.len r au;have bf:=aa.out.symB au;rw[e2] at bf;have d4:=LH bf;rw[ce] at q0;have k8:=LH fw;clear bf l1 l2 ce au ch fw fv hi hy hu;go_upto_region 25 with fail;have ar:=Zy wr (.cells #[.int .i64 (c:Int),.slice Ar r.right.length cr,.int .i64 r.prec] 52);have ak:=Blk.new wr 52 #[.int .i64 (c:Int),.slice Ar r.right.length cr,.int .i64 r.prec];have br:(wr.alloc (.cells #[.int .i64 (c:Int),.slice Ar r.right.length cr,.int .i64 r.prec] 52)).heap.size=wr.heap.size+1:=Zl _ _;go_region
     replace ar:=ar.drew;replace ak:=Blk.drew ak;replace br:(wr.alloc (.cells #[.int .i64 (c:Int),.slice Ar r.right.length cr,.int .i64 r.prec] 52)).drew.heap.size=wr.heap.size+1:=br;generalize (wr.alloc (.cells #[.int .i64 (c:Int),.slice Ar r.right.length cr,.int .i64 r.prec] 52)).drew=y at *;have dl:Blk y (d+1) 3 (ints .i64 (toL n2 (Ze G))).toArray:=Blk.ext (m.out.off.blk gv.out AA) ar;have x0:y.cell? ⟨wr.heap.size,0,none⟩=some (.int .i64 (c:Int)):=ak.cell 0;have x2:y.cell? ⟨wr.heap.size,2,none⟩=some (.int .i64 r.prec):=ak.cell 2;have ct:y.cell? ⟨d+1,c,none⟩=some (.int .i64 (toI (Ze G) c)):=by rw[dl.cell c];simp only[ints,DT,BA];rw[Ji bq];rfl
     have b8:=dl.lt;have mx:=ak.lt;have la:=LH br;clear br;have lc:Hid ((Wb (Ze G) r).left=toI (Ze G) c):=LH (by show toI (Ze G) r.left.toNat=_;rw[c8.out]);generalize toI (Ze G) c=tl at *;clear y0 y1 y2 y3 y5 q0 q1 q2 li a;go_upto_region 26 with fail;have bo:=Zy y (.cells #[.int .i64 tl,.slice none 0 0,.int .i64 r.prec] 52);have dm:=Blk.new y 52 #[.int .i64 tl,.slice none 0 0,.int .i64 r.prec];have jw:(y.alloc (.cells #[.int .i64 tl,.slice none 0 0,.int .i64 r.prec] 52)).heap.size=y.heap.size+1:=Zl _ _;go_region
     replace bo:=bo.drew;replace dm:=Blk.drew dm;replace jw:(y.alloc (.cells #[.int .i64 tl,.slice none 0 0,.int .i64 r.prec] 52)).drew.heap.size=y.heap.size+1:=jw;generalize (y.alloc (.cells #[.int .i64 tl,.slice none 0 0,.int .i64 r.prec] 52)).drew=WD at *;have kj:=LH (Blk.ext ak bo);have kg:=LH (Blk.ext dl bo);have kl:=LH dm;have dw:=LH (Zz ar bo);have j6:=LH (F.out.trans (dw.out.mono F.out.size));have j3:Hid (∀b,(Value.slice U (((Yh G).take q).map (Wb (Ze G))).length Y).ownBlock=some b->wC.heap.size<=b/\b<wr.heap.size):=LH λb a=>by obtain⟨cs,h3,_⟩:=m.out.rules;exact h3.lt b a
     generalize jc:y.heap.size=gY at *;generalize dp:wr.heap.size=M at *;have br:=la.out;obtain rfl:gY=M+1:=br;have mf:wr.heap.size<=WD.heap.size:=AA
     have j7:Hid (Below wr.heap.size wr WD):=LH (by rw[dp];exact dw.out);obtain⟨wE,mi⟩:∃x,x=wr:=⟨wr,rfl⟩;subst mi;have gx:=LH dp;have bx:Hid ((prog.info? 3).map (λi=>(i.zero,i.size,i.bytes))=some (some (.int .i64 0),1,8)):=LH Tryz.infoInt;have kp:Hid ((prog.info? 52).map (λi=>(i.zero,i.size,i.bytes))=some (some (.agg #[.int .i64 0,.slice none 0 0,.int .i64 0]),3,40)):=LH AB;have nw:g.heap.size<=M:=by have:=F.out.size;omega
     have m7:wC.heap.size<=M:=AA
     clear ar ak dl x0 x2 ct b8 mx bo dm dw jc dp;have na:=db.out.cap;go_wp2_with fail;go_loopw [16] (λi wz=>∃(kk:Nat) (O:Option Addr) (R:Nat),kk<=r.right.length/\i = .int .i64 (kk:Int)/\Hid (Off (λk=>k=M+1) WD wz)/\Hid (Blk wz (M+1) 52 #[.int .i64 tl,.slice O kk R,.int .i64 r.prec])/\Hid (wz.ownsRow WD.heap.size 3 1 (.slice O kk R) kk (ints .i64 ((r.right.take kk).map (Xd (Ze G)))))) (λi _=>r.right.length-(intOf i).toNat)
     case atStart=>exact⟨0,none,0,AU _,rfl,LH (Off.refl _ _),kl,LH (BJ _ _ _ _)⟩
     obtain⟨kk,O,R,ni,rfl,a5,HY,Ho⟩:=hrel;generalize ng:M+1=gY at *;have fo:=a5.out.blk kj.out AA;have x1:wr.cell? ⟨M,1,none⟩=some (.slice Ar r.right.length cr):=fo.cell 1;have xl:=fo.lt;have oo:wr.cell? ⟨gY,0,none⟩=some (.int .i64 tl):=HY.out.cell 0;have oq:wr.cell? ⟨gY,1,none⟩=some (.slice O kk R):=HY.out.cell 1;have os:wr.cell? ⟨gY,2,none⟩=some (.int .i64 r.prec):=HY.out.cell 2;have ot:=HY.out.lt;have ka:Hid (Below g.heap.size g wr):=LH (j6.out.trans (a5.out.is_below AA λk I=>AA));have j9:=LH (Zz V.out ka.out);have n4:WD.heap.size<=wr.heap.size:=a5.out.size;clear fo;by_cases jm:kk<r.right.length
     case pos =>
      obtain⟨sb,so,sv,rfl,nr,Hs,qs⟩:=(db.out.below j9.out).get jm;have l9:=d4.out sv (AL Hs.out);have da:Hid (ints .i64 ((r.right.take (kk+1)).map (Xd (Ze G)))=ints .i64 ((r.right.take kk).map (Xd (Ze G)))++[.int .i64 (Xd (Ze G) sv)]):=LH (by rw[Ya Hs.out];simp[ints]);by_cases h0:0<=sv
      ·as_aux_lemma =>
        have ci:Xd (Ze G) sv=sv:=by unfold Xd;rw[if_neg AA]
        have b0:=da;rw[ci] at b0;have l0:¬(sv<0):=AA
        clear ci da;go_wp2_with (first
         | (at_builtin;refine Ye rfl _ _ 27 rfl WD.heap.size 3 _ 1 8 underlying27 bx.out AC AC O kk R (ints .i64 ((r.right.take kk).map (Xd (Ze G)))) rfl Ho.out [.int .i64 sv] rfl rfl (by simp[Value.oneCell']) AA AA AA ?_;intro A5 c5 D o f C
            have b5:=HY.out.grown f (by intro e;have:=(Ho.out.lt gY e.symm).1;omega);have i1:D.cell? ⟨gY,1,none⟩=some (.slice O kk R):=b5.cell 1;have i2:=b5.frozen 1;have lh:=b5.lt;have d0:=LH b5;have bw:=LH o;have d2:=LH f;clear b5 o f C))
        go_roundw
        case rel =>
         refine⟨kk+1,A5,c5,AA,AF,LH (((a5.out.trans (Off.of_grown d2.out) λk I h=>?_).trans (Off.of_set _ _ _ _) λk _ h=>h)),LH (Blk.set d0.out 1 _),LH ?_⟩
         ·have:=(Ho.out.lt k h).1;omega
         rw[b0.out];exact (Off.of_set _ _ _ _).row bw.out λb a h=>by have:=(bw.out.lt b a).1;omega
        simp[intOf];omega
      as_aux_lemma =>
       obtain⟨jp,lu,jr,hw⟩:=Vy (s:=sv) (n:=n2) AA l9.1 AA;have ba:=a5.out.blk kg.out AA;have ct:wr.cell? ⟨d+1,jp,none⟩=some (.int .i64 (toI (Ze G) jp)):=by rw[ba.cell jp];simp only[ints,DT,BA];rw[Ji lu];rfl
       have b8:=ba.lt;have ns:=Df (Ze G) jp;have ci:Xd (Ze G) sv=-1-toI (Ze G) jp:=by unfold Xd;rw[if_pos AA,jr]
       have nu:IntKind.i64.wrap (-1-toI (Ze G) jp)=-1-toI (Ze G) jp:=BT _ AA;have b0:=da;rw[ci] at b0;have l0:sv<0:=AA
       generalize toI (Ze G) jp=tj at *;clear ci ba da jr;go_wp2_with (first
        | (at_builtin;refine Ye rfl _ _ 27 rfl WD.heap.size 3 _ 1 8 underlying27 bx.out AC AC O kk R (ints .i64 ((r.right.take kk).map (Xd (Ze G)))) rfl Ho.out [.int .i64 (-1-tj)] rfl rfl (by simp[Value.oneCell']) AA AA AA ?_;intro A5 c5 D o f C
           have b5:=HY.out.grown f (by intro e;have:=(Ho.out.lt gY e.symm).1;omega);have i1:D.cell? ⟨gY,1,none⟩=some (.slice O kk R):=b5.cell 1;have i2:=b5.frozen 1;have lh:=b5.lt;have d0:=LH b5;have bw:=LH o;have d2:=LH f;clear b5 o f C))
       go_roundw
       case rel =>
        refine⟨kk+1,A5,c5,AA,AF,LH (((a5.out.trans (Off.of_grown d2.out) λk I h=>?_).trans (Off.of_set _ _ _ _) λk _ h=>h)),LH (Blk.set d0.out 1 _),LH ?_⟩
        ·have:=(Ho.out.lt k h).1;omega
        rw[b0.out];exact (Off.of_set _ _ _ _).row bw.out λb a h=>by have:=(bw.out.lt b a).1;omega
       simp[intOf];omega
     as_aux_lemma =>
      obtain rfl:r.right.length=kk:=AA
      have hm:Below wE.heap.size wE wr:=j7.out.trans (a5.out.is_below mf λk I=>by have:=gx.out;omega);have bv:=LH (m.out.below hm);obtain⟨cs,h3,fs⟩:=bv.out.rules;have H3:=LH h3;have co:wr.cell? ⟨d,2,none⟩=some (.slice U (((Yh G).take q).map (Wb (Ze G))).length Y):=bv.out.out.cell 2;have lj:=bv.out.out.lt;have kd:=LH bv.out.out;have k6:Hid (((Yh G).take (q+1)).map (Wb (Ze G))=((Yh G).take q).map (Wb (Ze G))++[Wb (Ze G) r]):=LH (by rw[Ya k8.out,DI];rfl);have hI:Za .i64 wr O r.right.length R (r.right.map (Xd (Ze G))):=by have:=Yl Ho.out;rwa [AQ (AI _)] at this
      have a8:=LH λw7 A7 c7 o f a=>Zyu.put bv.out AA (Wb (Ze G) r) (Ar:=O) (cr:=R) (by show Za .i64 wr O (r.right.map (Xd (Ze G))).length R (r.right.map (Xd (Ze G)));rw[BF];exact hI)
       (λb j1 a=>by have h1:=Ho.out.lt b (by rw[a];rfl);refine⟨h1.2,AA,λh=>?_⟩;have:=(j3.out b h).2;have:=gx.out;omega) (w1:=w7) A7 c7 o f a
      generalize ((Yh G).take q).map (Wb (Ze G))=rs at *;have n0:wC.heap.size<=wr.heap.size:=AA
      have nq:rs.length<60:=AA
      clear dq;clear h3 fs hm hI;go_wp2_with (first
       | (at_builtin;refine Ye rfl _ _ 24 rfl wC.heap.size 52 _ 3 40 underlying24 kp.out AC AC U rs.length Y cs rfl H3.out [.int .i64 tl,.slice O r.right.length R,.int .i64 r.prec] rfl rfl (by simp[Value.oneCell']) AA AA AA ?_;intro A7 c7 w7 o f C
          have b7:=kd.out.grown f (by intro e;have:=(H3.out.lt d e.symm).1;omega);have i1:w7.cell? ⟨d,2,none⟩=some (.slice U rs.length Y):=b7.cell 2;have i2:=b7.frozen 2;have m2:=b7.lt;have HF:=LH (a8.out w7 A7 c7 (λm5 h1=>by rw[Cx h1 H3.out];show w7.ownsRow _ _ _ _ _ (cs++[.int .i64 (Wb (Ze G) r).left,.slice O (r.right.map (Xd (Ze G))).length R,.int .i64 r.prec]);rw[lc.out,BF];exact o) f C);clear b7 o f C))
      go_roundw
      case rel=>exact⟨q+1,A7,c7,AA,AF,LH (by rw[k6.out];exact HF.out)⟩
      simp[intOf];omega
   as_aux_lemma =>
    obtain rfl:J=q:=AA
    have dy:=LH (m.out.off.row cw.out λb a h=>by have:=(cw.out.lt b a).1;omega);have jd:((Yh G).take J).map (Wb (Ze G))=(Yh G).map (Wb (Ze G)):=by rw[AQ (by rw[gn.out];exact AI _)]
    rw[jd] at m dq;have ba:=m.out.off.blk gv.out AA;have ct:wr.cell? ⟨d+1,S,none⟩=some (.int .i64 (toI (Ze G) S)):=by rw[ba.cell S];simp only[ints,DT,BA];rw[Ji jx];rfl
    have b8:=ba.lt;have o0:wr.cell? ⟨d,0,none⟩=some (.slice E n1 H):=m.out.out.cell 0;have o1:wr.cell? ⟨d,1,none⟩=some (.slice z (Ze G).length A):=m.out.out.cell 1;have o2:wr.cell? ⟨d,2,none⟩=some (.slice U J Y):=by have:=m.out.out.cell 2;rw[dq] at this;exact this
    have o3:wr.cell? ⟨d,3,none⟩=some (.int .i64 0):=m.out.out.cell 3;have oe:=m.out.out.frozen 3;have ol:=m.out.out.lt;have aq:Blk wr (w.heap.size+1) 26 #[.slice none 0 0,.slice none 0 0,.slice none 0 0,.int .i64 0]:=Blk.ext W.out F.out;have r0:wr.cell? ⟨w.heap.size+1,0,none⟩=some (.slice none 0 0):=aq.cell 0;have r1:wr.cell? ⟨w.heap.size+1,1,none⟩=some (.slice none 0 0):=aq.cell 1;have r2:wr.cell? ⟨w.heap.size+1,2,none⟩=some (.slice none 0 0):=aq.cell 2;have r3:wr.cell? ⟨w.heap.size+1,3,none⟩=some (.int .i64 0):=aq.cell 3;have f0:=aq.frozen 0;have f1:=aq.frozen 1;have f2:=aq.frozen 2;have f3:=aq.frozen 3;have m9:=aq.lt;have m8:=W.out.lt;have ln:w.heap.size+1≠d:=AA
    have md:y3=y3:=rfl;clear md;rw[lb.out] at y3;have k7:Hid ((Zi G).start=toI (Ze G) S):=LH (by show toI (Ze G) G.start.toNat=_;rw[b2.out]);have fu:Xp G=true:=d3.out;have hH:=Gr.fits (Ju dc.out (by have:=fu;unfold Xp at this;rw[AR] at this;exact this.2));have k4:=LH fu;have mz:=LH hH;have fm:=m.out.off.row kh.out λb a h=>by have:=cy.out b a;omega
    have fi:=m.out.off.row gj.out λb a h=>by have:=(gj.out.lt b a).1;omega
    have bp:∀wF,Off (λk=>k=d\/k=w.heap.size+1) wr wF->Yf wF ⟨E,n1,H,z,(Ze G).length,A,U,J,Y⟩ (Zi G):=λwF cf=>by
     obtain⟨cs,h3,fs⟩:=m.out.rules;refine⟨Cr (cf.row fm λb a h=>by have h1:=cy.out b a;have h2:=(fm.lt b a).1;omega),?_,?_,λr hr s hs=>?_⟩
     ·have:=Yl (cf.row fi λb a h=>by have h1:=(fi.lt b a).1;omega);rw[show ((Ze G).map λi=>Value.string (Ws G i))=((Ze G).map (Ws G)).map Value.string by rw[List.map_map];rfl] at this;exact this
     ·have:=Cn (cf.row h3 λb a h=>by have h1:=(h3.lt b a).1;omega) (fs.keep cf.size λk I C=>⟨cf.keep k I λh=>by have h1:=C.1;omega,C⟩);rw[dq] at this;exact this
     have h1:=hH.sym r hr s hs;have h2:=hH.n2;have h3:=hH.n1;unfold U3;omega
    have kn:=LH bp;generalize toI (Ze G) S=ts at *;clear jd ba fm fi bp fu hH;go_wp2_with fail;have dj:=Off.of_set wr d 3 (.int .i64 ts);have s0:=Off.of_set (wr.setCell ⟨d,3,none⟩ (.int .i64 ts)) (w.heap.size+1) 0 (.slice E n1 H);have s1:=s0.trans (Off.of_set _ (w.heap.size+1) 1 (.slice z (Ze G).length A)) λ_ _ h=>h;have s2:=s1.trans (Off.of_set _ (w.heap.size+1) 2 (.slice U J Y)) λ_ _ h=>h;have s3:=s2.trans (Off.of_set _ (w.heap.size+1) 3 (.int .i64 ts)) λ_ _ h=>h;have bn:Below w.heap.size w (wr.setCell ⟨d,3,none⟩ (.int .i64 ts)):=ao.out.trans (dj.is_below ao.out.size λk I=>AA);have lo:Blk (wr.setCell ⟨d,3,none⟩ (.int .i64 ts)) (w.heap.size+1) 26 #[.slice none 0 0,.slice none 0 0,.slice none 0 0,.int .i64 0]:=dj.blk (Blk.ext W.out F.out) ln;refine AV (Yu (p:=2) (u:=3) (v:=4) AB _ _ (w.heap.size+1) 26 #[.slice E n1 H,.slice z (Ze G).length A,.slice U J Y,.int .i64 ts] (0,0) _ rfl (Blk.set (Blk.set (Blk.set (Blk.set lo 0 (.slice E n1 H)) 1 (.slice z (Ze G).length A)) 2 (.slice U J Y)) 3 (.int .i64 ts)) underlying26 rfl AB) rfl ?_;refine⟨bn.trans (s3.is_below bn.size λk I=>AA),.inr ⟨k4.out,⟨E,n1,H,z,(Ze G).length,A,U,J,Y⟩,Z,J,ck,?_,?_,jq,by simp only[];omega,by simp only[];omega,by rw[kw.out];exact Yl (s3.row (dj.row dy.out λb a h=>by have:=(dy.out.lt b a).1;omega) λb a h=>by have:=(dy.out.lt b a).1;omega)⟩⟩
    ·rw[k7.out];rfl
    exact kn.out _ ((offX dj s3))
section
open Go.Maps (Keyed IsMap Tidy)
theorem Gk.look{g:Nat}(h:Gk w g G S ts)(a:J1 l n):
 (∃b,(∀x:Ext w,(Instr.lookup 168 (.map (some g)) (kB l n) false).run prog (bl w x) = .ok (.pointer (some ⟨b,0,none⟩)) (bl w x))/\Fx w b (Zx (Zv G) l n)/\¬S b) \/
 (∀x:Ext w,(Instr.lookup 168 (.map (some g)) (kB l n) false).run prog (bl w x) = .ok (.pointer none) (bl w x)):=by
 have m:∀w,(zeroValue 224).run prog w = .ok (.pointer none) w:=λw=>AB
 have s:U4 prog 223 (kB l n):=Zs6 (by have:=a.len;omega) (by have:=a.n;omega);by_cases j:kB l n∈(ts.map λp=>(kB p.1.1 p.1.2,p.2)).map (·.1)
 ·left;obtain⟨b,f,r⟩:=h.map.look Tryz.keyKB j;obtain⟨p,k,c⟩:=CW.1 f;injection c with c hpb;obtain⟨o,q⟩:=kB_inj (h.key p k).sym a.sym c;have d:=h.val p k;rw[o,q,hpb] at d;exact⟨b,λx=>(h.map.below (Zr w x)).look_at Tryz.keyKB underlying168 (m _) f r,d.1,d.2⟩
 exact .inr λx=>(h.map.below (Zr w x)).look_none Tryz.keyKB underlying168 (m _) s j
theorem Gk.there{g b0:Nat}(h:Gk w g G S ts)(f:((l,n),b0)∈ts):
 ∃b,(∀x:Ext w,(Instr.lookup 168 (.map (some g)) (kB l n) false).run prog (bl w x) = .ok (.pointer (some ⟨b,0,none⟩)) (bl w x))/\Fx w b (Zx (Zv G) l n)/\¬S b:=by
 have s:∀w,(zeroValue 224).run prog w = .ok (.pointer none) w:=λw=>AB
 have r:=h.key _ f;have q:kB l n∈(ts.map λp=>(kB p.1.1 p.1.2,p.2)).map (·.1):=CW.2 ⟨_,CW.2 ⟨_,f,rfl⟩,rfl⟩;obtain⟨b,d,o⟩:=h.map.look Tryz.keyKB q;obtain⟨p,j,a⟩:=CW.1 d;injection a with a hpb;obtain⟨k,m⟩:=kB_inj (h.key p j).sym r.sym a;have c:=h.val p j;rw[k,m,hpb] at c;exact⟨b,λx=>(h.map.below (Zr w x)).look_at Tryz.keyKB underlying168 (s _) d o,c.1,c.2⟩
theorem red_id(a:G.right=true)(p:∀i,i<G.nons.length->(Qm G).testBit i=true):Zi G=G:=by
 have c:=Gr.fits a;obtain⟨_,_,_,u,t⟩:=Nd.1 a;have g:∀i,i<G.nons.length->(Zt G).getD i false=true/\(Z5 G).getD i false=true:=λi hi=>(Gl G c i).1 (p i hi);have k:∀r∈G.rules,∀s∈r.right,s<0->Zp s<G.nons.length:=λr a s b h0=>by
  have:=c.sym r a s b;unfold Zp;omega
 have h:Yh G=G.rules:=by
  unfold Yh;rw[List.filter_eq_self];intro r a;have q:=c.left r a;unfold Ky;rw[AR];exact⟨(g _ AA).2,U8.2 λs b=>⟨λ_=>rfl,λh0=>(g _ (k r a s b h0)).1⟩⟩
 have f:Ze G=List.range G.nons.length:=by
  unfold Ze;rw[h,lefts_range G _ _ t];congr 1;omega
 have h1:(Ze G).map (Ws G)=G.nons:=by
  rw[f];refine List.ext_getElem? λj=>?_;rw[BA];by_cases d:j<G.nons.length
  ·rw[List.getElem?_range d,AM d];show some (Ws G j)=_;unfold Ws;rw[AM d];rfl
  rw[BE (by simpa using d),BE AA];rfl
 have n:(Yh G).map (Wb (Ze G))=G.rules:=by
  rw[h,f]
  conv=>rhs;rw[<-List.map_id G.rules]
  refine List.map_congr_left λr a=>?_;have q:=c.left r a;have l:toI (List.range G.nons.length) r.left.toNat=r.left:=by rw[Am AA];omega
  have m:r.right.map (Xd (List.range G.nons.length))=r.right:=by
   conv=>rhs;rw[<-List.map_id r.right]
   refine List.map_congr_left λs b=>?_;unfold Xd;split
   ·rename_i h0;rw[Am (k r a s b h0)];show -1-((Zp s:Nat):Int)=s;exact Fr h0
   rfl
  unfold Wb;rw[l,m];rfl
 have o:toI (Ze G) G.start.toNat=G.start:=by rw[f,Am AA];omega
 unfold Zi;rw[h1,n,o]
theorem red_twice(b:G.right=true)(a:(Zt G).getD G.start.toNat false=true):Zi (Zi G)=Zi G:=red_id (Ju b a) λi hi=>red_use b a hi
theorem Dx(f:G.right=true)(d:Xp G=true)(g:Vh (Zi G)=0):Xq (Zi G)/\Ni (Zi G) (N5 (Zi G)).1:=by
 have a:(Zt G).getD G.start.toNat false=true:=by unfold Xp at d;rw[AR] at d;exact d.2
 have b:=Gr.fits f;have c:=Ju f a;have n:G.start.toNat∈Ze G:=Jm b a;have m:(Zt (Zi G)).getD (Zi G).start.toNat false=true:=by rw[Zuo b a];exact Zxa b (Gr.fits c) n
 obtain⟨j,k,h⟩:=U7 c m (red_twice f a) g;have l:(N5 (Zi G)).1=(Y4 (Yz (Zi G)) (Qm (Zi G)) (Zi G).nons.length (Zi G).nons.length).1:=by unfold N5;rw[c,k];rfl
 exact⟨j,by rw[l];exact h⟩
end
theorem Bb{n:Int}(g:G.right=true)(q:0<=n/\n<=10)(h0:(Z2 G n).2=0)(b:0<val (Z2 G n).1):
 Xp G=true/\Zxy (Zi G)/\Xq (Zi G)/\Zv (Zi G) (-1-(Zi G).start) n.toNat<big/\val (Z2 G n).1=Zv (Zi G) (-1-(Zi G).start) n.toNat/\(Z2 G n).1=limbs (Zv (Zi G) (-1-(Zi G).start) n.toNat):=by
 have k:¬(G.right=false\/n<0\/10<n):=by
  rintro (h | h | h)
  ·rw[g] at h;cases h
  ·omega
  omega
 unfold Z2 at h0 b ⊢;rw[if_neg k] at h0 b ⊢;by_cases a:Xp G=false
 ·rw[if_pos a] at b;exact absurd b AC
 rw[if_neg a] at h0 b ⊢;have a:Xp G=true:=by simpa using a
 obtain⟨m,rfl⟩:∃m:Nat,n=(m:Int):=⟨n.toNat,AA⟩;obtain⟨c,o,p,l,d⟩:=Zt8 h0;have f:=Zua c o p l;have j:=(Dx g a c.cyc).1;rw[N7] at d f;rw[Km d] at f;rw[f];simp only[DF];exact⟨a,c,j,d,Yd _,trivial⟩
theorem V9.one{n:Int}{l m:List Nat}{k:Nat}(h:V9 G n o l k)(g:V9 G n o m er'):l=m/\k=er':=by
 rcases h with ⟨a,rfl,rfl⟩ | ⟨a,b,rfl,rfl⟩ | ⟨a,b,c,rfl,rfl⟩ | ⟨a,b,c,t,u,h⟩ <;> rcases g with ⟨d,rfl,rfl⟩ | ⟨d,f,rfl,rfl⟩ | ⟨d,f,p,rfl,rfl⟩ | ⟨d,f,p,x,v,g⟩;all_goals first
  | exact⟨rfl,rfl⟩
  | exact absurd a d
  | exact absurd d a
  | exact absurd b f
  | exact absurd f b
  | (exfalso;omega)
  | skip
 have j:G.right=true:=by
  cases j:G.right
  ·exact absurd (.inl j) a
  rfl
 have s:0<=n/\n<=10:=by
  constructor
  ·exact Int.not_lt.1 λh=>a (.inr (.inl h))
  exact Int.not_lt.1 λh=>a (.inr (.inr (.inl h)))
 have r:=(Bb j s b AA).2.2.1;obtain rfl:=u.one r v;rcases h with ⟨h1,rfl,rfl⟩ | ⟨h1,rfl,rfl⟩ <;> rcases g with ⟨q,rfl,rfl⟩ | ⟨q,rfl,rfl⟩;all_goals first
  | exact⟨rfl,rfl⟩
  | omega
theorem Vj.one{t:List Int}{rs':List Nat}{l:Nat}(h:Vj G t o l)(g:Vj G t rs' er'):o=rs'/\l=er':=by
 rcases h with ⟨a,rfl,rfl⟩ | ⟨wd,ps,k,a,h⟩ <;> rcases g with ⟨d,rfl,rfl⟩ | ⟨v,s,q,d,g⟩
 ·exact⟨rfl,rfl⟩
 ·rw[a] at d;cases d
 ·rw[a] at d;cases d
 rw[a] at d;obtain⟨rfl,rfl,rfl⟩:wd=v/\ps=s/\k=q:=by simpa using d
 rcases h with ⟨b,rfl,rfl⟩ | ⟨b,c,rfl,rfl⟩ | ⟨b,c,rfl,u,r,m,e,rfl⟩ <;> rcases g with ⟨j,rfl,rfl⟩ | ⟨j,f,rfl,rfl⟩ | ⟨j,f,rfl,y,x,n,p,rfl⟩;all_goals first
  | exact⟨rfl,rfl⟩
  | omega
  | exact absurd f c
  | exact absurd c f
  | skip
 obtain rfl:=m.kept n (Ba (e.symm.trans p));have:=(m.parse (z:=[]) (z':=[]) n rfl).2.1;rw[this];exact⟨rfl,rfl⟩
theorem Zzy(f:G.right=true)(p:n<=10)(d:Xp G=true)(h0:(Z2 G (n:Int)).2=0):
 Zxy (Zi G)/\Xq (Zi G)/\Zv (Zi G) (-1-(Zi G).start) n<big/\(Z2 G (n:Int)).1=limbs (Zv (Zi G) (-1-(Zi G).start) n)/\val (Z2 G (n:Int)).1=Zv (Zi G) (-1-(Zi G).start) n:=by
 have k:¬(G.right=false\/(n:Int)<0\/10<(n:Int)):=by
  rintro (h | h | h)
  ·rw[f] at h;cases h
  ·omega
  omega
 have g:Z2 G (n:Int)=Wi (Zi G) [-1-(Zi G).start] (n:Int):=by
  unfold Z2;rw[if_neg k,if_neg (by rw[d];decide)]
 rw[g] at h0 ⊢;obtain⟨a,m,o,l,b⟩:=Zt8 h0;have c:=Zua a m o l;have j:=(Dx f d a.cyc).1;rw[N7] at b c;rw[Km b] at c;rw[c];exact⟨a,j,b,rfl,Yd _⟩
theorem r23B{b:List Nat}{a:Nat}(h:Vj Xt [0] b a):b=[]/\a=1:=by
 refine h.one (.inl ⟨AB,rfl,rfl⟩)
end Go.Proofs.YtggbjdmpjidhgaaGreatDoor
