/- reading, plainly: the rules of a text, as they are written; the grammar that they make. -/
import Derived.Test.YtggbjdmpjidhgaaGreatDoorV25
import Derived.Test.YtggbjdmpjidhgaaGreatDoorV26
import Derived.Test.YtggbjdmpjidhgaaGreatDoorV27
import Derived.Test.YtggbjdmpjidhgaaGreatDoorV28
set_option linter.all false
set_option maxHeartbeats 1500000
set_option maxRecDepth 100000
namespace Go.Proofs.YtggbjdmpjidhgaaGreatDoor
open Go.RowKit Go.Proofs.Tryz
variable{n c B m:Nat}{A:Option Addr}{r:Nat->Prop}{cs xs:List Value}{ps:List Prd}{w':World}{p:List MemPlace}{G:Gr}{tab:Nat->Nat->Nat}{l:List Int}{a b:List Nat}{v:Value}{ss:List ByteArray}
theorem own_prds{w:World}{base e:Nat}(h:w.ownsRow base e 5 (.slice A n c) n cs)(o:Vu w r cs ps):Prds w A n c ps:=by
 have k:ps.length=n:=by have:=h.1;have:=o.1;omega
 rcases h.2 with ⟨m,rfl⟩ | ⟨g,cap,E,m,F,p,B,v,G,J⟩
 ·injection m with a f b;subst a;subst b;exact⟨k,AI _,AA,λd=>absurd d AA⟩
 injection m with a f b;subst a;subst b;have l:g<w.heap.size:=by
  rcases BD g w with l | z
  ·exact l
  rw[CX z] at p;cases p
 refine⟨k,B,by simpa [maxLen] using v,λI=>⟨g,0,rfl,l,λj t q=>?_⟩⟩;have H:j<n:=by rw[<-k];exact (AN.1 q).1
 obtain⟨Ar,cr,x,y,C,D,d,a,f,b,s,u,_⟩:=o.2 j t q;refine⟨Ar,cr,x,y,C,D,?_,?_,?_,?_,?_,u⟩
 ·rw[BH,h.cellAt (j*5) AA];exact d
 ·rw[BH,h.cellAt (j*5+1) AA];exact a
 ·rw[BH,h.cellAt (j*5+2) AA];exact f
 ·rw[BH,h.cellAt (j*5+3) AA];exact b
 rw[BH,h.cellAt (j*5+4) AA];exact s
theorem Wk.grAt_ahead{w:World}{p:Nat}{h:GH}(k:Wk w p B h G)(l:w.heap.size<=w'.heap.size)(d:∀b,b<w.heap.size->p<b->w'.heap[b]? = w.heap[b]?):Yf w' h G:=by
 obtain⟨cs,g,j⟩:=k.r3;exact⟨Cr (Yq k.r1 λb a _ c=>d b c a),Yl (Yq k.r2 λb a _ c=>d b c a),Cn (Yq g λb a _ c=>d b c a) (j.keep l λb a f=>⟨d b a f.2.2,f⟩),k.wf⟩
theorem below_appendG{w wr:World}{base e size:Nat}(a:Below base w wr)(d:wr.grownBy w' (Value.slice A n c).ownBlock)(g:wr.ownsRow base e size (.slice A n c) n xs)(b:base<=wr.heap.size):Below base w w' :=
 a.grown d b λk f=>(g.lt k f).1
theorem told_forest(h:∀k,k<=n->∀i,i<G.nons.length->tab k i=Zv G (-1-(i:Int)) k)(a:∀s∈l,s<0->Zp s<G.nons.length)(d:m<=n):
 Zx (Yk tab) l m=Zx (Zv G) l m:=by
 refine Wp λq b k c=>?_;unfold Yk;split
 ·rename_i h0;exact (Xb G h0 k).symm
 rename_i h0;rw[h k AA _ (a q b AA),Fr AA]
def B6(tab:Nat->Nat->Nat)(a:List Nat)(m p:Nat):Nat->Nat->Nat:=λk i=>if k<m then tab k i else if k=m/\(a.take p).contains i=true then tab k i else 0
def chkT(G:Gr)(a:List Nat)(tab:Nat->Nat->Nat)(n:Nat):Bool :=
 (List.range (n+1)).all λm=>(List.range a.length).all λp=>Nat.beq (Yc (Yk (B6 tab a m p)) G.rules (a.getD p 0) m) (tab m (a.getD p 0))
def chkO(G:Gr)(a:List Nat):Bool :=
 (List.range G.nons.length).all (λi=>a.contains i)&&a.all (λi=>decide (i<G.nons.length)) &&
   (List.range a.length).all λp=>(List.range G.nons.length).all λt=>!((Yz G).getD (a.getD p 0) 0).testBit t || (a.take p).contains t
theorem Bt(g:G.Fits)(h:chkO G a=true):Ni G a:=by
 unfold chkO at h;simp only[AR,BG,BQ,decide_eq_true_eq,List.contains_iff_mem,CJ,Bool.not_eq_true'] at h;obtain⟨⟨h1,d⟩,f⟩:=h;refine⟨d,λp i hi t b=>?_,λi hi=>h1 i hi⟩;have j:p<a.length:=(AN.1 hi).1;have e:a.getD p 0=i:=by rw[AO,hi];rfl
 have c:=Au G g i t b;rw[Wh] at c;rcases f p j t c with h | h
 ·rw[e,b] at h;cases h
 exact h
theorem cut_zero(tab:Nat->Nat->Nat)(a:List Nat):B6 tab a 0 0=λ_ _=>0:=by
 funext k i;unfold B6;rw[if_neg AA,if_neg];rintro⟨_,h⟩;simp at h
theorem Zt9(v:Xq G)(f:Ni G a)(h:chkT G a tab n=true):∀k,k<=n->∀i,i<G.nons.length->tab k i=Zv G (-1-(i:Int)) k:=by
 unfold chkT at h;simp only[BG,BQ] at h;have row:∀m,m<=n->Ll G a (B6 tab a m 0) m 0->∀p,p<=a.length->Ll G a (B6 tab a m p) m p:=by
  intro m x h0 p
  induction p with
  | zero=>intro _;exact h0
  | succ p q =>
    intro y;have t:=q AA;have hi:a[p]? = some (a[p]' AA):=AM AA;have e:a.getD p 0=a[p]' AA:=by rw[AO,hi];rfl
    have r:=Nat.eq_of_beq_eq_true (h m AA p AA);rw[e,t.next v f hi] at r;have s:=t.put hi (tab m (a[p]' AA)) r.symm;have u:U6 (B6 tab a m p) m (a[p]' AA) (tab m (a[p]' AA))=B6 tab a m (p+1):=by
     funext k j;unfold U6 B6;have o:a.take (p+1)=a.take p++[a[p]' AA]:=by rw[DA,hi];rfl
     by_cases c:k<m
     ·rw[if_neg AA,if_pos c,if_pos c]
     rw[if_neg c,if_neg c];by_cases d:k=m
     ·subst d;by_cases l:j=a[p]' AA
      ·subst l;rw[if_pos ⟨rfl,rfl⟩,if_pos ⟨rfl,by rw[List.contains_iff_mem,o];exact List.mem_append_right _ (BV.2 rfl)⟩]
      rw[if_neg λb=>l b.2];by_cases g:(a.take p).contains j=true
      ·rw[if_pos ⟨rfl,g⟩,if_pos ⟨rfl,by rw[List.contains_iff_mem] at g ⊢;rw[o];exact List.mem_append_left _ g⟩]
      rw[if_neg λb=>g b.2,if_neg λb=>g ?_];have:=b.2;rw[List.contains_iff_mem,o,DH,BV] at this;rw[List.contains_iff_mem];exact this.resolve_right l
     rw[if_neg λb=>d b.1,if_neg λb=>d b.1,if_neg λb=>d b.1]
    rw[u] at s;exact s
 have all:∀m,m<=n->Ll G a (B6 tab a m 0) m 0:=by
  intro m
  induction m with
  | zero=>intro _;rw[cut_zero];exact Ll.start G a
  | succ m q =>
    intro x;have h1:=row m AA (q AA) a.length (AI _);refine⟨λk c i hi=>?_,λi hi=>by simp at hi,λi _=>?_⟩
    ·rcases (AA:k<m\/k=m) with d | rfl
     ·have:=h1.low k d i hi;unfold B6 at this ⊢;rw[if_pos d] at this;rw[if_pos AA];exact this
     have:=h1.now i (by rw[List.take_length];exact f.all i hi);unfold B6 at this ⊢;rw[if_neg AA,if_pos ⟨rfl,by simpa using f.all i hi⟩] at this;rw[if_pos AA];exact this
    unfold B6;rw[if_neg AA,if_neg];rintro⟨_,h⟩;simp at h
 intro k c i hi;have h1:=row k c (all k c) a.length (AI _);have:=h1.now i (by rw[List.take_length];exact f.all i hi);unfold B6 at this;rw[if_neg AA,if_pos ⟨rfl,by simpa using f.all i hi⟩] at this;exact this
theorem wk_decls(p:Nat)(h:GH)(G:Gr)(w:World)(k:Wk w p B h G):
 Calls prog 138 #[.pointer (some ⟨p,0,none⟩),.slice none 0 0] w λe w'=>e = .returned (.tuple #[])/\w=w':=by
 clear k;go_enter func138,ntmps138;go_wp2_with fail;go_loopw [4] (λi wr=>i = .int .i64 0/\wr=w) (λ_ _=>0)
 case atStart=>exact⟨rfl,rfl⟩
 obtain⟨rfl,rfl⟩:=hrel;go_wp2_with fail;(try simp only[Exit.inBlock,Exit.then]);refine bodyPost_end (results_none rfl _ _ _) rfl ?_;exact⟨rfl,rfl⟩
theorem wk_lefts(p:Nat)(h:GH)(G:Gr)(T:List ByteArray)(A:Option Addr)(n c:Nat)(l:List Prd)(w:World)(k:Wk w p B h G)(hP:∀w',Below p w w'->Prds w' A n c l)(hn:n<=4000)(ht:G.terms=[])(C:Nv G.nons l=some T):
 Calls prog 139 #[.pointer (some ⟨p,0,none⟩),.slice A n c] w λe w'=>e = .returned (.tuple #[])/\∃r,Wk w' p B r { G with nons:=T }/\V6 w w' p h r:=by
 have N:=hP w (AK _ _);have aq:l.length=n:=N.1;have ck:=N.2.1;have cl:=N.2.2.1;have HP:=LH hP;have Hk:=LH k;have Ht:=LH ht;have Hl:=LH C;have bg:=LH aq;have ap:(prog.info? 9).map (λi=>(i.zero,i.size,i.bytes))=some (some (.string ByteArray.empty),1,16):=AB
 have c0:∀(w:World) (a:Addr) (k:FloatKind) (x y:Nat) (m:Mode),(store a (.complex k x y) m).run prog w=stored prog w a (.complex k x y) m:=λw a k x y m=>run_store prog w a _ m rfl;have Hi:=LH ap;clear k hP N ht C aq ap;go_enter func139,ntmps139;go_wp2_with fail;go_loopw [4] (λv wr=>∃(j:Nat) (r:GH) (d:List ByteArray),v = .int .i64 (j:Int)/\j<=n/\Hid (Wk wr p B r { G with nons:=d })/\Hid (Nv d (l.drop j)=some T)/\Hid (V6 w wr p h r)) (λv _=>n-(intOf v).toNat)
 case atStart=>exact⟨0,h,G.nons,rfl,AU _,Hk,Hl,LH (V6.refl _ _ _)⟩
 obtain⟨j,r,d,rfl,hj,o,ak,H⟩:=hrel;obtain⟨a1,n1,c1,a2,n2,c2,a3,n3,c3⟩:=r;obtain⟨hp,z0,z1,z2,z3,z7,dk,v0,v1,v2⟩:=o.out.cells;simp only[] at z0 z1 z2;by_cases br:j<n
 case neg =>
  obtain rfl:j=n:=AA
  go_wp2_with fail;(try simp only[Exit.inBlock,Exit.then]);refine bodyPost_end (results_none rfl _ _ _) rfl ?_;have C:=ak.out;rw[List.drop_eq_nil_of_le (by rw[bg.out];exact AI _)] at C;have u:d=T:=by
   unfold Nv at C;injection C
  exact⟨rfl,_,by rw[<-u];exact o.out,H.out⟩
 obtain⟨b,c8,q,Ar,cr,x,y,x',y',rfl,hb,Hq,q0,q1,q2,q3,q4,bv⟩:=(HP.out wr (H.out.below Hk.out)).get br;obtain⟨ar,ax⟩:=leftsP_step ak.out Hq.out;have bj:=LH ax;have Z:=Zy wr (.cells #[.string q.left,.complex .f64 x y] 191);have O:=Blk.new wr 191 #[.string q.left,.complex .f64 x y];have R:=o.out.below Z;have Y:=λw=>Zx8 q.left w;rw[ar] at Y;have CN:=LH Y;obtain⟨l1,l2,l3⟩:=o.out.lens;simp only[] at l1 l2 l3;have cs:n1<=24:=o.out.b1;have ct:n2<=16:=o.out.b2;have av:G.start=0:=o.out.st;clear ar ax Y bv;generalize q.left=L at *;go_wp2_with (go_at_call 119;(with_reducible refine (CN.out _).mono ?_);rintro e w2⟨rfl,rfl⟩);generalize bq:wr.alloc (.cells #[.string L,.complex .f64 x y] 191)=g at *;have cn:wr.heap.size<g.heap.size:=O.lt;obtain⟨cv,u0,u1,u2,u3,u7,u10,b7,b8,b9⟩:=R.cells;have y0:g.cell? ⟨wr,0,none⟩=some (.string L):=O.cell 0;simp only[] at u0 u1 u2;have I:=λ(x:Ext g)=>C6 ⟨a1,n1,c1,a2,n2,c2,a3,n3,c3⟩ { G with nons:=d } L (bl g x) (R.grAt.below (Zr g x)) (by simp only[];omega);rw[show ({ G with nons:=d }:Gr).term L=-1 by unfold Gr.term;show Y8 _ G.terms=-1;rw[Ht.out];rfl] at I;rw[show ({ G with nons:=d }:Gr).start=0 from av] at I;have CT:=LH I;have ai:=LH R;have bb:=LH O;have bc:=Yt g;clear I R O bq av l1;go_wp2_with fail;refine Zs AB AB ?_;repeat (go_big_quiet_step ((go_at_call 117;with_reducible exact Ve (CT.out _))))
 refine BK ?_;rintro _⟨x2,rfl⟩;have J:=Zr g x2;have S:=ai.out.below J;have P:=bb.out.ext J;generalize bl g x2=f at *;have af:=LH (Zz Z J);obtain⟨cw,t0,t1,t2,t3,t7,b3,f0,f1,f2⟩:=S.cells;have e0:f.cell? ⟨wr,0,none⟩=some (.string L):=P.cell 0;have co:wr.heap.size<f.heap.size:=P.lt;simp only[] at t0 t1 t2;have z:=λ(x:Ext f)=>Zu5 ⟨a1,n1,c1,a2,n2,c2,a3,n3,c3⟩ { G with nons:=d } L (bl f x) (S.grAt.below (Zr f x)) (by simp only[];omega);rw[show ({ G with nons:=d }:Gr).non L=Y8 (λt=>decide (t=L)) d from rfl,show ({ G with nons:=d }:Gr).start=0 from ai.out.st] at z;have aj:=LH S;have bd:=LH P;have bc2:=Yt f;clear S P bc CT y0 u0 u1 u2 u3 u7 u10 b7 b8 b9 J Z;rcases bj.out with ⟨ae,u⟩ | ⟨ae,bu,u⟩
 ·have W:=LH u;generalize Y8 (λt=>decide (t=L)) d=nv at *;have F:=LH z;clear z u;go_wp2_with fail;refine Zs AB AB ?_;repeat (go_big_quiet_step ((go_at_call 120;with_reducible exact Ve (F.out _))))
  refine BK ?_;rintro _⟨E,rfl⟩;have s:=Zr f E;have V:=LH (aj.out.below s);have U:=LH (Zz af.out s);generalize bl f E=W3 at *;go_wp2_with fail;go_roundw
  case rel=>exact⟨j+1,_,d,AF,AA,V,W,LH (H.out.trans (V6.of_below U.out _ _))⟩
  simp[intOf];omega
 have W:=LH u;rw[ae] at z;rw[l2] at bu;have F:=LH z;have ch:((n2:Int)==16)=false:=by rw[AP];omega
 clear z u ae;go_wp2_with fail;refine Zs AB AB ?_;repeat (go_big_quiet_step ((go_at_call 120;with_reducible exact Ve (F.out _))))
 refine BK ?_;rintro _⟨E,rfl⟩;have s:=Zr f E;have D:=aj.out.below s;have ab:=bd.out.ext s;have U:=LH (Zz af.out s);generalize bl f E=W3 at *;obtain⟨cx,m0,m1,m2,m3,m7,c5,g0,g1,g2⟩:=D.cells;have d0:W3.cell? ⟨wr,0,none⟩=some (.string L):=ab.cell 0;have cp:wr.heap.size<W3.heap.size:=ab.lt;simp only[] at m0 m1 m2;have V:=LH D;have al:Hid ((W3.drew.alloc (.cells #[.string L] 9)).ownsRow (p+1) 9 1 (.slice a2 n2 c2) n2 (d.map Value.string)):=M5 D.r2 ((AK W3 W3).drew.alloc (AI _) _);have M:Below W3 W3 (W3.drew.alloc (.cells #[.string L] 9)):=(AK W3 W3).drew.alloc (AI _) _;have ba:=LH (D.blk.ext M);have ag:=LH M;have bs:p+1<=(W3.drew.alloc (.cells #[.string L] 9)).heap.size:=by have:=M.size;omega
 clear M D ab s t0 t1 t2 t3 t7 b3 f0 f1 f2 bc2 F;go_wp2_with fail;go_region_law (first
  | (refine V5 rfl _ _ 23 rfl (p+1) 9 _ 1 16 underlying23 Hi.out AC AC a2 n2 c2 (d.map Value.string) (by simp[Act.eval,Act.put]) (by exact al.out) ⟨W3,0,none⟩ 1 1 [.string L] rfl (by simp[Act.eval,Act.put]) (by exact Qn W3.drew [.string L] _) (by simp[Value.oneCell']) AA AA (by exact bs) ?_;intro A4 c4 w4 ho ad ha
     have X:=ba.out.grown ad (by intro e;have:=(al.out.lt p e.symm).1;omega);have k1:w4.cell? ⟨p,1,none⟩=some (.slice a2 n2 c2):=X.cell 1;have k2:=X.frozen 1;have am:=LH (V.out.put2 L (by simp only[];omega) A4 c4 ho (Zc (Xz _ ag.out) ad) (λb hb bt=>ha b hb (AJ bt ag.out.size)));clear X ho ad ha))
 all_goals
  go_wp2_with fail;go_roundw
  case rel=>exact⟨j+1,_,d++[L],AF,AA,LH am.out.1,W,LH ((H.out.trans (V6.of_below U.out _ _)).trans am.out.2)⟩
  simp[intOf];omega
theorem Wk.fresh(w:World):Wk (w.alloc (.cells (Q0 noH) 193)) w (w.alloc (.cells (Q0 noH) 193)).heap.size noH ⟨[],[],[],0⟩ :=
 ⟨Blk.new _ _ _,BJ _ _ _ _,BJ _ _ _ _,⟨[],BJ _ _ _ _,Kz.nil _ _⟩,(λb a _=>by cases a),(λb a _=>by cases a),(λb a _=>by cases a),rfl,(λr c=>by cases c),AU _,AU _,AU _⟩
def GrFrom(w w':World)(h:GH)(G:Gr):Prop:=∀a:World,w'.heap.size<=a.heap.size->(∀b,b<w'.heap.size->w.heap.size<=b->a.heap[b]? = w'.heap[b]?)->Yf a h G
theorem Zuv(h:GH)(G:Gr)(w:World)(c:Yf w h G)(h1:h.n1<=100)(a:h.n2<=100)(b:h.n3<=100):
 Calls prog 58 #[GV h G.start] w (Dh G w):=(Dk h G w c h1 a b).mono λe w' d=>d.plain
theorem rf_told(A:Option Addr)(n c:Nat)(b:Bool)(x:Nat)(w:World)(h:Z1 w A n c b x):
 Calls prog 52 #[.agg #[.slice A n c,.bool b]] w (Xr w (Xm x)):=by
 have o:=Zy w (.cells #[.slice A n c,.bool b] 46);have q:=Blk.new w 46 #[.slice A n c,.bool b];have p:=(h.2.below o);have f:=h.2.len;have k:=h.cases;have l:=LH p;have j:=LH o;clear h p;go_enter func52,ntmps52;rcases k with ⟨d,rfl,ex⟩ | ⟨d,rfl,ex⟩
 ·have a:Xm x=(limbs x,0):=by unfold Xm;rw[if_pos d]
  rw[ex] at f l;have g:=LH a;have m:=LH f;clear a ex d f;go_wp2_with fail;go_ret2;unfold Xr;rw[g.out];exact⟨A,c,by rw[<-m.out];rfl,by rw[m.out];exact l.out,j.out⟩
 have a:Xm x=([],2):=by unfold Xm;rw[if_neg d]
 have g:=LH a;clear a ex d f;go_wp2_with fail;go_ret2;unfold Xr;rw[g.out];exact⟨none,0,rfl,Zq.nil _ _ _ _ AA,j.out⟩
theorem markd_sl(w:World)(t:TypeId)(b:Nat × Nat)(a:List Value)(n:Nat)(arr:Array Value)(h:arr=a.toArray)(c:a.length=n)(f:n<=1000000):Sl (w.alloc (.cells arr t b)) (some ⟨w,0,none⟩) n n a:=by
 subst h;refine⟨c,AI _,AA,λ_=>⟨_,_,rfl,?_,λj d=>?_⟩⟩
 ·show w.heap.size<(w.heap.push _).size;simp
 rw[BH,World.cell?_alloc_mark];simp
theorem of_told(a:Xp G=true)(hi:Zi G=G)(f:Vh G=0){j:List Nat}(o:chkO G j=true)(q:chkT G j tab n=true)(A:n<=10)(y:l.length<=6)(r:(l.all λs=>G.has s)=true)(z:m<=n):Wi G l (m:Int)=Xm (Zx (Yk tab) l m):=by
 have g:G.right=true/\(Zt G).getD G.start.toNat false=true:=by unfold Xp at a;rw[AR] at a;exact a
 obtain⟨c,_,_⟩:=U7 g.1 g.2 hi f;have p:=Bt c.fits o;have u:=Zt9 c p q;have d:=BG.1 r;unfold Wi;rw[if_neg,if_neg (by rw[f];exact λh=>h rfl),DF]
 ·congr 1;refine (Wp λs b k x=>?_).symm;by_cases h0:0<=s
  ·rw[Xb G h0];unfold Yk;rw[if_pos h0]
  have v:=H7 (d s b);have t:Zp s<G.nons.length:=by unfold Zp;omega
  unfold Yk;rw[if_neg h0,u k AA _ t];congr 1;unfold Zp;omega
 rintro (h | h | h | h | ⟨s,b,h⟩)
 ·rw[Zzn.2 ⟨a,hi⟩] at h;cases h
 ·omega
 ·omega
 ·omega
 rw[d s b] at h;cases h
theorem red22A:Xp Xt=true:=AB
theorem cyc22A:Vh Xt=0:=AB
theorem ord22A:chkO Xt [0]=true:=AB
theorem chk22A:chkT Xt [0] tab22A 4=true:=AB
theorem cnt22A(a:m<=4):Z2 Xt (m:Int)=Xm (Zx (Yk tab22A) [-1] m):=(cnt_of Zxf AA red22A Fh rfl).trans (of_told red22A Fh cyc22A ord22A chk22A AC AC AB a)
theorem Zya(l:Option Addr)(n c1:Nat)(xs:List Nat)(o:Option Addr)(m c2:Nat)(ys:List Nat)(w:World)(h1:Zq .u32 w l n c1 xs)(r:Zq .u32 w o m c2 ys):
 Calls prog 17 #[.slice l n c1,.slice o m c2] w (Quiet w (.bool (xs==ys))):=by
 obtain rfl:=h1.len;obtain rfl:=r.len;have G:=h1.cap;by_cases c:xs.length=ys.length
 case neg =>
  have a:(xs==ys)=false:=by
   rw[AP];intro h;exact c (by rw[h])
  rw[a];have z:((xs.length:Int) != (ys.length:Int))=true:=by rw[BN];omega
  clear a c;go_enter func17,ntmps17;go_wp2;go_ret;exact⟨rfl,Uz.refl _⟩
 have z:((xs.length:Int) != (ys.length:Int))=false:=by rw[BS];omega
 have g:=LH c;clear c;go_enter func17,ntmps17;go_wp2;go_loopw [5] (λi wr=>∃k:Nat,k<=xs.length/\i = .int .i64 (k:Int)/\(∀j,j<k->xs.getD j 0=ys.getD j 0)/\Uz w wr) (λi _=>xs.length-(intOf i).toNat)
 case atStart=>exact⟨0,AU _,rfl,λj s=>AA,Uz.refl _⟩
 obtain⟨k,H,rfl,hrel,b⟩:=hrel;have p:=LH hrel;clear hrel;by_cases v:k<xs.length
 ·obtain⟨A,M,x,rfl,C,Hx,E⟩:=(h1.same b).get (j:=k) v;obtain⟨B,N,y,rfl,D,q,F⟩:=(r.same b).get (j:=k) (by have:=g.out;omega);have I:(0:Int)<=(k:Int):=AA
  have J:(k:Int)<(xs.length:Int):=AA
  have L:(k:Int)<(ys.length:Int):=by have:=g.out;omega
  by_cases d:x=y
  ·have u:((x:Int) != (y:Int))=false:=by rw[BS];omega
   have t:=LH d;clear d;go_wp2;go_quiet (fail)
   go_wp2;go_roundw
   case rel =>
    refine⟨k+1,AA,AF,λj s=>?_,b.drewN _⟩;rcases BD j k with h | h
    ·exact p.out j h
    obtain rfl:j=k:=AA
    rw[Yn Hx.out,Yn q.out,t.out]
   simp[intOf];omega
  have u:((x:Int) != (y:Int))=true:=by rw[BN];omega
  have a:(xs==ys)=false:=by
   rw[AP];intro h;have h1:=Hx.out;rw[h,q.out] at h1;injection h1 with h1;exact d h1.symm
  have f:=LH a;clear a d;go_wp2;go_quiet (fail)
  go_wp2;go_ret;rw[f.out];exact⟨rfl,b.drewN _⟩
 have a:(xs==ys)=true:=by
  rw[BP];exact same_stepN g.out λj s=>p.out j AA
 have f:=LH a;clear a;go_wp2;go_ret;rw[f.out];exact⟨rfl,b⟩
theorem tr_open(h:GH)(G:Gr)(w:World):
 Calls prog 72 #[GV h G.start] w λe w'=>∃gc k,e = .returned (.pointer (some ⟨gc,0,none⟩))/\Wd w ⟨gc,k⟩ h G (λ_=>False) w'/\w.heap.size<=gc/\gc<w'.heap.size:=by
 obtain⟨a1,n1,c1,a2,n2,c2,a3,n3,c3⟩:=h;have g:=Zy w (.cells #[.slice a1 n1 c1,.slice a2 n2 c2,.slice a3 n3 c3,.int .i64 G.start] 26);have b:=Blk.new w 26 #[.slice a1 n1 c1,.slice a2 n2 c2,.slice a3 n3 c3,.int .i64 G.start];have o:=@run_makeMap prog;go_enter func72,ntmps72;go_upto_region 1 with fail;generalize w.alloc (.cells #[.slice a1 n1 c1,.slice a2 n2 c2,.slice a3 n3 c3,.int .i64 G.start] 26)=a at *;have q:a.cell? ⟨w,0,none⟩=some (.slice a1 n1 c1):=b.cell 0;have r:a.cell? ⟨w,1,none⟩=some (.slice a2 n2 c2):=b.cell 1;have s:a.cell? ⟨w,2,none⟩=some (.slice a3 n3 c3):=b.cell 2;have t:a.cell? ⟨w,3,none⟩=some (.int .i64 G.start):=b.cell 3;have u:=b.lt;have c:=LH g;clear g b;go_wp2_with fail;go_ret;have m:=Vv.made a prog 223;have l:=Zy a (.map #[] 0);have n:(a.alloc (.map #[] 0)).heap.size=a.heap.size+1:=AE
 have j:=Zy (a.alloc (.map #[] 0)) (.cells #[.slice a1 n1 c1,.slice a2 n2 c2,.slice a3 n3 c3,.int .i64 G.start,.map (some a)] 170);have d:=Blk.new (a.alloc (.map #[] 0)) 170 #[.slice a1 n1 c1,.slice a2 n2 c2,.slice a3 n3 c3,.int .i64 G.start,.map (some a)];rw[n] at d;refine⟨a+1,a.heap.size,rfl,⟨Zz (Zz c.out l) j,d,c.out.size,[],m.below j,λp f=>(by cases f),λp f=>(by cases f)⟩,by have:=c.out.size;omega,d.lt⟩
theorem Kg(G:Gr)(n:Int):Lim (Z2 G n).1/\((Z2 G n).2=0->Zm (Z2 G n).1=true):=by
 have h0:Zm ([]:List Nat)=true:=AC
 have a:∀x,Lim (Xm x).1/\Zm (Xm x).1=true:=λx=>by
  rcases F8 x with ⟨b,e⟩ | ⟨b,e⟩
  ·rw[e];exact⟨Z9 x,Ym x b⟩
  rw[e];exact⟨Lim.nil,h0⟩
 unfold Z2 Wi;split
 ·exact⟨Lim.nil,λ_=>h0⟩
 split
 ·exact⟨Lim.nil,λ_=>h0⟩
 split
 ·exact⟨Lim.nil,λ_=>h0⟩
 split
 ·exact⟨Lim.nil,λ_=>h0⟩
 exact⟨(a _).1,λ_=>(a _).2⟩
theorem Qp.no{n:Int}{w:World}{a:Nat}(c:Below w w w')(h:V9 G n b [] a):Qp G n b w (.returned (.tuple #[.slice none 0 0,.int .i64 (a:Int)])) w' :=
 ⟨c,[],a,none,0,rfl,Za.nil _ _ _ _ AA,h⟩
theorem Zxe:Xq Xt:=by
 have a:Xt.right=true/\(Zt Xt).getD Xt.start.toNat false=true:=⟨Zxf,by have:=red22A;unfold Xp at this;rw[AR] at this;exact this.2⟩;exact (U7 a.1 a.2 Fh cyc22A).1
theorem Ztt{k:Nat}(h:k<=4):Zv Xt (-1) k=tab22A k 0:=by
 have:=Zt9 Zxe (Bt Zxe.fits ord22A) chk22A k h 0 AC;exact this.symm
theorem M0:Z0 (Zv Xt) Xt.rules 0 1 1=0/\Yv (Zv Xt) (-1) [] 1 1=0/\Yv (Zv Xt) (-1) [-1] 2 1=0/\Yv (Zv Xt) (-1) [] 2 2=0/\Yv (Zv Xt) (-1) [-1] 3 1=0/\Yv (Zv Xt) (-1) [-1] 3 2=1:=by
 have a:Zv Xt (-1) 0=0:=(Ztt (k:=0) AC).trans AB;have b:Zv Xt (-1) 1=1:=(Ztt (k:=1) AC).trans AB;have c:Zv Xt (-1) 2=1:=(Ztt (k:=2) AC).trans AB;exact ahead22 a b c (by funext n;exact Xb Xt AC n)
theorem un1:UnT Xt (Zp (-1)) 1 0 [1]:=by
 rw[non22];exact⟨1,⟨0,[0],0⟩,0,[],rfl,rfl,.term AC .nil,by rw[M0.1],rfl⟩
theorem ul1:UnL Xt [-1] 1 0 [1]:=UnL.cat AC un1 .nil rfl M0.2.1
theorem un2:UnT Xt (Zp (-1)) 2 0 [0,1,1]:=by
 rw[non22];exact UnT.top (x:=⟨0,[-1,-1],-1⟩) rfl rfl (UnL.cat AC un1 ul1 rfl M0.2.2.1)
theorem ul2:UnL Xt [-1] 2 0 [0,1,1]:=UnL.cat AC un2 .nil rfl M0.2.2.2.1
theorem un22:UnT Xt 0 3 0 [0,1,0,1,1]/\UnT Xt 0 3 1 [0,0,1,1,1] :=
 ⟨UnT.top (x:=⟨0,[-1,-1],-1⟩) rfl rfl (UnL.cat AC un1 ul2 rfl M0.2.2.2.2.1),UnT.top (x:=⟨0,[-1,-1],-1⟩) rfl rfl (UnL.cat AC un2 ul1 rfl M0.2.2.2.2.2)⟩
theorem c22:Z2 Xt ((3:Nat):Int)=([2],0):=(cnt22A AC).trans AB
theorem start22:(Zi Xt).start.toNat=0:=by rw[Fh];rfl
theorem nobad22(h:Zm a=true):¬badU Xt 3 a:=by
 rintro (x | x | x | x)
 ·rw[Zxf] at x;cases x
 ·omega
 ·omega
 rw[h] at x;cases x
theorem unr22{t:List Nat}{v:Nat}(k:Zm b=true)(f:val b=v)(o:v<2)(l:UnT Xt 0 3 v t)(n:t.length<=300){g:List Nat}(h:V9 Xt 3 b g c):g=t.map (Yr Xt)/\c=0:=by
 have e:Z2 Xt 3=([2],0):=c22;rcases h with ⟨a,_⟩ | ⟨_,a,_⟩ | ⟨_,_,a,_⟩ | ⟨_,_,_,p,d,h⟩
 ·exact absurd a (nobad22 k)
 ·exact absurd (by rw[e]) a
 ·rw[e,f] at a;have m:val [2]=2:=rfl;have a:val [2]<=v:=a;omega
 rw[start22,Fh,f] at d;obtain rfl:=l.one Zxe d;rcases h with ⟨h1,_⟩ | ⟨_,h1,j⟩
 ·omega
 exact⟨h1,j⟩
theorem u23A{a:Nat}(h:V9 Xt 3 [] b a):b=[0,1,0,1,1]/\a=0:=by
 obtain⟨rfl,rfl⟩:=unr22 (v:=0) AC rfl AC un22.1 AC h;exact⟨by simp only[CU,List.map_nil,kept22],rfl⟩
theorem u23B{a:Nat}(h:V9 Xt 3 [1] b a):b=[0,0,1,1,1]/\a=0:=by
 obtain⟨rfl,rfl⟩:=unr22 (v:=1) AC rfl AC un22.2 AC h;exact⟨by simp only[CU,List.map_nil,kept22],rfl⟩
theorem u23C{c:List Nat}{b:Nat}(h:V9 Xt 3 [2] c b):c=[]/\b=11:=by
 have e:Z2 Xt 3=([2],0):=c22;rcases h with ⟨a,_⟩ | ⟨_,a,_⟩ | ⟨_,_,_,h1,d⟩ | ⟨_,_,a,_⟩
 ·exact absurd a (nobad22 AC)
 ·exact absurd (by rw[e]) a
 ·exact⟨h1,d⟩
 rw[e] at a;exact absurd a AC
theorem r23A{a:Nat}(h:Vj Xt [0,0,1,1,1] b a):b=[1]/\a=0:=by
 refine h.one (rs':=[1]) (er':=0) (.inr ⟨[0,0,0],[1,1,0,1,0],3,AB,.inr (.inr ⟨AC,by rw[show (([0,0,0]:List Int).length:Int)=((3:Nat):Int) from rfl,c22],rfl,[0,0,1,1,1],1,?_,?_,AB⟩)⟩)
 ·rw[start22,Fh];exact un22.2
 simp only[CU,List.map_nil,kept22];rfl
section
open Go.RowKit Go.Shelf
attribute [local go_sem] Oper.semAt_some
open Go.RowKit Go.Shelf Go.Sort
theorem Cu(h:GH)(G:Gr)(w:World)(c:Yf w h G):
 Calls prog 14 #[GV h G.start] w λe w'=>e = .returned (.bool G.great)/\Below w w w':=by
 obtain⟨a1,n1,c1,a2,n2,c2,a3,n3,c3⟩:=h;have E:Dv w a3 n3 c3 G.rules:=c.rules;have p:G.terms.length=n1:=c.terms.len;have q:G.nons.length=n2:=c.nons.len;have z:G.rules.length=n3:=c.rules.len;have L:n1<=c1/\c1<=9223372036854775807:=c.terms.cap;have M:n2<=c2/\c2<=9223372036854775807:=c.nons.cap;have N:n3<=c3/\c3<=9223372036854775807:=c.rules.cap;have d:Hid (G.great=(decide (40<n1) || decide (40<n2) || decide (60<n3) || G.rules.any λr=>decide (20<r.right.length))):=LH (by unfold Gr.great;rw[p,q,z]);clear c p q;by_cases g:n1<=40
 case neg =>
  have a:G.great=true:=by rw[d.out];simp;omega
  have t:decide ((40:Int)<(n1:Int))=true:=AG
  rw[a];clear g a;go_enter func14,ntmps14;go_wp2_with fail;go_ret;exact⟨rfl,Zy _ _⟩
 have t:decide ((40:Int)<(n1:Int))=false:=AG
 by_cases s:n2<=40
 case neg =>
  have a:G.great=true:=by rw[d.out];simp;omega
  have u:decide ((40:Int)<(n2:Int))=true:=AG
  rw[a];clear g s a;go_enter func14,ntmps14;go_wp2_with fail;go_ret;exact⟨rfl,Zy _ _⟩
 have u:decide ((40:Int)<(n2:Int))=false:=AG
 by_cases A:n3<=60
 case neg =>
  have a:G.great=true:=by rw[d.out];simp;omega
  have v:decide ((60:Int)<(n3:Int))=true:=AG
  rw[a];clear g s A a;go_enter func14,ntmps14;go_wp2_with fail;go_ret;exact⟨rfl,Zy _ _⟩
 have v:decide ((60:Int)<(n3:Int))=false:=AG
 have m:Hid (G.great=G.rules.any λr=>decide (20<r.right.length)):=LH (by rw[d.out];simp;omega);clear d;go_enter func14,ntmps14;go_wp2_with fail;go_loop [3] (λi=>∃k:Nat,k<=n3/\i = .int .i64 (k:Int)/\Hid (∀j,j<k->∀y,G.rules[j]? = some y->decide (20<y.right.length)=false)) (λi=>n3-(intOf i).toNat)
 case atStart=>exact⟨0,AU _,rfl,LH λj l=>AA⟩
 obtain⟨k,J,rfl,n⟩:=hrel;by_cases B:k<n3
 ·obtain⟨b,O,r,Ar,cr,rfl,H,o,P,R,S,hi⟩:=E.get B;have I:=hi.cap;by_cases D:20<r.right.length
  ·have f:Hid (G.great=true):=LH (by rw[m.out,Er];exact⟨r,AL o.out,by simp[D]⟩);have C:decide ((20:Int)<(r.right.length:Int))=true:=AG
   go_wp2_with fail;go_ret;exact⟨by rw[f.out];rfl,Zy _ _⟩
  have C:decide ((20:Int)<(r.right.length:Int))=false:=AG
  go_wp2_with fail;go_round
  case rel=>exact⟨k+1,AA,AF,LH (Vz n.out o.out AG)⟩
  simp[intOf];omega
 obtain rfl:k=n3:=AA
 have f:Hid (G.great=false):=LH (by
  rw[m.out,List.any_eq_false];intro x F;obtain⟨j,l⟩:=BU F;have:=n.out j (by have:=(AN.1 l).1;omega) x l;simpa using this)
 go_wp2_with fail;go_ret;exact⟨by rw[f.out];rfl,Zy _ _⟩
end
section
open Ieee
def Zsu(w':World)(p:Nat)(wd ps:List Int):Prop :=
 ∃b d a c,w'.cell? ⟨p,5,none⟩=some (.slice b wd.length d)/\w'.cell? ⟨p,6,none⟩=some (.slice a ps.length c)/\Za .i64 w' b wd.length d wd/\Za .i64 w' a ps.length c ps
theorem tr_read(h:GH)(G:Gr)(At:Option Addr)(n c:Nat)(t:List Int)(w:World)(z:Yf w h G)(F:∀t∈G.terms,t.name.size<=maxLen)(u:Za .i64 w At n c t)(ar:n<=400)(h1:h.n1<=100)(U:h.n2<=100)(V:h.n3<=100):
 Calls prog 122 #[GV h G.start,.slice At n c] w λe w'=>Below w.heap.size w w' /\
  ((Xl G t=none/\∃a,e = .returned (.tuple #[.pointer a,.int .i64 0]))\/(∃wd ps k p,Xl G t=some (wd,ps,k)/\0<k/\k<=400/\e = .returned (.tuple #[.pointer (some ⟨p,0,none⟩),.int .i64 (k:Int)])/\p<w'.heap.size/\Zsu w' p wd ps)):=by
 obtain rfl:=u.len;have ao:=u.cap;obtain⟨a1,n1,c1,a2,n2,c2,a3,n3,c3⟩:=h;simp only[] at h1 U V;have B:=Zy w (.cells #[.slice a1 n1 c1,.slice a2 n2 c2,.slice a3 n3 c3,.int .i64 G.start] 26);have Y:=Y1.new w 26 ⟨a1,n1,c1,a2,n2,c2,a3,n3,c3⟩ G.start;have O:=LH z;have P:=LH u;have L:=LH (J4 ⟨a1,n1,c1,a2,n2,c2,a3,n3,c3⟩ G _ (z.below B) F (by simp only[];omega) (by simp only[];omega));clear z u F;go_enter func122,ntmps122;go_wp2_with fail;generalize w.alloc (.cells #[.slice a1 n1 c1,.slice a2 n2 c2,.slice a3 n3 c3,.int .i64 G.start] 26)=W0 at *;(with_reducible refine L.out.mono ?_);rintro e o⟨rfl,D⟩;have j:=Zz B D;have Z:=Y.below D;have⟨y5,y0,y1,y2,y3⟩:=Z;simp only[] at y0 y1 y2 y3;rcases m:G.right with _ | _
 ·have d:Hid (Xl G t=none):=LH (by unfold Xl;rw[m];rfl);clear m;go_wp2_with fail;refine AV (results_tmp2 rfl _ _ _) rfl ?_;exact⟨j,.inl ⟨d.out,_,rfl⟩⟩
 by_cases an:(300:Int)<(t.length:Int)
 ·have d:Hid (Xl G t=none):=LH (by unfold Xl;rw[m,show decide (t.length<=300)=false by rw[AY];omega];rfl);clear m;go_wp2_with fail;refine AV (results_tmp2 rfl _ _ _) rfl ?_;exact⟨j,.inl ⟨d.out,_,rfl⟩⟩
 have r:=Gr.fits m;have au:=r.st;have ap:=r.n2;have q:Hid (Xl G t=match Y0 G t.length ⟨t,[],[]⟩ G.start with | none=>none | some (st,n)=>if st.rest=[] then some (st.word,st.posts,n) else none):=LH (by
  unfold Xl;rw[m,show decide (t.length<=300)=true by rw[BB];omega];rfl)
 have E:Wr w (o.alloc (.cells #[.slice a1 n1 c1,.slice a2 n2 c2,.slice a3 n3 c3,.int .i64 G.start,.slice At t.length c,.slice none 0 0,.slice none 0 0] 167)) o.heap.size ⟨a1,n1,c1,a2,n2,c2,a3,n3,c3⟩ G.start At c none 0 none 0 ⟨t,[],[]⟩ :=
  ⟨Blk.new _ _ _,P.out,BJ _ _ _ _,BJ _ _ _ _,λb X _=>by cases X⟩
 have y:=Zo j (.cells #[.slice a1 n1 c1,.slice a2 n2 c2,.slice a3 n3 c3,.int .i64 G.start,.slice At t.length c,.slice none 0 0,.slice none 0 0] 167);have M:=LH (tr_walk w ⟨a1,n1,c1,a2,n2,c2,a3,n3,c3⟩ G G.start O.out r o.heap.size j.size t.length ⟨t,[],[]⟩ G.start _ At c none 0 none 0 AA (AI _) (by show 0+6*t.length<=4000;omega) (by show 0+t.length<=4000;omega) AA AA y E);have ab:w.heap.size<=o.heap.size:=j.size;clear m r E;go_wp2_with fail;have aj:=LH j;have N:=LH y;generalize o.alloc (.cells #[.slice a1 n1 c1,.slice a2 n2 c2,.slice a3 n3 c3,.int .i64 G.start,.slice At t.length c,.slice none 0 0,.slice none 0 0] 167)=W2 at *;generalize o.heap.size=p at *;clear j y;(with_reducible refine M.out.mono ?_);rintro e w3⟨ai,am,J,T,I,S,g,v,C,W,A⟩;obtain⟨ad,z2,z4,z5,z6,_,_,_⟩:=v.cells;have x:=LH (N.out.trans (C.mono ab));have H:Zsu w3 p g.word g.posts:=⟨J,T,I,S,z5,z6,Yl v.word,Yl v.posts⟩;have R:=LH H;clear v C W H;by_cases l:g.rest=[]
 ·have s:g.rest.length=0:=by rw[l];rfl
  rw[s] at z4;rcases A with ⟨f,rfl⟩ | ⟨k,f,aa,aq,rfl⟩
  ·have d:Hid (Xl G t=none):=LH (by rw[q.out,f]);clear f l s;go_wp2_with fail;refine AV (results_tmp2 rfl _ _ _) rfl ?_;exact⟨x.out,.inl ⟨d.out,_,rfl⟩⟩
  have d:Hid (Xl G t=some (g.word,g.posts,k)):=LH (by rw[q.out,f];exact if_pos l);clear f l s;go_wp2_with fail;refine AV (results_tmp2 rfl _ _ _) rfl ?_;exact⟨x.out,.inr ⟨_,_,k,p,d.out,aa,AA,rfl,ad,R.out⟩⟩
 have s:0<g.rest.length:=List.length_pos_iff.2 l;have d:Hid (Xl G t=none):=LH (by
  rcases A with ⟨f,_⟩ | ⟨k,f,_⟩
  ·rw[q.out,f]
  rw[q.out,f];exact if_neg l)
 generalize g.rest.length=rl at *;rcases A with ⟨_,rfl⟩ | ⟨k,_,_,_,rfl⟩;all_goals
  clear l;go_wp2_with fail;refine AV (results_tmp2 rfl _ _ _) rfl ?_;exact⟨x.out,.inl ⟨d.out,_,rfl⟩⟩
theorem tr_Word(h:GH)(G:Gr)(At:Option Addr)(n c:Nat)(t:List Int)(w:World)(o:Yf w h G)(r:∀t∈G.terms,t.name.size<=maxLen)(s:Za .i64 w At n c t)(D:n<=400)(h1:h.n1<=100)(B:h.n2<=100)(C:h.n3<=100):
 Calls prog 69 #[GV h G.start,.slice At n c] w λe w'=>Below w w w' /\
  ((Xl G t=none/\e = .returned (.tuple #[.slice none 0 0,.int .i64 1]))\/(∃wd ps k A l,Xl G t=some (wd,ps,k)/\e = .returned (.tuple #[.slice A wd.length l,.int .i64 0])/\Za .i64 w' A wd.length l wd)):=by
 have b:=Zy w (.cells #[.slice h.a1 h.n1 h.c1,.slice h.a2 h.n2 h.c2,.slice h.a3 h.n3 h.c3,.int .i64 G.start] 26);have x:=LH (tr_read h G At n c t _ (o.below b) r (s.below b) D h1 B C);have m:=LH b;clear o r s;go_enter func69,ntmps69;go_wp2_with fail;generalize w.alloc (.cells #[.slice h.a1 h.n1 h.c1,.slice h.a2 h.n2 h.c2,.slice h.a3 h.n3 h.c3,.int .i64 G.start] 26)=I at *;(with_reducible refine x.out.mono ?_);rintro e J⟨f,⟨d,a,rfl⟩ | ⟨wd,ps,k,p,d,M,N,rfl,P,E⟩⟩
 ·have g:=LH (Zz m.out f);have j:=LH d;clear d f b;go_wp2_with fail;refine AV (results_tmp2 rfl _ _ _) rfl ?_;exact⟨g.out,.inl ⟨j.out,rfl⟩⟩
 have g:=LH (Zz m.out f);have j:=LH d;obtain⟨v,z,F,L,R,S,u,q⟩:=E;have y:=LH u;have H:=LH q;have O:((k:Int)==0)=false:=by rw[AP];omega
 clear d f b u q;go_wp2_with fail;refine AV (results_tmp2 rfl _ _ _) rfl ?_;exact⟨g.out,.inr ⟨wd,ps,k,v,z,j.out,rfl,y.out⟩⟩
end
section
open Go.Shelf
theorem Tryz.lays108:Go.Proofs.Lays.n108 prog Tryz.lays108_ren:={
 mixed:=AB
 f108:=func71.trans (congrArg some AB)
 t0:=underlying0
 a0:=Tryz.isAgg0
 z0:=Tryz.sizeOf0
 v0:=Tryz.zeroValue0
 t3:=underlying3
 a3:=Tryz.isAgg3
 z3:=Tryz.sizeOf3
 v3:=Tryz.zeroValue3
 t4:=underlying4
 a4:=Tryz.isAgg4
 z4:=Tryz.sizeOf4
 v4:=Tryz.zeroValue4
 t28:=underlying27
 a28:=Tryz.isAgg27
 z28:=Tryz.sizeOf27
 v28:=Tryz.zeroValue27 }
open Go.Lib in
theorem Tryz.slices_Index_int(b d n c:Nat)(a:List Int)(x:Int)(w:World)(h:n<=a.length)(f:n<=9223372036854775807)(g:∀j,j<a.length->w.cell? ⟨b,d+j,none⟩=some (.int .i64 (a.getD j 0))):
 Calls prog 71 #[.slice (some ⟨b,d,none⟩) n c,.int .i64 x] w λe w'=>e = .returned (.int .i64 (Lib.idxOf (a.take n) x))/\w'=w:=Any.slices_Index_int Tryz.lays108 b d n c a x w h f g
open Go.Lib in
theorem Tryz.slices_Index_int_empty(a:Option Addr)(c:Nat)(x:Int)(w:World):
 Calls prog 71 #[.slice a 0 c,.int .i64 x] w λe w'=>e = .returned (.int .i64 (Lib.idxOf [] x))/\w'=w:=Any.slices_Index_int_empty Tryz.lays108 a c x w
theorem tr_Index(A:Option Addr)(n c:Nat)(l:List Int)(x:Int)(w:World)(h:Za .i64 w A n c l):
 Calls prog 71 #[.slice A n c,.int .i64 x] w λe w'=>e = .returned (.int .i64 (Lib.idxOf l x))/\w=w':=by
 have r:=h.cap;obtain rfl:=h.len;by_cases d:l=[]
 ·subst d;refine (Tryz.slices_Index_int_empty A c x w).mono ?_;rintro e w'⟨rfl,rfl⟩;exact⟨rfl,rfl⟩
 have o:0<l.length:=List.length_pos_iff.2 d;obtain⟨b,f,s,rfl,_⟩:=h.get o;have k:∀j,j<l.length->w.cell? ⟨b,f+j,none⟩=some (.int .i64 (l.getD j 0)):=λj m=>by
  obtain⟨q,t,u,a,_,g,p⟩:=h.get m;injection a with a;injection a with e1 e2 e3;subst e1;subst e2;rw[AO,g.out];exact p
 refine (Tryz.slices_Index_int b f l.length c l x w (AI _) AA k).mono ?_;rintro e w'⟨rfl,rfl⟩;rw[AQ (AI _)];exact⟨rfl,rfl⟩
theorem Jj.no{t:List Int}{w:World}{a:Nat}(b:Below w w w')(h:Vj G t [] a):Jj G t w (.returned (.tuple #[.slice none 0 0,.int .i64 (a:Int)])) w' :=
 ⟨b,[],a,none,0,rfl,Zq.nil _ _ _ _ AE,h⟩
end
section
open Go.Shelf
open Go.ChangeShapes Go.WideShapes Go.ChangeAt Go.RowKit
open Go.ChangeShapes Go.WideShapes Go.ChangeAt Go.RowKit
theorem Js.of_row{w:World}{x:Addr}{len cap:Nat}(k:len<=cap)(l:cap<=maxLen)(p:ss.length=cap)(d:∀i,i<ss.length->w.cell? (x.add i)=some (.string (ss.getD i ByteArray.empty))):Js w (some x) len cap (ss.take len):=by
 have c:(ss.take len).length=len:=by rw[BY];omega
 refine⟨by rw[BF,c],k,by simpa [maxLen] using l,λm=>?_⟩;rw[BF,c] at m;obtain⟨b,a,o⟩:=x;have h0:=d 0 AA;have n:o=none:=by simpa [Addr.add] using World.cell?_spot h0
 subst n;have h:w.cell? ⟨b,a,none⟩=some (.string (ss.getD 0 ByteArray.empty)):=by simpa [Addr.add] using h0
 refine⟨b,a,rfl,Zyg h,λj f=>?_⟩;rw[BF,c] at f;have g:=d j AA;have e:(⟨b,a,none⟩:Addr).add j=⟨b,a+j,none⟩:=by
  unfold Addr.add;split
  ·rename_i h0;subst h0;rfl
  rfl
 rw[e] at g;rw[g,BA,En,if_pos f,AM AA,AO,AM AA];rfl
end
section
open Go.Shelf
open Go.ChangeShapes Go.WideShapes Go.ChangeAt Go.RowKit
open Go.ChangeShapes Go.WideShapes Go.ChangeAt Go.RowKit
open Go.ChangeShapes Go.WideShapes Go.ChangeAt Go.RowKit Go.Lib Go.Deep
open Go.ChangeShapes Go.WideShapes Go.ChangeAt Go.RowKit Go.Lib Go.Deep
variable {H:Type} {enc:TypeId × Value->H} {w:World} {base:Nat} {held:Bool}
theorem open_strsG{fuel:Nat}{x:DataW H × List MemPlace}(h:DataW.trod enc prog w base (λ_=>true) held fuel 23 [v]=some x):
 ∃A n c ss,v = .slice A n c/\Js w A n c ss:=by
 rcases open_strings underlying23 underlying9 AB h with ⟨b,_⟩ | ⟨a,l,c,ss,b,_,f,g,j,_,d,_⟩
 ·simp at b;exact⟨none,0,0,[],b,Sl.nil _ _ _ AC⟩
 simp at b;exact⟨some a,l,c,_,b,Js.of_row f g (by simpa using j) d⟩
structure GrIn (w:World) (h:GH) (G:Gr):Prop where
 at_:Yf w h G
 small:∀t∈G.terms,t.name.size<=maxLen
 start:U3 G.start
theorem Kr{r:Reach}{b0:Nat}{d:DataW H}(o:Value.okWide prog w r b0 26 v)(h:DataW.Trod enc prog w base (λ_=>true) held 26 v d p):
 ∃(a:GH) (G:Gr),v=GV a G.start/\GrIn w a G:=by
 obtain⟨x,y,z,A,B,C,D,E,n,rfl,_,_,g0,c,f,g⟩:=Go.Joins.open_agg4 underlying26 AB AB o h;obtain⟨a1,n1,c1,ts,rfl,l,m⟩:=open_terms g0;obtain⟨a2,n2,c2,ss,rfl,k⟩:=open_strsG c;obtain⟨a3,n3,c3,t,rfl,j,q⟩:=open_rules f;obtain⟨u,b,_,s⟩:=DataW.trod_int underlying3 g;simp at b;subst b;exact⟨⟨a1,n1,c1,a2,n2,c2,a3,n3,c3⟩,⟨ts,ss,t,u⟩,rfl,⟨l,k,j,q⟩,m,bounds_i64 s⟩
end
end Go.Proofs.YtggbjdmpjidhgaaGreatDoor
