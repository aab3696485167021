/- grammars: the reference's Right, walked. -/
import Derived.Test.YtggbjdmpjidhgaaGreatDoorY04
import Derived.Test.YtggbjdmpjidhgaaGreatDoorY05
import Derived.Test.YtggbjdmpjidhgaaGreatDoorY06
set_option linter.all false
set_option maxHeartbeats 1500000
set_option maxRecDepth 100000
namespace Go.Proofs.YtggbjdmpjidhgaaGreatDoor
open Go.RowKit Go.Proofs.Tryz
variable{r:Rul}{i n g id x:Nat}{s:Int}{a:Act}{N:List Bool}{A0 A:Option Addr}{ops:Array Oper}{rest l:List Oper}{o:Oper}{Q:Exit->Act->World->Prop}{J:Array Bool->Act->World->Prop}{w':World}{xs:List Nat}
theorem cf_has(h:GH)(G:Gr)(s:Int)(w:World)(a:Yf w h G)(b:U3 s)(o:h.n1<=1000)(p:h.n2<=1000):
 Calls prog 46 #[GV h G.start,.int .i64 s] w λe w'=>e = .returned (.bool (G.has s))/\Below w w w':=by
 obtain⟨a1,n1,c1,a2,n2,c2,a3,n3,c3⟩:=h;have g:G.terms.length=n1:=a.terms.len;have j:G.nons.length=n2:=a.nons.len;have m:G.has s=if 0<=s then decide (s<(n1:Int)) else decide (-1-s<(n2:Int)):=by unfold Gr.has;rw[g,j]
 rw[m];simp only[] at o p;clear m g j a;by_cases k:0<=s
 ·rw[if_pos k];obtain⟨r,t⟩:=b;go_enter func46,ntmps46;go_wp2_with fail;go_ret;exact⟨AE,Zy _ _⟩
 rw[if_neg k];have f:=λw=>cf_non s w b AA;obtain⟨r,t⟩:=b;have d:decide (s<0)=true:=AG
 go_enter func46,ntmps46;have q:=Y1.new w 26 ⟨a1,n1,c1,a2,n2,c2,a3,n3,c3⟩ G.start;have l:=Zy w (.cells #[.slice a1 n1 c1,.slice a2 n2 c2,.slice a3 n3 c3,.int .i64 G.start] 26);have n:=LH f;clear f;go_wp2_with fail;generalize w.alloc (.cells #[.slice a1 n1 c1,.slice a2 n2 c2,.slice a3 n3 c3,.int .i64 G.start] 26)=c at *;obtain⟨B,u,v,y,z⟩:=q;simp only[] at u v y z;have A:=Yt c;refine Zs AB AB ?_;repeat (go_big_quiet_step ((go_at_call 87;exact Qo (n.out _))))
 refine BK ?_;rintro _⟨x,rfl⟩;go_wp2_with fail;go_ret;exact⟨AE,l.trans ((Zr c x).mono l.size)⟩
theorem cf_right1(s:ByteArray)(w:World):
 Calls prog 102 #[.string s] w λe w'=>e = .returned (.bool (!Xi (Zh s)))/\w=w':=by
 have c1:=lx_name s w;generalize Xi (Zh s)=p at *;have a:=LH c1;clear c1;go_enter func102,ntmps102;go_wp2_with (go_at_call 103;refine a.out.mono ?_;rintro e w'⟨rfl,rfl⟩);go_ret;exact⟨rfl,rfl⟩
theorem cf_rule1(h:GH)(G:Gr)(m p:Nat)(s left:Int)(Ar:Option Addr)(A cr:Nat)(a:Int)(w:World)(o:Yf w h G)(v:U3 s)(r:h.n1<=1000)(t:h.n2<=1000)(y:Y1 w m h G.start)(z:Fl w p left Ar A cr a):
 Calls prog 167 #[.int .i64 s,.pointer (some ⟨m,0,none⟩),.pointer (some ⟨p,0,none⟩)] w λe w'=>e = .returned (.bool (!G.symOK a s))/\Below w.heap.size w w':=by
 have l:=cf_has h G s w o v r t;obtain⟨a1,n1,c1,a2,n2,c2,a3,n3,c3⟩:=h;have n:G.symOK a s=(G.has s&&!(decide (0<=s)&&decide (a=-1))):=rfl;rw[n];obtain⟨L,B,C,D,E⟩:=y;obtain⟨J,F,H,I⟩:=z;simp only[] at B C D E;generalize G.has s=b at *;have CH:=LH l;clear l o n;have x:(b=false)\/(b=true/\s<0)\/(b=true/\0<=s/\a=-1)\/(b=true/\0<=s/\a ≠ -1):=by
  cases b
  ·simp
  simp only[Bool.true_eq_false,false_or,true_and];omega
 rcases x with rfl | ⟨rfl,g⟩ | ⟨rfl,g,f⟩ | ⟨rfl,g,f⟩
 ·go_enter func167,ntmps167;go_wp2_with (go_at_call 46;(with_reducible refine CH.out.mono ?_);rintro e k⟨rfl,c⟩);go_ret;exact⟨rfl,c⟩
 ·have d:decide (0<=s)=false:=AG
  go_enter func167,ntmps167;go_wp2_with (go_at_call 46;(with_reducible refine CH.out.mono ?_);rintro e k⟨rfl,c⟩);go_ret;exact⟨by simp[d],c⟩
 ·have d:decide (0<=s)=true:=AG
  have q:(a == -1)=true:=by rw[BO];exact f
  have j:Hid (decide (a=-1)=true):=LH (by simp[f]);clear f;go_enter func167,ntmps167;go_wp2_with (go_at_call 46;(with_reducible refine CH.out.mono ?_);rintro e k⟨rfl,c⟩;have u:=(Jd c).1);go_ret;exact⟨by rw[d,j.out];rfl,c⟩
 have d:decide (0<=s)=true:=AG
 have q:(a == -1)=false:=by rw[AQ];exact f
 have j:Hid (decide (a=-1)=false):=LH (by simp[f]);clear f;go_enter func167,ntmps167;go_wp2_with (go_at_call 46;(with_reducible refine CH.out.mono ?_);rintro e k⟨rfl,c⟩;have u:=(Jd c).1);go_ret;exact⟨by rw[d,j.out];rfl,c⟩
theorem cf_rule(h:GH)(G:Gr)(r:Rul)(Ar:Option Addr)(cr:Nat)(w:World)(n:Yf w h G)(o:Za .i64 w Ar r.right.length cr r.right)(z:∀s∈r.right,U3 s)(x:h.n1<=1000)(y:h.n2<=1000):
 Calls prog 104 #[GV h G.start,.agg #[.int .i64 r.left,.slice Ar r.right.length cr,.int .i64 r.prec]] w λe w'=>e = .returned (.bool (G.ruleOK r))/\Below w w w':=by
 have c1:=λF R (s:Int) w' (L:Yf w' h G) p O P=>cf_rule1 h G F R s r.left Ar r.right.length cr r.prec w' L p x y O P;obtain⟨a1,n1,u,a2,n2,c2,a3,n3,c3⟩:=h;have v:G.terms.length=n1:=n.terms.len;have T:=o.cap;simp only[] at x y;have d:Hid (G.ruleOK r=(decide (r.right.length<=6)&&decide (-1<=r.prec/\r.prec<(n1:Int))&&r.right.all (G.symOK r.prec))):=LH (by unfold Gr.ruleOK;rw[v]);clear v;have j:=λw=>Jx r.prec (-1) ((n1:Int)-1) w;have A:Yb r.prec (-1) ((n1:Int)-1)=decide (-1<=r.prec/\r.prec<(n1:Int)):=by
  unfold Yb;rw[BZ,BB,BB];omega
 rw[A] at j;clear A;generalize decide (-1<=r.prec/\r.prec<(n1:Int))=f at *;have q:=LH j;have B:=LH c1;have C:=LH n;have D:=LH o;have E:=LH z;clear j c1 n o z;obtain⟨a,l,m⟩:=Zzq w 26 52 ⟨a1,n1,u,a2,n2,c2,a3,n3,c3⟩ G.start r.left Ar r.right.length cr r.prec;have U:IntKind.i64.wrap ((n1:Int)-1)=(n1:Int)-1:=BS _ AA;have N:(6<(r.right.length:Int))\/((r.right.length:Int)<=6/\f=false)\/((r.right.length:Int)<=6/\f=true):=by
  cases f <;> simp <;> omega
 rcases N with g | ⟨g,rfl⟩ | ⟨g,rfl⟩
 ·have b:Hid (G.ruleOK r=false):=LH (by
   rw[d];have:decide (r.right.length<=6)=false:=AG
   rw[this];rfl)
  clear l m;have c:=LH a;clear a;go_enter func104,ntmps104;go_wp2_with fail;go_ret;exact⟨by rw[b];rfl,c⟩
 ·have b:Hid (G.ruleOK r=false):=LH (by rw[d];simp);clear l m;have c:=LH a;clear a;go_enter func104,ntmps104;go_wp2_with fail;refine (q.out _).mono ?_;rintro e S⟨rfl,rfl⟩;go_wp2_with fail;go_ret;exact⟨by rw[b];rfl,c⟩
 have b:Hid (G.ruleOK r=r.right.all (G.symOK r.prec)):=LH (by
  rw[d];have:decide (r.right.length<=6)=true:=AG
  rw[this];rfl)
 go_enter func104,ntmps104;go_wp2_with fail;refine (q.out _).mono ?_;rintro e S⟨rfl,rfl⟩;go_wp2_with fail;generalize (w.alloc (.cells #[.slice a1 n1 u,.slice a2 n2 c2,.slice a3 n3 c3,.int .i64 G.start] 26)).alloc (.cells #[.int .i64 r.left,.slice Ar r.right.length cr,.int .i64 r.prec] 52)=t at *;have H:Zyw 167 #[.pointer (some ⟨w,0,none⟩),.pointer (some ⟨w+1,0,none⟩)] (Value.int .i64) t r.right (λs=>!G.symOK r.prec s):=λs p w' k =>
  B w (w.heap.size+1) s w' ((C.below a).below k) (E s p) (l.below k) (m.below k)
 have J:=U1 Ar r.right.length cr r.right _ _ _ t enters_rule1 (D.below a) H;refine J.mono ?_;rintro e V⟨rfl,I⟩;go_wp2_with fail;go_ret;have M:(!r.right.any λs=>!G.symOK r.prec s)=r.right.all (G.symOK r.prec):=by
  rw[List.all_eq_not_any_not]
 exact⟨by rw[b,<-M];rfl,Zz a I⟩
theorem Wn(ids:Rul->List Bool->List Int):∀a,Qv (Yy ids a)
 | []=>Qv.id
 | r::a=>Qv.comp (f:=Ce ids r) ⟨λN=>((F5 N (ids r N)).1).symm,λN i h=>(F5 N (ids r N)).2 i h⟩ (Wn ids a)
theorem Zzs(ids:Rul->List Bool->List Int)(a:List Rul)(N:List Bool):(Yy ids a N).length=N.length:=(Wn ids a).len N
theorem passI_le(ids:Rul->List Bool->List Int)(a:List Rul)(N:List Bool):LeB N (Yy ids a N):=⟨(Zzs ids a N).symm,λi h=>(Wn ids a).up N i h⟩
theorem Dw(ids:Rul->List Bool->List Int)(a:List Rul)(N:List Bool):∀k,(Z3 (Yy ids a) k N).length=N.length
 | 0=>rfl
 | k+1=>by rw[Z3,Zzs,Dw ids a N k]
theorem Qq(b:Bool)(G:Gr):(U5 b G).length=G.nons.length:=by unfold U5;rw[Ad];simp
theorem Vx(G:Gr):(Zt G).length=G.nons.length:=Qq true G
theorem passI_len'(ids:Rul->List Bool->List Int)(a:List Rul)(N:List Bool):(Yy ids a N).length=N.length:=(Wn ids a).len N
theorem Ge(ids:Rul->List Bool->List Int):∀(a:List Rul) {N:List Bool},Yy ids a N=N->∀r∈a,Jz N (ids r N)=N
 | [],N,h,r,b=>by cases b
 | q::a,N,h,r,b=>by
   have c:Ce ids q N=N:=Qv.anti (f:=Ce ids q) (g:=Yy ids a) ⟨λN=>((F5 N (ids q N)).1).symm,λN i h=>(F5 N (ids q N)).2 i h⟩ (Wn ids a) h;rcases BV.1 b with rfl | b
   ·exact c
   refine Ge ids a ?_ r b;have:Yy ids a (Ce ids q N)=N:=h;rwa [c] at this
theorem grown_fix(b:Bool)(G:Gr):Xs (Xo b) G.rules (U5 b G)=U5 b G:=by
 have:=(Ng (Xo b) G.rules).fix (List.replicate G.nons.length false);rw[Ef] at this;exact this
theorem Ue{b:Bool}{G:Gr}(d:r∈G.rules)(c:r.left.toNat<G.nons.length)(h:Xj b (U5 b G) r.right=true):(U5 b G).getD r.left.toNat false=true:=by
 have a:=Zzc (Xo b) G.rules (grown_fix b G) r d;unfold Qa at a;rw[if_pos (show Xo b r (U5 b G)=true from h)] at a;rw[<-a];exact (Uh _ _ _).2 (.inr ⟨rfl,by rw[Qq];exact c⟩)
theorem prod_rule{G:Gr}(g:G.Fits)(h:(Zt G).getD i false=true):∃r∈G.rules,r.left.toNat=i/\Xj true (Zt G) r.right=true:=by
 have:=Zz2 (b:=true) (G:=G) (λi=>(Zt G).getD i false=true/\∃r∈G.rules,r.left.toNat=i/\Xj true (Zt G) r.right=true) (λr a c=>?_) h
 ·exact this.2
 have d:Xj true (Zt G) r.right=true:=U8.2 λs f=>⟨(c s f).1,λh0=>((c s f).2 h0).1⟩;refine⟨Ue (b:=true) a ?_ d,r,a,rfl,d⟩;have:=g.left r a;omega
theorem Ms{G:Gr}(d:G.Fits):∀(f:Nat) {s:Int},Qw G f s 0≠0->Xg (Zj G) s=true
 | 0,s,h=>by
   exfalso;unfold Qw at h;split at h
   ·exact h (by simp[K0])
   ·exact h rfl
 | f+1,s,h=>by
   by_cases h0:0<=s
   ·rw[Un G _ h0] at h;exact absurd (by simp[K0]) h
   rw[Fg G f AA] at h;obtain⟨r,a,l⟩:∃r∈G.rules.filter (λr=>decide (r.left.toNat=Zp s)),Zx (Qw G f) r.right 0≠0:=by
    apply DW;intro k;apply h;unfold Yc;rw[Mc];intro r a;apply DW;intro m;exact k ⟨r,a,m⟩
   rw[List.mem_filter,BB] at a;have g:∀q∈r.right,Xg (Zj G) q=true:=λq c=>Ms d f λn=>l (Uf.2 ⟨q,c,n⟩);have j:Xj false (Zj G) r.right=true:=U8.2 λq c=>by
    have:=g q c;unfold Xg at this;rw[AS,BB] at this;exact⟨λh1=>AA,λ_=>this.2⟩
   have o:=d.left r a.1;have:=Ue (b:=false) (G:=G) a.1 AA j;rw[a.2] at this;unfold Xg;rw[AS,BB];exact⟨AA,this⟩
theorem Jw{G:Gr}(a:Xq G)(h:Zv G s 0≠0):Xg (Zj G) s=true:=Ms a.fits _ h
theorem rule_next{G:Gr}(c:Xq G){a:Nat}{q:Int}(f:r.right[a]? = some q){m k:Nat}(o:m<=n)(l:k<=m)(d:m=n->∀(p:Nat) s,p<a->r.right[p]? = some s->Xg (Zj G) s=true)(g:Zv G q k≠0):m-k=n->∀(p:Nat) s,p<a+1->r.right[p]? = some s->Xg (Zj G) s=true:=by
 intro j p s t b;rcases (AA:p<a\/p=a) with h | rfl
 ·exact d AA p s h b
 rw[f] at b;obtain rfl:=BI b;obtain rfl:k=0:=AA
 exact Jw c g
theorem Wk.cells{w:World}{p B:Nat}{h:GH}{G:Gr}(k:Wk w p B h G):p<w.heap.size/\w.cell? ⟨p,0,none⟩=some (.slice h.a1 h.n1 h.c1)/\w.cell? ⟨p,1,none⟩=some (.slice h.a2 h.n2 h.c2)/\w.cell? ⟨p,2,none⟩=some (.slice h.a3 h.n3 h.c3)/\w.cell? ⟨p,3,none⟩=some (.int .i64 0) /\
 w.cell? ⟨p,7,none⟩=some (.bool false)/\w.cell? ⟨p,10,none⟩=some (.int .i64 0)/\w.frozen? ⟨p,0,none⟩=false/\w.frozen? ⟨p,1,none⟩=false/\w.frozen? ⟨p,2,none⟩=false :=
 ⟨k.blk.lt,k.blk.cell 0,k.blk.cell 1,k.blk.cell 2,k.blk.cell 3,k.blk.cell 7,k.blk.cell 10,k.blk.frozen 0,k.blk.frozen 1,k.blk.frozen 2⟩
theorem Qn(W:World)(a:List Value)(e:TypeId):∀j u,a[j]? = some u->(W.alloc (.cells a.toArray e)).cell? ((⟨W,0,none⟩:Addr).add j)=some u:=by
 intro j u d;have b:(⟨W,0,none⟩:Addr).add j=⟨W,j,none⟩:=by
  unfold Addr.add;split
  ·rename_i c;subst c;rfl
  simp
 rw[b,World.cell?_alloc_mark];simpa using d
theorem Wk.fresh(w:World):Wk (w.alloc (.cells (Q0 noH) 193)) w (w.alloc (.cells (Q0 noH) 193)).heap.size noH ⟨[],[],[],0⟩ :=
 ⟨Blk.new _ _ _,BJ _ _ _ _,BJ _ _ _ _,⟨[],BJ _ _ _ _,Kz.nil _ _⟩,(λb a _=>by cases a),(λb a _=>by cases a),(λb a _=>by cases a),rfl,(λr c=>by cases c),AV _,AV _,AV _⟩
theorem tr_one(n:Int)(w:World):Calls prog 90 #[.int .i64 n] w λe w'=>e = .returned (.int .u32 ((Y6 n:Nat):Int))/\Below w w w':=by
 have b:=Zy w (.cells #[.int .i64 n] 3);have a:=set_of (some ⟨w,0,none⟩) 1 1 [n] (w.alloc (.cells #[.int .i64 n] 3)) (Ztd w 3 n);rw[ofN_one] at a;have c:=LH a;have d:=LH b;clear a b;go_enter func90,ntmps90;go_wp2_with (go_at_call 149;refine c.out.mono ?_;rintro e w'⟨rfl,rfl⟩);go_ret;exact⟨rfl,d⟩
theorem Zwl.ext{w W:World}{a:Nat}(h:Zwl w a g n N)(d:a<w.heap.size)(c:g<w.heap.size)(b:Below w w W):Zwl W a g n N :=
 ⟨(b.cell (p:=⟨a,0,none⟩) d).trans h.1,λi hi=>(b.cell (p:=⟨g,i,none⟩) c).trans (h.2 i hi)⟩
theorem pred_bare{w:World}{a:Nat}(h:Zwl w a g n N)(f:a<w.heap.size)(c:g<w.heap.size)(d:n<=1000):
 PredAt prog 147 #[.pointer (some ⟨a,0,none⟩)] (encB n) (λs=>Xg N s.1) w :=
 λW x b=>Zsz a g n N x.1 W (h.ext f c b) d x.2.1 x.2.2
theorem Uc{w a:World}{n0 c0:Nat}{b0:Bool}(f:Blk a g 77 #[.slice A0 n0 c0,.bool b0])(d:Below w w a)(j:w.heap.size<=g)(A:Option Addr)(n c:Nat)(b:Bool):
 Below w w ((a.setCell ⟨g,0,none⟩ (.slice A n c)).setCell ⟨g,1,none⟩ (.bool b)) /\
 Blk ((a.setCell ⟨g,0,none⟩ (.slice A n c)).setCell ⟨g,1,none⟩ (.bool b)) g 77 #[.slice A n c,.bool b]/\Zf a ((a.setCell ⟨g,0,none⟩ (.slice A n c)).setCell ⟨g,1,none⟩ (.bool b)):=by
 refine⟨(d.trans (Zn (Zd _ _ _ _) d.size j)).trans (Zn (Zd _ _ _ _) (by simpa using d.size) j),(f.set 0 _).set 1 _,?_⟩;refine Zf.of_off ((Off.of_set a g 0 (.slice A n c)).trans (Off.of_set _ g 1 (.bool b)) λ_ _ h=>h) λq k=>?_;rw[k];exact Jk f
section
open Go.RowKit Go.Shelf
attribute [local go_sem] Oper.semAt_some
open Go.RowKit Go.Shelf Go.Sort
theorem sorted_s(b L cap:Nat)(A:Option Addr)(a:List ByteArray)(G:a.length<=1000)(w:World)(B:b<w.heap.size)(q:w.cell? ⟨b,0,none⟩=some (.slice A L cap))(p:Js w A L cap a):
 Calls prog 161 #[.func (.func 206) #[] #[.pointer (some ⟨b,0,none⟩)]] w (RetSorted w a):=by
 have H:=LH (collect_s b L cap A a G w B q p);clear q p;go_enter func161,ntmps161;go_wp2_with (go_at_call 204;refine H.out.mono ?_;rintro e W⟨v,rfl,I,g⟩);have s:(byL a).length=a.length:=by simp[byL]
 rcases I.2 with ⟨rfl,J⟩ | ⟨c,m,U,rfl,h,k,O,P,R,S⟩
 ·have M:=BL J;subst M;have z:=LH (Tryz.slices_Sort_string_none none 0 W);go_wp2_with (go_at_call 205;refine z.out.mono ?_;rintro e w'⟨rfl,rfl⟩);go_ret;exact⟨g,.inl ⟨rfl,rfl⟩⟩
 have r:c<W.heap.size:=(Array.getElem?_eq_some_iff.1 k).1;have o:Holds encStr W c 0 (byL a).toArray:=holds_of_block k (by rw[s,encStr_byL];simpa using S);have d:=Tryz.slices_Sort_string c 0 m (byL a) W o r AA;rw[s] at d;have u:=LH d;clear d o;go_wp2_with (go_at_call 205;refine u.out.mono ?_;rintro e w'⟨rfl,l,os,rfl⟩);go_ret;have t:((byL a).mergeSort λx y=>decide (x<=y)).length=(byL a).length:=AE
 have F:=ownsRow_sorted (n:=l) (os:=os) t h k AA P R;have C:=g.grown (grownBy_sorted (n:=l) (os:=os) ((byL a).mergeSort λx y=>decide (x<=y)).toArray) g.size (λj E=>by cases E;exact h);refine⟨C,.inr ⟨c,m,rfl,h,?_,O,?_⟩⟩
 ·exact AK r (grownBy_sorted (n:=l) (os:=os) _).size
 rcases F.2 with ⟨f,_⟩ | ⟨X,T,V,f,_,D,_,_,_,N⟩
 ·cases f
 injection f with e1 _ _;injection e1 with e1;injection e1 with e1;subst e1;exact holds_of_block D (by rw[t];simpa using N)
end
section
open Go.RowKit Go.Shelf Go.Sort
theorem cf_alone(A:Option Addr)(n c:Nat)(a:List ByteArray)(w:World)(h:Js w A n c a)(J:n<=1000):
 Calls prog 100 #[.slice A n c] w λe w'=>e = .returned (.bool (decide a.Nodup))/\Below w w w':=by
 obtain rfl:=h.len;have O:=h.cap;have p:=values_in A a.length c w;have r:=Zy w (.cells #[.slice A a.length c] 23);have l:=Wg w 23 #[.slice A a.length c] 0;simp only[DS,List.getElem?_cons_zero] at l;have o:=sorted_s w a.length c A a J (w.alloc (.cells #[.slice A a.length c] 23)) AE l (h.below r);have S:=Zl w (.cells #[.slice A a.length c] 23);have B:=LH p;have z:=LH o;clear p o l;go_enter func100,ntmps100;go_wp2_with fail;refine B.out.mono ?_;rintro e w1⟨rfl,rfl⟩;go_wp2_with fail;refine z.out.mono ?_;rintro e b⟨H,L⟩;have k:=Zz r H;rcases L with ⟨rfl,rfl⟩ | ⟨g,cap,rfl,N,R,P,s⟩
 ·have D:=LH (Tryz.slices_Compact_string_empty none 0 b);go_wp2_with fail;refine D.out.mono ?_;rintro e M⟨rfl,rfl⟩;go_wp2_with fail;go_ret;exact⟨AE,k⟩
 have u:((byL a).mergeSort λx y=>decide (x<=y)).length=a.length:=by simp[byL]
 have f:=Tryz.slices_Compact_string g 0 cap ((byL a).mergeSort λx y=>decide (x<=y)) b s AA AA;rw[u] at f;have t:decide a.Nodup=decide ((Lib.compact ((byL a).mergeSort λx y=>decide (x<=y))).length=a.length):=by
  have:=sorted_len (byL a);rw[byL_nodup,show (byL a).length=a.length by simp[byL]] at this;rw[BZ,BB,BB];exact this.symm
 have E:=LH t;have C:Hid (∀q d,Below w w (putRow encStr (Sort.ahead b q) g 0 d)):=LH λq d=>by
  have:=k.grown (grownBy_sorted (n:=q) (os:=#[]) (g:=g) d) k.size (λj I=>by cases I;omega);rwa [grow_none] at this
 generalize (Lib.compact ((byL a).mergeSort λx y=>decide (x<=y))).length=m at *;have v:=LH f;clear f s t u;go_wp2_with fail;refine v.out.mono ?_;rintro e M⟨rfl,q,rfl⟩;have G:=LH (C q (Lib.compact ((byL a).mergeSort λx y=>decide (x<=y))++List.replicate (a.length-m) []).toArray);generalize putRow encStr (Sort.ahead b q) g 0 (Lib.compact ((byL a).mergeSort λx y=>decide (x<=y))++List.replicate (a.length-m) []).toArray=T at *;have F:Hid (((m:Int)==(a.length:Int))=decide (m=a.length)):=LH (by rw[BZ];simp;omega);go_wp2_with fail;go_ret;exact⟨by rw[E,<-F];rfl,G⟩
end
section
open Go.RowKit Go.Maps
theorem cf_terms(A:Option Addr)(n c:Nat)(l:List Trm)(w:World)(h:N8 w A n c l)(hn:n<=1000)(V:∀t∈l,t.name.size<=maxLen):
 Calls prog 98 #[.slice A n c] w λe w'=>e = .returned (.bool (H0 l))/\Below w w w':=by
 obtain rfl:=h.len;have a3:=h.cap;have Hs:=LH V;have Hh:=LH h;clear V;go_enter func98,ntmps98;go_wp2_with fail;go_loopw [4,7] (λ_ i wr=>∃(k:Nat),k<=l.length/\i = .int .i64 (k:Int)/\Below w w wr/\Hid (∀j,j<k->∀y,l[j]? = some y->(!Up y)=false)) (λ_ i _=>l.length-(intOf i).toNat)
 case atStart=>exact⟨0,AV _,rfl,AL _ _,LH λj hj=>AA⟩
 obtain⟨k,hk,rfl,f,N⟩:=hrel;by_cases ar:k<l.length
 ·obtain⟨b,a6,t,rfl,hb,C,q0,q1,q2⟩:=h.get ar;rw[<-f.cell (by exact hb)] at q0 q1 q2;have W:=Hs.out t (AM C.out);have G:=f.alloc f.size (.cells #[.string t.name,.int .i64 t.level,.int .i64 t.assoc] 91);have p0:=Wg wr 91 #[.string t.name,.int .i64 t.level,.int .i64 t.assoc] 0;have v:=Wg wr 91 #[.string t.name,.int .i64 t.level,.int .i64 t.assoc] 1;have J:=Wg wr 91 #[.string t.name,.int .i64 t.level,.int .i64 t.assoc] 2;have p5:=Zl wr (.cells #[.string t.name,.int .i64 t.level,.int .i64 t.assoc] 91);simp only[DS,List.getElem?_cons_zero,List.getElem?_cons_succ] at p0 v J;go_wp2_with fail;generalize wr.alloc (.cells #[.string t.name,.int .i64 t.level,.int .i64 t.assoc] 91)=O at *;have m:wr.heap.size<O.heap.size:=AA
  clear p5 q0 q1 q2;generalize wr.heap.size=gt at *;have q:=LH ((cf_named t.name O W).mono λe w' I=>And.intro I.1 (And.intro (Jd I.2).1 (LH (G.trans (I.2.mono G.size)))));have P:=λw=>Jx t.level 0 24 w;have R:=λw=>Jx t.assoc 0 3 w;have U:Up t=(Q7 t.name&&Yb t.level 0 24&&Yb t.assoc 0 3&&(decide (t.level=0)==decide (t.assoc=0))):=rfl;have X:Yb t.level 0 24=true->0<=t.level/\t.level<=24:=Ud;have Y:Yb t.assoc 0 3=true->0<=t.assoc/\t.assoc<=3:=Ud;have s:=LH U;clear U;generalize Q7 t.name=g at *;generalize Yb t.level 0 24=u at *;generalize Yb t.assoc 0 3=D at *;have z:=LH P;have L:=LH R;have ak:=LH X;have a0:=LH Y;clear P R W G X Y;have aw:g=false\/(g=true/\u=false)\/(g=true/\u=true/\D=false)\/(g=true/\u=true/\D=true):=by cases g <;> cases u <;> cases D <;> simp
  have T:Up t=false->H0 l=false:=λhf=>by
   have:=Jy (p:=Up) C.out hf;unfold H0;rw[this];rfl
  have r:=LH T;clear T;rcases aw with rfl | ⟨rfl,rfl⟩ | ⟨rfl,rfl,rfl⟩ | ⟨rfl,rfl,rfl⟩
  ·go_wp2_with (go_at_call 159;(with_reducible refine q.out.mono ?_);rintro e x⟨rfl,d,a⟩);go_ret;exact⟨by rw[r.out (by rw[s.out];rfl)];rfl,a.out⟩
  ·go_wp2_with (first
    | (go_at_call 159;(with_reducible refine q.out.mono ?_);rintro e x⟨rfl,d,a⟩;have aa:=(d _ 1 m).trans v)
    | (go_at_call 99;(with_reducible refine (z.out _).mono ?_);rintro e w4⟨rfl,rfl⟩))
   go_ret;exact⟨by rw[r.out (by rw[s.out];rfl)];rfl,a.out⟩
  ·have Hy:=ak.out rfl;go_wp2_with (first
    | (go_at_call 159;(with_reducible refine q.out.mono ?_);rintro e x⟨rfl,d,a⟩;have aa:=(d _ 1 m).trans v;have ax:=(d _ 2 m).trans J)
    | (go_at_call 99;(with_reducible refine (z.out _).mono ?_);rintro e w4⟨rfl,rfl⟩)
    | (go_at_call 99;(with_reducible refine (L.out _).mono ?_);rintro e w5⟨rfl,rfl⟩))
   go_ret;exact⟨by rw[r.out (by rw[s.out];rfl)];rfl,a.out⟩
  have ap:((t.level==0)=true/\(t.assoc==0)=true/\Up t=true)\/((t.level==0)=false/\(t.assoc==0)=false/\Up t=true)\/((t.level==0)=true/\(t.assoc==0)=false/\Up t=false)\/((t.level==0)=false/\(t.assoc==0)=true/\Up t=false):=by
   rw[BO,BO,AQ,AQ,s.out];by_cases g1:t.level=0 <;> by_cases g2:t.assoc=0 <;> simp[g1,g2]
  rcases ap with ⟨E,F,o⟩ | ⟨E,F,o⟩ | ⟨E,F,o⟩ | ⟨E,F,o⟩;all_goals
   have Hx:=LH o;clear o;go_wp2_with (first
    | (go_at_call 159;(with_reducible refine q.out.mono ?_);rintro e x⟨rfl,d,a⟩;have aa:=(d _ 1 m).trans v;have ax:=(d _ 2 m).trans J)
    | (go_at_call 99;(with_reducible refine (z.out _).mono ?_);rintro e w4⟨rfl,rfl⟩)
    | (go_at_call 99;(with_reducible refine (L.out _).mono ?_);rintro e w5⟨rfl,rfl⟩))
   first
    | (go_ret;exact⟨by rw[r.out Hx.out];rfl,a.out⟩)
    | (go_roundw
       case rel=>exact⟨k+1,AA,AF,a.out,LH (Vz N.out C.out (by rw[Hx.out];rfl))⟩
       simp[intOf];omega)
 obtain rfl:k=l.length:=AA
 have H:l.all Up=true:=Cv λj y Z=>by
  have:=N.out j (AO.1 Z).1 y Z;simpa using this
 have ah:=LH H;have M:Hid (H0 l=(decide (l.length<=24)&&Jh l)):=LH (by unfold H0;rw[H];rfl);clear H;by_cases S:l.length<=24
 ·have CL:=LH (cf_levels A l.length c l wr (Hh.out.below f) hn λt ht=>by
   have:=Kp ((BG.1 ah.out) t ht);exact⟨this.2.1,this.2.2.1,this.2.2.2.1,this.2.2.2.2.1⟩)
  have B:Hid (H0 l=Jh l):=LH (by rw[M.out,Eg S];rfl);go_wp2_with (go_at_call 160;(with_reducible refine CL.out.mono ?_);rintro e x⟨rfl,ao⟩);go_ret;exact⟨by rw[B.out];rfl,Zz f ao⟩
 have B:Hid (H0 l=false):=LH (by rw[M.out,Ej S];rfl);go_wp2_with fail;go_ret;exact⟨by rw[B.out];rfl,f⟩
theorem J4(h:GH)(G:Gr)(w:World)(u:Yf w h G)(hs:∀t∈G.terms,t.name.size<=maxLen)(h1:h.n1<=100)(h2:h.n2<=100):
 Calls prog 56 #[GV h G.start] w λe w'=>e = .returned (.bool G.right)/\Below w.heap.size w w':=by
 rw[<-right_same];obtain⟨a1,n1,c1,a2,n2,c2,a3,n3,c3⟩:=h;have e1:G.terms.length=n1:=u.terms.len;have e2:G.nons.length=n2:=u.nons.len;have e3:G.rules.length=n3:=u.rules.len;have k1:=u.terms.cap;have g:=u.rules.cap;simp only[] at h1 h2 k1 g;have L:=LH u;have Hs:=LH hs;have a4:Hid (G.rightP=(G.aheadP&&!(G.nons.any λs=>!Xi (Zh s))&&decide (G.leftsGo G.rules (-1)=some ((n2:Int)-1)))):=LH (by unfold Gr.rightP;rw[e2]);have aw:Hid (G.aheadP=(H0 G.terms&&Yb n2 1 16&&Yb n3 1 40&&decide G.names.Nodup&&Yb G.start 0 ((n2:Int)-1))):=LH (by unfold Gr.aheadP;rw[e2,e3]);clear hs;have ai:=Zy w (.cells #[.slice a1 n1 c1,.slice a2 n2 c2,.slice a3 n3 c3,.int .i64 G.start] 26);have ak:=Y1.new w 26 ⟨a1,n1,c1,a2,n2,c2,a3,n3,c3⟩ G.start;go_enter func56,ntmps56;have⟨z5,z0,z1,z2,z3⟩:=ak;simp only[] at z0 z1 z2 z3;go_wp2_with fail;generalize w.alloc (.cells #[.slice a1 n1 c1,.slice a2 n2 c2,.slice a3 n3 c3,.int .i64 G.start] 26)=o at *;have P:=L.out.below ai;(with_reducible refine (clone_strs a2 n2 c2 G.nons o P.nons AA).mono ?_);rintro e w2⟨A2,C2,rfl,x,m⟩;have bf:=ak.below m;have⟨y5,y0,y1,y2,y3⟩:=bf;simp only[] at y0 y1 y2 y3;clear z0 z1 z2 z3;go_wp2_with fail;go_loopw [3,5,15] (λv _ i wr=>∃(k:Nat) (A:Option Addr) (c:Nat),k<=n1/\i = .int .i64 (k:Int)/\v = .slice A (n2+k) c/\wr.ownsRow o.heap.size 9 1 (.slice A (n2+k) c) (n2+k) ((G.nons++(G.terms.take k).map Trm.name).map Value.string)/\Below o.heap.size o wr) (λ_ _ i _=>n1-(intOf i).toNat)
 case atStart=>exact⟨0,A2,C2,AV _,rfl,rfl,by simpa using x,m⟩
 clear x m bf y0 y1 y2 y3 y5;obtain⟨k,A,c,hk,rfl,rfl,x,m⟩:=hrel;by_cases R:k<n1
 ·obtain⟨b,bu,t,rfl,l,Ht,S,U,V⟩:=P.terms.get R;rw[<-m.cell (by exact l)] at S U V;have cu:o.heap.size<=wr.heap.size:=m.size;have z:=m.alloc cu (.cells #[.string t.name,.int .i64 t.level,.int .i64 t.assoc] 91);have bm:=x.alloc (.cells #[.string t.name,.int .i64 t.level,.int .i64 t.assoc] 91);have p0:=Wg wr 91 #[.string t.name,.int .i64 t.level,.int .i64 t.assoc] 0;have p5:=Zl wr (.cells #[.string t.name,.int .i64 t.level,.int .i64 t.assoc] 91);simp only[DS,List.getElem?_cons_zero,List.getElem?_cons_succ] at p0;have cv:o.heap.size<=(wr.alloc (.cells #[.string t.name,.int .i64 t.level,.int .i64 t.assoc] 91)).heap.size:=AA
  go_wp2_with (at_builtin;refine Vc (w:=wr.alloc (.cells #[.string t.name,.int .i64 t.level,.int .i64 t.assoc] 91)) rfl _ _ 23 rfl o.heap.size 9 (.string ByteArray.empty) 16 underlying23 Tryz.infoStr rfl _ (n2+k) _ _ rfl bm (.string t.name) (by rw[p5];rfl) rfl AA AA AA ?_;intro A4 c4 w4 ho cw);go_roundw
  case rel=>exact⟨k+1,A4,c4,AA,AF,by rw[Ea],by rw[names_take G Ht.out];exact ho,X6 z cw bm cv⟩
  simp[intOf];omega
 obtain rfl:k=n1:=AA
 rw[AR AA] at x;have bl:Js wr A (n2+k) c G.names:=Yl x;have bd:=ai.trans (m.mono ai.size);have q:=ak.below m;have⟨x5,x0,x1,x2,x3⟩:=q;simp only[] at x0 x1 x2 x3;have bg:∀j,Below wr.heap.size wr j->Y1 j w.heap.size ⟨a1,k,c1,a2,n2,c2,a3,n3,c3⟩ G.start:=λj l=>q.below l;have CT:=LH ((cf_terms a1 k c1 G.terms wr (P.terms.below m) AA Hs.out).mono λe w' a=>And.intro a.1 (And.intro (Jd a.2).1 (LH a.2)));have cA:=λj (l:Below wr.heap.size wr j)=>(cf_alone A (n2+k) c G.names j (bl.below l) AA).mono λe w' a=>And.intro a.1 (And.intro (Jd a.2).1 (LH (Zz l a.2)));have a8:=λw=>Jx (n2:Int) 1 16 w;have a9:=λw=>Jx (n3:Int) 1 40 w;have ba:=λw=>Jx G.start 0 ((n2:Int)-1) w;have br:Yb (n2:Int) 1 16=true->1<=(n2:Int)/\(n2:Int)<=16:=Ud;have bs:Yb (n3:Int) 1 40=true->1<=(n3:Int)/\(n3:Int)<=40:=Ud;have dh:IntKind.i64.wrap ((n2:Int)-1)=(n2:Int)-1:=BS _ AA;have ci:=LH P;generalize H0 G.terms=p at *;generalize Yb (n2:Int) 1 16=y at *;generalize Yb (n3:Int) 1 40=F at *;generalize decide G.names.Nodup=M at *;generalize Yb G.start 0 ((n2:Int)-1)=b5 at *;have CA:=LH cA;have X:=LH a8;have Y:=LH a9;have Z:=LH ba;have cm:=LH br;have cn:=LH bs;have ay:=LH bg;have I:=LH bd;clear cA a8 a9 ba br bs bg bd x u bl q R hk;have cz:((p=false)\/(p=true/\y=false)\/(p=true/\y=true/\F=false)\/(p=true/\y=true/\F=true/\M=false)\/(p=true/\y=true/\F=true/\M=true/\b5=false))\/(p=true/\y=true/\F=true/\M=true/\b5=true):=by cases p <;> cases y <;> cases F <;> cases M <;> cases b5 <;> simp
 rcases cz with H | ⟨rfl,rfl,rfl,rfl,rfl⟩
 ·have az:Hid (G.rightP=false):=LH (by
   rw[a4.out,aw.out];rcases H with rfl | ⟨rfl,rfl⟩ | ⟨rfl,rfl,rfl⟩ | ⟨rfl,rfl,rfl,rfl⟩ | ⟨rfl,rfl,rfl,rfl,rfl⟩ <;> simp)
  rcases H with rfl | ⟨rfl,rfl⟩ | ⟨rfl,rfl,rfl⟩ | ⟨rfl,rfl,rfl,rfl⟩ | ⟨rfl,rfl,rfl,rfl,rfl⟩;all_goals
   go_wp2_with (first
    | (go_at_call 98;(with_reducible refine CT.out.mono ?_);rintro e j⟨rfl,f,d⟩;have B:=(f _ 1 x5).trans x1;have p2:=(f _ 2 x5).trans x2;have C:=(f _ 3 x5).trans x3)
    | (go_at_call 99;(with_reducible refine (X.out _).mono ?_);rintro e w4⟨rfl,rfl⟩)
    | (go_at_call 99;(with_reducible refine (Y.out _).mono ?_);rintro e w5⟨rfl,rfl⟩)
    | (go_at_call 99;(with_reducible refine (Z.out _).mono ?_);rintro e w6⟨rfl,rfl⟩)
    | (go_at_call 100;(with_reducible refine (CA.out _ d.out).mono ?_);rintro e w7⟨rfl,n,D⟩;have r1:=(n _ 1 (AK x5 d.out.size)).trans B;have r3:=(n _ 3 (AK x5 d.out.size)).trans C))
   go_ret
   first
    | exact⟨by rw[az.out];rfl,Zz I.out D.out⟩
    | exact⟨by rw[az.out];rfl,Zz I.out d.out⟩
 have a0:Hid (G.rightP=(!(G.nons.any λs=>!Xi (Zh s))&&decide (G.leftsGo G.rules (-1)=some ((n2:Int)-1)))):=LH (by rw[a4.out,aw.out];simp);have df:=cm.out rfl;have dg:=cn.out rfl;have hC:=λj (l:Below wr.heap.size wr j)=>(sl_contains_strs a2 n2 c2 G.nons 102 #[] (λs=>!Xi (Zh s)) j enters_right1 ((ci.out.nons.below m).below l) (λs _ w' _=>(cf_right1 s w').mono λe w' a=>⟨a.1,by rw[<-a.2];exact AL _ _⟩)).mono λe w' a=>And.intro a.1 (And.intro (Jd a.2).1 (LH (Zz l a.2)));generalize (G.nons.any λs=>!Xi (Zh s))=b6 at *;have HC:=LH hC;clear hC;rcases (by cases b6 <;> simp:b6=true\/b6=false) with rfl | rfl
 ·go_wp2_with (first
   | (go_at_call 98;(with_reducible refine CT.out.mono ?_);rintro e j⟨rfl,f,d⟩;have B:=(f _ 1 x5).trans x1;have p2:=(f _ 2 x5).trans x2;have C:=(f _ 3 x5).trans x3)
   | (go_at_call 99;(with_reducible refine (X.out _).mono ?_);rintro e w4⟨rfl,rfl⟩)
   | (go_at_call 99;(with_reducible refine (Y.out _).mono ?_);rintro e w5⟨rfl,rfl⟩)
   | (go_at_call 99;(with_reducible refine (Z.out _).mono ?_);rintro e w6⟨rfl,rfl⟩)
   | (go_at_call 100;(with_reducible refine (CA.out _ d.out).mono ?_);rintro e w7⟨rfl,n,D⟩;have r1:=(n _ 1 (AK x5 d.out.size)).trans B;have r3:=(n _ 3 (AK x5 d.out.size)).trans C)
   | (go_at_call 101;(with_reducible refine (HC.out _ D.out).mono ?_);rintro e w8⟨rfl,bj,E⟩))
  go_ret;exact⟨by rw[a0.out];rfl,Zz I.out E.out⟩
 have ce:Hid (G.rightP=decide (G.leftsGo G.rules (-1)=some ((n2:Int)-1))):=LH (by rw[a0.out];simp);go_wp2_with (first
  | (go_at_call 98;(with_reducible refine CT.out.mono ?_);rintro e j⟨rfl,f,d⟩;have B:=(f _ 1 x5).trans x1;have p2:=(f _ 2 x5).trans x2;have C:=(f _ 3 x5).trans x3)
  | (go_at_call 99;(with_reducible refine (X.out _).mono ?_);rintro e w4⟨rfl,rfl⟩)
  | (go_at_call 99;(with_reducible refine (Y.out _).mono ?_);rintro e w5⟨rfl,rfl⟩)
  | (go_at_call 99;(with_reducible refine (Z.out _).mono ?_);rintro e w6⟨rfl,rfl⟩)
  | (go_at_call 100;(with_reducible refine (CA.out _ d.out).mono ?_);rintro e w7⟨rfl,n,D⟩;have r1:=(n _ 1 (AK x5 d.out.size)).trans B;have r3:=(n _ 3 (AK x5 d.out.size)).trans C)
  | (go_at_call 101;(with_reducible refine (HC.out _ D.out).mono ?_);rintro e w8⟨rfl,bj,E⟩;have⟨v5,v0,v1,v2,v3⟩:=ay.out w8 E.out;simp only[] at v0 v1 v2 v3))
 have bh:=ay.out w8 E.out;have bc:=Zz I.out E.out;clear v5 v0 v1 v2 v3 B p2 C r1 r3 f n bj x5 x0 x1 x2 x3;go_loopw [6,8,64] (λnx _ i wz=>∃(g:Nat) (T:Int),g<=n3/\i = .int .i64 (g:Int)/\nx = .int .i64 (T+1)/\-1<=T/\T<=1000/\Hid (G.leftsGo (G.rules.take g) (-1)=some T)/\Below w.heap.size w wz/\Y1 wz w.heap.size ⟨a1,k,c1,a2,n2,c2,a3,n3,c3⟩ G.start) (λ_ _ i _=>n3-(intOf i).toNat)
 case atStart=>exact⟨0,-1,AV _,rfl,rfl,AA,AA,LH rfl,bc,bh⟩
 clear bh bc;obtain⟨g,T,dc,rfl,rfl,c9,da,HT,O,q⟩:=hrel;have⟨z5',z0,z1,z2,z3⟩:=q;simp only[] at z0 z1 z2 z3;by_cases R:g<n3
 ·obtain⟨b,bu,r,Ar,cr,rfl,l,Hr,S,U,V,bn⟩:=L.out.rules.get R;rw[<-O.cell (by exact l)] at S U V;have bo:=L.out.wf r (AM Hr.out);have z:=O.alloc O.size (.cells #[.int .i64 r.left,.slice Ar r.right.length cr,.int .i64 r.prec] 52);have al:=q.below (Zy wr (.cells #[.int .i64 r.left,.slice Ar r.right.length cr,.int .i64 r.prec] 52));have bt:=Fl.new wr 52 r.left Ar r.right.length cr r.prec;have p5:=Zl wr (.cells #[.int .i64 r.left,.slice Ar r.right.length cr,.int .i64 r.prec] 52);go_wp2_with fail;generalize wr.alloc (.cells #[.int .i64 r.left,.slice Ar r.right.length cr,.int .i64 r.prec] 52)=W1 at *;have⟨s5,s0,s1,s2,s3⟩:=al;have⟨u5,u0,u1,u2⟩:=bt;simp only[] at s0 s1 s2 s3 u0 u1 u2;clear S U V z0 z1 z2 z3 q;generalize wr.heap.size=gr at *;have cR:=cf_rule ⟨a1,k,c1,a2,n2,c2,some ⟨b,bu,none⟩,n3,c3⟩ G r Ar cr W1 (L.out.below z) (bn.below z) bo (by simp only[];omega) (by simp only[];omega);have cW:=λw=>Jx r.left 0 (T+1) w;have H:=@leftsP_bad G g r T Hr.out HT.out;have bk:=@leftsP_good G g r T Hr.out HT.out;have bq:Yb r.left 0 (T+1)=true->0<=r.left/\r.left<=T+1:=Ud;generalize Yb r.left 0 (T+1)=N at *;generalize G.ruleOK r=b8 at *;have CR:=LH (cR.mono λe w' a=>And.intro a.1 (And.intro (Jd a.2).1 (LH a.2)));have W:=LH cW;have ax:=LH H;have cg:=LH bk;have ck:=LH bq;have aa:=LH z;have cl:=LH al;clear cR cW H bk bq bo bn z al bt;rcases (by cases N <;> cases b8 <;> simp:(N=false)\/(N=true/\b8=false)\/(N=true/\b8=true)) with rfl | ⟨rfl,rfl⟩ | ⟨rfl,rfl⟩
  ·go_wp2_with (go_at_call 99;(with_reducible refine (W.out _).mono ?_);rintro e w9⟨rfl,rfl⟩);go_ret;exact⟨by rw[ax.out rfl];rfl,aa.out⟩
  ·go_wp2_with (first
    | (go_at_call 99;(with_reducible refine (W.out _).mono ?_);rintro e w9⟨rfl,rfl⟩)
    | (go_at_call 104;(with_reducible refine CR.out.mono ?_);rintro e c6⟨rfl,bi,J⟩))
   go_ret;exact⟨by rw[ax.out rfl];rfl,Zz aa.out J.out⟩
  have di:=ck.out rfl;have aj:=cg.out rfl rfl;have db:=G.leftsGo_bd _ _ _ AA aj;have dd:(G.rules.take (g+1)).length<=40:=by rw[BY];omega
  have cd:=LH aj;clear aj;have de:max (T+1) (r.left+1)=max T r.left+1:=AA
  go_wp2_with (first
   | (go_at_call 99;(with_reducible refine (W.out _).mono ?_);rintro e w9⟨rfl,rfl⟩)
   | (go_at_call 104;(with_reducible refine CR.out.mono ?_);rintro e c6⟨rfl,bi,J⟩;have v0:=(bi _ 0 u5).trans u0))
  go_roundw
  case rel=>exact⟨g+1,max T r.left,AA,AF,rfl,AA,AA,cd,Zz aa.out J.out,cl.out.below J.out⟩
  simp[intOf];omega
 obtain rfl:g=n3:=AA
 have ad:=HT.out;rw[AR AA] at ad;have cf:Hid (G.rightP=(T+1==(n2:Int))):=LH (by
  rw[ce.out,ad,BZ,BB,BO];constructor
  ·intro h;injection h with h;omega
  intro h;congr 1;omega)
 clear ad;go_wp2_with fail;go_ret;exact⟨by rw[cf.out];rfl,O⟩
theorem V0.at{w:World}{F:List Nat}(h:V0 w g F)(hi:i<F.length):w.cell? ⟨g,i,none⟩=some (.int .u32 ((F.getD i 0:Nat):Int)):=by
 rw[Blk.cell h];simp[nums,hi]
theorem rf_all(Ar:Option Addr)(A cr g n:Nat)(ss:List Int)(N:List Bool)(b:Bool)(w:World)(q:Za .i64 w Ar A cr ss)(r:Z8 w g N)(M:N.length=n)(G:n<=1000)(v:∀s∈ss,-(n:Int)<=s/\s<=1000):
 Calls prog 111 #[.slice Ar A cr,.slice (some ⟨g,0,none⟩) n n,.bool b] w λe w'=>e = .returned (.bool (Xj b N ss))/\w=w':=by
 obtain rfl:=q.len;have J:=q.cap;have D:=LH v;have B:=LH r;have m:Hid (Xj b N ss=ss.all λs=>if 0<=s then b else N.getD (Zp s) false):=rfl;clear v r;go_enter func111,ntmps111;go_wp2_with fail;go_loop [7] (λi=>∃(k:Nat),k<=ss.length/\i = .int .i64 (k:Int)/\Hid (∀j,j<k->∀y,ss[j]? = some y->(!(if 0<=y then b else N.getD (Zp y) false))=false)) (λi=>ss.length-(intOf i).toNat)
 case atStart=>exact⟨0,AV _,rfl,LH λj E=>AA⟩
 obtain⟨k,L,rfl,p⟩:=hrel;by_cases F:k<ss.length
 ·obtain⟨I,P,s,rfl,a,c,R⟩:=q.get F;obtain⟨H,S⟩:=D s (AM c);by_cases h:0<=s
  ·have d:b=false->Xj b N ss=false:=λa=>by rw[m];exact Jy c (by rw[if_pos h];exact a)
   have f:b=true->(!(if 0<=s then b else N.getD (Zp s) false))=false:=λa=>by rw[if_pos h,a];rfl
   have l:=LH d;have o:=LH f;clear d f;rcases (by cases b <;> simp:b=false\/b=true) with rfl | rfl
   ·go_wp2_with fail;go_ret;exact⟨by rw[l (by trivial)];rfl,rfl⟩
   go_wp2_with fail;go_roundw
   case rel=>exact⟨k+1,AA,AF,LH (Vz p c (o (by trivial)))⟩
   simp[intOf];omega
  obtain⟨j,E,u,O⟩:=Vy (s:=s) (n:=n) AA H G;have c0:=B.at (i:=j) AA;have d:N.getD j false=false->Xj b N ss=false:=λa=>by rw[m];exact Jy c (by rw[if_neg h,u];exact a)
  have f:N.getD j false=true->(!(if 0<=s then b else N.getD (Zp s) false))=false:=λa=>by rw[if_neg h,u,a];rfl
  generalize N.getD j false=x at *;have l:=LH d;have o:=LH f;clear d f;rcases (by cases x <;> simp:x=false\/x=true) with rfl | rfl
  ·go_wp2_with fail;go_ret;exact⟨by rw[l (by trivial)];rfl,rfl⟩
  go_wp2_with fail;go_roundw
  case rel=>exact⟨k+1,AA,AF,LH (Vz p c (o (by trivial)))⟩
  simp[intOf];omega
 obtain rfl:k=ss.length:=AA
 have t:Xj b N ss=true:=by
  rw[m];exact Cv λj y z=>by
   have:=p j (AO.1 z).1 y z;simpa using this
 have C:=LH t;clear t;go_wp2_with fail;go_ret;exact⟨by rw[C];rfl,rfl⟩
end
theorem tr_within1(s:Int)(b g n:Nat)(N:List Bool)(w:World)(l:w.cell? ⟨b,0,none⟩=some (.slice (some ⟨g,0,none⟩) n n))(d:Z8 w g N)(o:N.length=n)(f:n<=1000)(k:-(n:Int)<=s/\s<=1000):
 Calls prog 170 #[.int .i64 s,.pointer (some ⟨b,0,none⟩)] w λe w'=>e = .returned (.bool (Cf N s))/\w=w':=by
 by_cases c:s<0
 ·obtain⟨j,m,h,p⟩:=Vy c k.1 f;have c0:=d.at (i:=j) AA;have a:Hid (Cf N s=!N.getD j false):=LH (by unfold Cf;rw[Eg c,h];rfl);generalize N.getD j false=x at *;clear d;go_enter func170,ntmps170;go_wp2_with fail;go_ret;exact⟨by rw[a];rfl,rfl⟩
 have a:Hid (Cf N s=false):=LH (by unfold Cf;rw[Ej c];rfl);clear d;go_enter func170,ntmps170;go_wp2_with fail;go_ret;exact⟨by rw[a];rfl,rfl⟩
theorem F7(left:Int)(Ar:Option Addr)(cr g n:Nat)(ss:List Int)(a:Int)(N:List Bool)(w:World)(v:Za .i64 w Ar ss.length cr ss)(l:Z8 w g N)(t:N.length=n)(u:n<=1000)(x:∀s∈ss,-(n:Int)<=s/\s<=1000):
 Calls prog 108 #[.agg #[.int .i64 left,.slice Ar ss.length cr,.int .i64 a],.slice (some ⟨g,0,none⟩) n n] w λe w'=>e = .returned (.bool (!ss.any (Cf N)))/\Below w w w':=by
 have d:=Zy w (.cells #[.int .i64 left,.slice Ar ss.length cr,.int .i64 a] 52);have p:=Fl.new w 52 left Ar ss.length cr a;go_enter func108,ntmps108;have b:=d.alloc d.size (.cells #[.slice (some ⟨g,0,none⟩) n n] 97);have q:=p.below (Zy _ (.cells #[.slice (some ⟨g,0,none⟩) n n] 97));have j:=Blk.new (w.alloc (.cells #[.int .i64 left,.slice Ar ss.length cr,.int .i64 a] 52)) 97 #[.slice (some ⟨g,0,none⟩) n n];have k:=Zl w (.cells #[.int .i64 left,.slice Ar ss.length cr,.int .i64 a] 52);rw[k] at j;have⟨z5,z0,z1,z2⟩:=q;clear k;go_wp2_with fail;generalize (w.alloc (.cells #[.int .i64 left,.slice Ar ss.length cr,.int .i64 a] 52)).alloc (.cells #[.slice (some ⟨g,0,none⟩) n n] 97)=c at *;have m:Zyw 170 #[.pointer (some ⟨w+1,0,none⟩)] (Value.int .i64) c ss (Cf N):=λs y w' f=>by
  have r:w'.cell? ⟨w+1,0,none⟩=some (.slice (some ⟨g,0,none⟩) n n):=by
   have:=Blk.cell (Blk.ext j f) 0;simpa using this
  exact (tr_within1 s (w.heap.size+1) g n N w' r (Blk.ext (Blk.ext l b) f) t u (x s y)).mono λe A h=>⟨h.1,by rw[<-h.2];exact AL _ _⟩
 refine (U1 Ar ss.length cr ss 170 _ (Cf N) c enters_within1 (v.below b) m).mono ?_;rintro e z⟨rfl,o⟩;go_wp2_with fail;go_ret;exact⟨rfl,Zz b o⟩
theorem Zte(h:GH)(G:Gr)(gf:FuncId)(ag:Array Value)(eg:∀args w,(callFunc gf args).run prog w = .ok (.enter gf args) w)(ids:Rul->List Bool->List Int)(g n:Nat)(d:List Bool)(z w:World)(J:Yf z h G)(al:Below z z w)(b3:z.heap.size<=g)(hn:n<=1000)(O:Z8 w g d)(V:d.length=n)(h3:h.n3<=1000)(ax:∀r∈G.rules,∀N,N.length=n->∀s∈ids r N,0<=s/\s<(n:Int))(a4:∀r∈G.rules,∀Ar cr N w',w.grownBy w' (some g)->Za .i64 w' Ar r.right.length cr r.right->Z8 w' g N->N.length=n->
   Calls prog gf (#[.agg #[.int .i64 r.left,.slice Ar r.right.length cr,.int .i64 r.prec],.slice (some ⟨g,0,none⟩) n n]++ag) w' λe bf=>Below w' w' bf/\∃A m c,e = .returned (.slice A m c)/\Za .i64 bf A m c (ids r N)/\Apart A g):
 Calls prog 150 #[GV h G.start,.slice (some ⟨g,0,none⟩) n n,.func (.func gf) #[] ag] w λe w' =>
  e = .returned (.slice (some ⟨g,0,none⟩) n n)/\w.grownBy w' (some g)/\Z8 w' g (Z3 (Yy ids G.rules) n d):=by
 obtain⟨a1,n1,c1,a2,n2,c2,a3,n3,c3⟩:=h;have e3:G.rules.length=n3:=J.rules.len;have k3:=J.rules.cap;simp only[] at h3 k3;have Hg:=LH J;have bs:=LH ax;have bv:=LH a4;have Z:=LH al;clear ax a4 J al;have av:=Xz (some g) (Zy w (.cells #[.slice a1 n1 c1,.slice a2 n2 c2,.slice a3 n3 c3,.int .i64 G.start] 26));have ar:=Y1.new w 26 ⟨a1,n1,c1,a2,n2,c2,a3,n3,c3⟩ G.start;have am:=Blk.new w 26 #[.slice a1 n1 c1,.slice a2 n2 c2,.slice a3 n3 c3,.int .i64 G.start];have ak:Z8 (w.alloc (.cells #[.slice a1 n1 c1,.slice a2 n2 c2,.slice a3 n3 c3,.int .i64 G.start] 26)) g d:=Blk.ext O (Zy _ _);have cm:g<w.heap.size:=O.lt;clear O;go_enter func150,ntmps150;have⟨z5,z0,z1,z2,z3⟩:=ar;simp only[] at z0 z1 z2 z3;go_wp2_with fail;generalize w.alloc (.cells #[.slice a1 n1 c1,.slice a2 n2 c2,.slice a3 n3 c3,.int .i64 G.start] 26)=W0 at *;clear z0 z1 z2 z3 ar;go_loopg [7] (n+2) (λq v wr=>∃(m:Nat) (b:Bool),v = .bool b/\q+m=n+2/\Hid (b=true->m<=n)/\w.grownBy wr (some g)/\Blk wr w 26 #[.slice a1 n1 c1,.slice a2 n2 c2,.slice a3 n3 c3,.int .i64 G.start]/\Z8 wr g (Z3 (Yy ids G.rules) m d) /\
  Hid (b=false->Yy ids G.rules (Z3 (Yy ids G.rules) m d)=Z3 (Yy ids G.rules) m d))
 case atStart=>exact⟨0,true,rfl,AA,LH λ_=>AA,av,am,ak,LH λh=>by cases h⟩
 clear av am ak;obtain⟨m,b,rfl,hq,Hm,k,l,a,aa⟩:=hrel;have x2:=Blk.cell l 2;simp only[DS,List.getElem?_cons_zero,List.getElem?_cons_succ] at x2;rcases (by cases b <;> simp:b=false\/b=true) with rfl | rfl
 ·have au:=aa.out rfl;have B:=(Wn ids G.rules).fix d;rw[V] at B;rw[iter_done B au] at a;have HT:=LH a;clear a Hm aa au B;go_wp2_with fail;go_ret;exact⟨rfl,k,HT.out⟩
 have cp:=Hm.out rfl;go_wp2_with fail;have b0:(Z3 (Yy ids G.rules) m d).length=n:=by rw[Dw];exact V
 have ab:Hid (Yy ids G.rules (Z3 (Yy ids G.rules) m d)=Z3 (Yy ids G.rules) (m+1) d):=rfl;have bu:Hid (Yy ids G.rules (Z3 (Yy ids G.rules) m d)≠Z3 (Yy ids G.rules) m d->m<n):=LH λW=>by
  have B:=(Wn ids G.rules).fix d;rw[V] at B;exact iter_more B W
 generalize Z3 (Yy ids G.rules) m d=N at *;go_loopw [7,9,16] (λv _ i u=>∃(j:Nat),j<=n3/\i = .int .i64 (j:Int)/\v = .bool (L6 N (Yy ids (G.rules.take j) N))/\w.grownBy u (some g)/\Blk u w 26 #[.slice a1 n1 c1,.slice a2 n2 c2,.slice a3 n3 c3,.int .i64 G.start]/\Z8 u g (Yy ids (G.rules.take j) N)) (λ_ _ i _=>n3-(intOf i).toNat)
 case atStart=>exact⟨0,AV _,rfl,by rw[show Yy ids (G.rules.take 0) N=N from rfl,Zwk],k,l,a⟩
 clear k l a x2;obtain⟨j,hj,rfl,rfl,k,l,a⟩:=hrel;by_cases b6:j<n3
 ·obtain⟨bb,ca,r,Ar,cr,rfl,hb,Hr,q0,q1,q2,a6⟩:=Hg.out.rules.get b6;have ah:Below z z wr:=Z.out.trans (Zn k Z.out.size b3);rw[<-ah.cell (by exact hb)] at q0 q1 q2;have a0:=AM Hr.out;have T:(Yy ids (G.rules.take j) N).length=n:=by rw[Zzs];exact b0
  have C:Yy ids (G.rules.take (j+1)) N=Jz (Yy ids (G.rules.take j) N) (ids r (Yy ids (G.rules.take j) N)):=by rw[Ya Hr.out,Zwt];rfl
  have ay:LeB N (Yy ids (G.rules.take j) N):=passI_le ids _ N;have E:=LH C;have bt:=LH ay;clear C ay;generalize Yy ids (G.rules.take j) N=f at *;have F:=Zy wr (.cells #[.int .i64 r.left,.slice Ar r.right.length cr,.int .i64 r.prec] 52);have U:=Zc k (Xz (some g) F);have an:=Blk.ext l F;have P:Z8 (wr.alloc (.cells #[.int .i64 r.left,.slice Ar r.right.length cr,.int .i64 r.prec] 52)) g f:=Blk.ext a F;have a7:=(a6.below ah).below F;have a8:=Fl.new wr 52 r.left Ar r.right.length cr r.prec;clear k l a;have⟨u5,u0,u1,u2⟩:=a8;have hC:=bv.out r a0 Ar cr f _ U a7 P T;have hL:=bs.out r a0 f T;generalize ids r f=L at *;have Y:=LH hC;have HL:=LH hL;clear hC hL a7 a8;go_wp2_with (go_at_fn gf;refine Y.out.mono ?_;rintro e X⟨S,Ai,D,ci,rfl,H,aq⟩);generalize wr.alloc (.cells #[.int .i64 r.left,.slice Ar r.right.length cr,.int .i64 r.prec] 52)=W1 at *;have b4:=Zc U (Xz (some g) S);have ao:=Blk.ext an S;have R:Z8 X g f:=Blk.ext P S;have cj:L.length=D:=H.len;have ch:=H.cap;have HI:=LH H;have bl:=LH aq;have bq:=LH b4;have cn:g<X.heap.size:=R.lt;clear q0 q1 q2 a6 Y U an P H aq;go_loopw [7,11,25] (λv _ i u=>∃(p:Nat),p<=D/\i = .int .i64 (p:Int)/\v = .bool (L6 N (Jz f (L.take p)))/\X.grownBy u (some g)/\Blk u w 26 #[.slice a1 n1 c1,.slice a2 n2 c2,.slice (some ⟨bb,ca,none⟩) n3 c3,.int .i64 G.start]/\Z8 u g (Jz f (L.take p))) (λ_ _ i _=>D-(intOf i).toNat)
  case atStart=>exact⟨0,AV _,rfl,rfl,Jl _ _,ao,R⟩
  clear ao R;obtain⟨p,hp,rfl,rfl,k,l,a⟩:=hrel;by_cases b7:p<D
  ·obtain⟨ib,io,s,rfl,b5,Hs,b8⟩:=HI.out.get b7;have W:=bl.out ib io rfl;have q3:=(Kx k (b:=ib) (o:=io+p) b5 W).trans b8;obtain⟨s1,s2⟩:=HL.out s (AM Hs.out);obtain⟨t,rfl⟩:∃t:Nat,s=(t:Int):=⟨s.toNat,AA⟩;have C:Jz f (L.take (p+1))=(Jz f (L.take p)).set t true:=by rw[Ya Hs.out,Zw9];simp
   have b2:(Jz f (L.take p)).length=n:=by rw[Zwc];exact T
   have az:LeB N (Jz f (L.take p)):=bt.out.trans (F5 f _);have aw:=grew_set az (i:=t) AA;have ck:=a.at (i:=t) AA;have a5:=a.put t true;have cl:=Blk.frozen a t;have ap:=l.other g t (.bool true) AA;have E:=LH C;have br:=LH aw;have bw:=LH a5;have bk:=LH ap;have bp:=LH k;have cu:t<n:=AA
   clear C az aw a5 ap k l a b2;generalize (Jz f (L.take p)).getD t false=x at *;generalize L6 N (Jz f (L.take p))=y at *;rcases (by cases y <;> simp:y=false\/y=true) with rfl | rfl;all_goals
    go_wp2_with fail;go_roundw
    case rel=>exact⟨p+1,AA,AF,by rw[E.out,br.out];simp,Zc bp.out (Zd _ _ _ _),bk.out,by rw[E.out];exact bw.out⟩
    simp[intOf];omega
  obtain rfl:p=D:=AA
  rw[AR AA] at a ⊢;rw[<-E.out] at a ⊢;go_wp2_with fail;go_roundw
  case rel=>exact⟨j+1,AA,AF,rfl,Zc bq.out k,l,a⟩
  simp[intOf];omega
 obtain rfl:j=n3:=AA
 rw[AR AA] at a ⊢;have bn:Hid (L6 N (Yy ids G.rules N)=true->m+1<=n):=LH λM=>by
  have:m<n:=bu.out (by intro I;rw[I,Zwk] at M;cases M);omega
 have bo:Hid (L6 N (Yy ids G.rules N)=false->Yy ids G.rules (Z3 (Yy ids G.rules) (m+1) d)=Z3 (Yy ids G.rules) (m+1) d):=LH λM=>by
  have I:Yy ids G.rules N=N:=by simpa [L6] using M
  rw[<-ab.out,I,I]
 generalize L6 N (Yy ids G.rules N)=y at *;rw[ab.out] at a;go_wp2_with fail;go_roundg (n+1-m)
 case rel=>exact⟨m+1,y,rfl,AA,bn,k,l,a,bo⟩
 omega
theorem tr_prod1(r:Rul)(Ar:Option Addr)(cr g n:Nat)(N:List Bool)(w:World)(D:Za .i64 w Ar r.right.length cr r.right)(p:Z8 w g N)(B:N.length=n)(C:n<=1000)(E:∀s∈r.right,-(n:Int)<=s/\s<=1000):
 Calls prog 168 #[.agg #[.int .i64 r.left,.slice Ar r.right.length cr,.int .i64 r.prec],.slice (some ⟨g,0,none⟩) n n] w λe w'=>Below w w w'/\∃A m c,e = .returned (.slice A m c)/\Za .i64 w' A m c (Bn r N)/\Apart A g:=by
 have F:g<w.heap.size:=p.lt;have l:=Zy w (.cells #[.int .i64 r.left,.slice Ar r.right.length cr,.int .i64 r.prec] 52);have y:=Fl.new w 52 r.left Ar r.right.length cr r.prec;have t:=Zty N r.right;go_enter func168,ntmps168;have⟨z5,z0,z1,z2⟩:=y;have a:=λw' (q:Below w w w')=>F7 r.left Ar cr g n r.right r.prec N w' (D.below q) (Blk.ext p q) B C E;generalize (!r.right.any (Cf N))=f at *;have k:Hid (Bn r N=if f then [r.left] else []):=LH (by unfold Bn;rw[t]);have u:=LH a;clear a t;go_wp2_with fail;generalize w.alloc (.cells #[.int .i64 r.left,.slice Ar r.right.length cr,.int .i64 r.prec] 52)=x at *;have a:=(u x l).mono λe w' j=>And.intro j.1 (And.intro (Jd j.2).1 (LH (Zz l j.2)));have v:=LH a;clear a;refine v.out.mono ?_;rintro e G⟨rfl,z,d⟩;have H:=(z _ 0 z5).trans z0;rcases (by cases f <;> simp:f=false\/f=true) with rfl | rfl
 ·go_wp2_with fail;go_ret;exact⟨d,none,0,0,rfl,by rw[k];exact Za.nil _ _ _ _ AA,λb o h=>by cases h⟩
 go_wp2_with fail;go_ret;refine⟨d.alloc d.size _,_,1,1,rfl,by rw[k];exact Ztd _ _ _,λb o h=>?_⟩;injection h with h;injection h with h _;have:=d.size;omega
theorem rf_made(Ar:Option Addr)(v cr g n:Nat)(ss:List Int)(N:List Bool)(w:World)(l:Za .i64 w Ar v cr ss)(o:Z8 w g N)(L:N.length=n)(F:n<=1000)(t:∀s∈ss,-(n:Int)<=s/\s<=1000):
 Calls prog 115 #[.slice Ar v cr,.slice (some ⟨g,0,none⟩) n n] w λe w'=>e = .returned (.bool (Xj true N ss))/\w=w':=by
 obtain rfl:=l.len;have I:=l.cap;have C:=LH t;have z:=LH o;have m:Hid (Xj true N ss=ss.all λs=>if 0<=s then true else N.getD (Zp s) false):=rfl;clear t o;go_enter func115,ntmps115;go_wp2_with fail;go_loop [5] (λi=>∃(k:Nat),k<=ss.length/\i = .int .i64 (k:Int)/\Hid (∀j,j<k->∀y,ss[j]? = some y->(!(if 0<=y then true else N.getD (Zp y) false))=false)) (λi=>ss.length-(intOf i).toNat)
 case atStart=>exact⟨0,AV _,rfl,LH λj D=>AA⟩
 obtain⟨k,J,rfl,f⟩:=hrel;by_cases E:k<ss.length
 ·obtain⟨H,O,s,rfl,c,b,R⟩:=l.get E;obtain⟨G,S⟩:=C s (AM b);by_cases h:0<=s
  ·have a:(!(if 0<=s then true else N.getD (Zp s) false))=false:=by rw[if_pos h];rfl
   have d:=LH a;clear a;go_wp2_with fail;go_roundw
   case rel=>exact⟨k+1,AA,AF,LH (Vz f b d)⟩
   simp[intOf];omega
  obtain⟨j,D,r,M⟩:=Vy (s:=s) (n:=n) AA G F;have c0:=z.at (i:=j) AA;have q:N.getD j false=false->Xj true N ss=false:=λc=>by rw[m];exact Jy b (by rw[if_neg h,r];exact c)
  have a:N.getD j false=true->(!(if 0<=s then true else N.getD (Zp s) false))=false:=λc=>by rw[if_neg h,r,c];rfl
  generalize N.getD j false=x at *;have B:=LH q;have d:=LH a;clear q a;rcases (by cases x <;> simp:x=false\/x=true) with rfl | rfl
  ·go_wp2_with fail;go_ret;exact⟨by rw[B (by trivial)];rfl,rfl⟩
  go_wp2_with fail;go_roundw
  case rel=>exact⟨k+1,AA,AF,LH (Vz f b (d (by trivial)))⟩
  simp[intOf];omega
 obtain rfl:k=ss.length:=AA
 have p:Xj true N ss=true:=by
  rw[m];exact Cv λj y u=>by
   have:=f j (AO.1 u).1 y u;rw[Bool.not_eq_eq_eq_not] at this;exact this
 have A:=LH p;clear p;go_wp2_with fail;go_ret;exact⟨by rw[A];rfl,rfl⟩
theorem rf_alone(Ar:Option Addr)(r cr g n q:Nat)(ss:List Int)(N:List Bool)(w:World)(o:Za .i64 w Ar r cr ss)(v:Z8 w g N)(b:N.length=n)(R:n<=1000)(d:∀s∈ss,-(n:Int)<=s/\s<=1000)(hq:q<=1000)(Z:r<=1000):
 Calls prog 114 #[.slice Ar r cr,.int .i64 (q:Int),.slice (some ⟨g,0,none⟩) n n] w λe w'=>e = .returned (.bool (J6 N ss q))/\w=w':=by
 obtain rfl:=o.len;have X:=o.cap;have J:=LH d;have F:=LH v;clear d v;go_enter func114,ntmps114;go_wp2_with fail;go_loop [7] (λi=>∃(k:Nat),k<=ss.length/\i = .int .i64 (k:Int)/\Hid (∀p,p<k->∀s,ss[p]? = some s->p≠q->Xg N s=true)) (λi=>ss.length-(intOf i).toNat)
 case atStart=>exact⟨0,AV _,rfl,LH λj L=>AA⟩
 obtain⟨k,Y,rfl,f⟩:=hrel;by_cases M:k<ss.length
 ·obtain⟨U,ad,s,rfl,W,l,q0⟩:=o.get M;obtain⟨T,s2⟩:=J s (AM l);by_cases m:k=q
  ·have D:∀p,p<k+1->∀s,ss[p]? = some s->p≠q->Xg N s=true:=λp c s d a=>f p AA s d a;have I:=LH D;have a:((k:Int) != (q:Int))=false:=by rw[BQ];omega
   clear D m;go_wp2_with fail;go_roundw
   case rel=>exact⟨k+1,AA,AF,I⟩
   simp[intOf];omega
  have a:((k:Int) != (q:Int))=true:=by rw[BM];omega
  have B:Xg N s=true->∀p,p<k+1->∀s,ss[p]? = some s->p≠q->Xg N s=true:=λb p c y E a=>by
   rcases BC p k with h | h
   ·exact f p h y E a
   obtain rfl:p=k:=AA
   have:=l.symm.trans E;injection this with this;rw[<-this];exact b
  have A:Xg N s=false->J6 N ss q=false:=λb=>alone_false l m b;have t:=LH A;have H:=LH B;clear A B m;by_cases V:0<=s
  ·have O:Hid (Xg N s=false):=LH (by unfold Xg;rw[show decide (s<0)=false by rw[BA];omega];rfl);go_wp2_with fail;go_ret;exact⟨by rw[t O];rfl,rfl⟩
  obtain⟨j,L,S,hw⟩:=Vy (s:=s) (n:=n) AA T R;have c0:=F.at (i:=j) AA;have C:Xg N s=N.getD j false:=by unfold Xg;rw[show decide (s<0)=true by rw[BB];omega,S];rfl
  have u:=LH C;clear C;generalize N.getD j false=x at *;rcases (by cases x <;> simp:x=false\/x=true) with rfl | rfl
  ·go_wp2_with fail;go_ret;exact⟨by rw[t u];rfl,rfl⟩
  go_wp2_with fail;go_roundw
  case rel=>exact⟨k+1,AA,AF,LH (H u)⟩
  simp[intOf];omega
 obtain rfl:k=ss.length:=AA
 have z:J6 N ss q=true:=alone_true λp s c a=>f p (AO.1 c).1 s c a;have G:=LH z;clear z;go_wp2_with fail;go_ret;exact⟨by rw[G];rfl,rfl⟩
section
variable {P:Program} {w:World}
theorem Zzi(H:o.guard=none)(s x:Operand)(t:TypeId)(L:o.op = .call { callee := .builtin .append,args:=#[s,x],argTypes:=#[t,t] })(base:Nat)(e:TypeId)(z:Value)(size bytes:Nat)(T:P.underlying t=some (.slice e))(hi:(P.info? e).map (λi=>(i.zero,i.size,i.bytes))=some (some z,size,bytes))(W:z.cells.size=size)(S:0<size)(A:Option Addr)(n c:Nat)(xs:List Value)(O:a.eval s = .slice A n c)(M:w.ownsRow base e size (.slice A n c) n xs)(p:Addr)(m c2:Nat)(k:List Value)(J:k.length=m*size)(U:a.eval x = .slice (some p) m c2)(G:∀j u,k[j]? = some u->w.cell? (p.add j)=some u)(r:∀u∈k,u.oneCell'=true)(B:n+m<=9223372036854775807)(F:(n+m)*bytes<=140737488355328)(D:base<=w.heap.size)(h:∀d f w',w'.ownsRow base e size (.slice d (n+m) f) (n+m) (xs++k)->w.grownBy w' (Value.slice A n c).ownBlock->(∀b,(Value.slice d (n+m) f).ownBlock=some b->b<w.heap.size->(Value.slice A n c).ownBlock=some b)->
   wpList P ops Q rest (a.put o.dst (.slice d (n+m) f)) w'):wpList P ops Q (o::rest) a w:=by
 obtain⟨i,I,V,R,E⟩:=info_parts hi;obtain⟨Y,w',N,q,v,_,g⟩:=run_append_own_at (P:=P) w base t o.type e i z size bytes T I V R E W S _ n xs M p m c2 k J G r (by simpa [maxLen] using B) F D;obtain⟨d,f,rfl⟩:=Zuk q;have y:∀b,(Value.slice d (n+m) f).ownBlock=some b->b<w.heap.size->(Value.slice A n c).ownBlock=some b:=by
  intro b l X;rcases g with g | g
  ·rw[<-g];exact l
  rw[g] at l;injection l with l;omega
 refine wpList_plain H λK C=>?_;unfold Oper.wp execOp;simp only[L,resolve,invoke,builtin,Sem.run_bind,Sem.run_pure,Result.andThen_ok,List.map_toArray,CJ,List.map_nil,O,U,N];exact C _ _ (h d f w' q v y)
theorem Ye(H:o.guard=none)(s x:Operand)(t:TypeId)(J:o.op = .call { callee := .builtin .append,args:=#[s,x],argTypes:=#[t,t] })(base:Nat)(e:TypeId)(z:Value)(size bytes:Nat)(O:P.underlying t=some (.slice e))(hi:(P.info? e).map (λi=>(i.zero,i.size,i.bytes))=some (some z,size,bytes))(T:z.cells.size=size)(N:0<size)(A:Option Addr)(n c:Nat)(xs:List Value)(M:a.eval s = .slice A n c)(L:w.ownsRow base e size (.slice A n c) n xs)(d:List Value)(I:d.length=size)(S:a.eval x = .slice (some ⟨w,0,none⟩) 1 1)(y:∀u∈d,u.oneCell'=true)(D:n+1<=9223372036854775807)(F:(n+1)*bytes<=140737488355328)(U:base<=w.heap.size)(h:∀g l w',w'.ownsRow base e size (.slice g (n+1) l) (n+1) (xs++d)->w.grownBy w' (Value.slice A n c).ownBlock->(∀b,(Value.slice g (n+1) l).ownBlock=some b->b<w.heap.size->(Value.slice A n c).ownBlock=some b)->
   wpList P ops Q rest (a.put o.dst (.slice g (n+1) l)) w'):wpList P ops Q (o::rest) a (w.alloc (.cells d.toArray e)):=by
 have G:∀j u,d[j]? = some u->(w.alloc (.cells d.toArray e)).cell? ((⟨w,0,none⟩:Addr).add j)=some u:=by
  intro j u R;have r:(⟨w,0,none⟩:Addr).add j=⟨w,j,none⟩:=by
   unfold Addr.add;split
   ·rename_i v;subst v;rfl
   simp
  rw[r,World.cell?_alloc_mark];simpa using R
 refine Zzi H s x t J base e z size bytes O hi T N A n c xs M (L.alloc _) _ 1 1 d (by rw[I,Nat.one_mul]) S G y D F AG λg l w' B m C=>?_;have f:w.grownBy (w.alloc (.cells d.toArray e)) (Value.slice A n c).ownBlock:=World.grownBy_alloc _ _ _;exact h g l w' B ⟨m.os.trans f.os,m.tape.trans f.tape,m.output.trans f.output,BD f.size m.size,λk p q=>(m.block k (AK p f.size) q).trans (f.block k p q)⟩ λb E V=>C b E AG
theorem Zz6(q:o.guard=none)(s x:Operand)(t:TypeId)(r:o.op = .call { callee := .builtin .append,args:=#[s,x],argTypes:=#[t,t] })(base:Nat)(e:TypeId)(z:Value)(size bytes:Nat)(y:P.underlying t=some (.slice e))(hi:(P.info? e).map (λi=>(i.zero,i.size,i.bytes))=some (some z,size,bytes))(O:z.cells.size=size)(N:0<size)(A:Option Addr)(n c:Nat)(xs:List Value)(v:a.eval s = .slice A n c)(p:w.ownsRow base e size (.slice A n c) n xs)(g:Option Addr)(m c2:Nat)(d:List Value)(J:d.length=m*size)(B:a.eval x = .slice g m c2)(h0:g=none->m=0)(H:∀f,g=some f->∀j u,d[j]? = some u->w.cell? (f.add j)=some u)(h1:∀u∈d,u.oneCell'=true)(C:n+m<=9223372036854775807)(G:(n+m)*bytes<=140737488355328)(F:base<=w.heap.size)(h:∀k l w',w'.ownsRow base e size (.slice k (n+m) l) (n+m) (xs++d)->w.grownBy w' (Value.slice A n c).ownBlock->(∀b,(Value.slice k (n+m) l).ownBlock=some b->b<w.heap.size->(Value.slice A n c).ownBlock=some b)->
   wpList P ops Q rest (a.put o.dst (.slice k (n+m) l)) w'):wpList P ops Q (o::rest) a w:=by
 rcases g with _ | f
 ·obtain rfl:=h0 rfl;have L:d=[]:=BL AA;subst L;obtain⟨i,I,T,S,R⟩:=info_parts hi;have M:=run_append_nilS (P:=P) base size t o.type e i y I A n c xs p c2;refine wpList_plain q λK D=>?_;unfold Oper.wp execOp;simp only[r,resolve,invoke,builtin,Sem.run_bind,Sem.run_pure,Result.andThen_ok,List.map_toArray,CJ,List.map_nil,v,B,M];exact D _ _ (h A c w (by simpa using p) (World.grownBy.refl _ _) λb E _=>E)
 exact Zzi q s x t r base e z size bytes y hi O N A n c xs v p f m c2 d J B (H f rfl) h1 C G F h
end
section
variable {P:Program}
theorem Xw.at:∀{l:List Oper} {i k:Nat} {o:Oper},Xw P ops Q J i l->l[k]? = some o->
 (∀(listed:Array Bool) (a:Act) (w:World),J listed a w->listed.getD (i+k) true=false->(∀e∈o.after,Region.binds .any e=true->listed.getD e.on false=true)->
   ∀K:Act->World->Prop,(∀c w',J (listed.setIfInBounds (i+k) true) c w'->K c w')->if Region.wanted o (yielded ops a.tmps) then o.wp P a w K Q else K (a.put o.dst undef) w)
 | [],i,k,o,_,b=>by simp at b
 | q::l,i,0,o,h,b=>by
   have e:q=o:=by simpa using b
   subst e;exact h.1
 | q::l,i,k+1,o,h,b=>by
   have:=Xw.at h.2 (by simpa using b:l[k]? = some o);rw[show i+(k+1)=i+1+k by omega];exact this
theorem Zy4(g:Zvw ops=true)(l:∀i o,ops[i]? = some o->∀(listed:Array Bool) (a:Act) (w:World),J listed a w->listed.getD i true=false->(∀e∈o.after,Region.binds .any e=true->listed.getD e.on false=true)->
   ∀K:Act->World->Prop,(∀c w',J (listed.setIfInBounds i true) c w'->K c w')->if Region.wanted o (yielded ops a.tmps) then o.wp P a w K Q else K (a.put o.dst undef) w)(j:∀(listed:Array Bool) (a:Act) (w:World),J listed a w->(∀i,i<ops.size->listed.getD i true=true)->Q .normal a w):
 ∀(fuel:Nat) (listed:Array Bool) (a:Act) (w:World),leftN ops.size listed<=fuel->J listed a w->wpAny P .any ops Q fuel listed a w
 | 0,listed,a,w,hl,hJ=>by
   have d:Region.ready .any ops listed=[]:=by
    rw[List.eq_nil_iff_forall_not_mem];intro i hi;obtain⟨f,o,b,_⟩:=mem_ready.1 hi;have:=F6 (n:=ops.size) (Array.getElem?_eq_some_iff.1 b).1 f;omega
   exact⟨d,j listed a w hJ (Zwd g d)⟩
 | fuel+1,listed,a,w,hl,hJ=>by
   refine⟨λd=>j listed a w hJ (Zwd g d),λi hi=>?_⟩;obtain⟨f,o,b,m⟩:=mem_ready.1 hi;have p:=F6 (n:=ops.size) (Array.getElem?_eq_some_iff.1 b).1 f;have h1:=l i o b listed a w hJ f m (wpAny P .any ops Q fuel (listed.setIfInBounds i true)) (λc w' h=>Zy4 g l j fuel _ c w' AA h);unfold wpOp;simp only[b];split
   ·rename_i k;rw[if_pos k] at h1;exact .inl h1
   rename_i k;rw[if_neg k] at h1;exact h1
theorem Dq{w:World}(J:Array Bool->Act->World->Prop)(j:P.follows .mixedOrders=true)(f:Zvw l.toArray=true)(h0:J (Array.replicate l.length false) a w.drew)(p:Xw P l.toArray Q J 0 l)(g:∀(listed:Array Bool) (a:Act) (w:World),J listed a w->(∀i,i<l.length->listed.getD i true=true)->Q .normal a w):(Code.region id l.toArray true).wp P Q a w:=by
 refine wp_region_any j ?_;refine Zy4 f (λi o m listed a w b q n K d=>?_) (λlisted a w b h=>g listed a w b λi hi=>h i (by simpa using hi)) _ _ _ _ ?_ (by simpa using h0)
 ·have:=Xw.at (k:=i) p (by simpa using m) listed a w b (by rw[BH];exact q) n K (λc w' h=>d c w' (by rw[BH] at h;exact h));exact this
 exact BD (List.length_filter_le _ _) AE
theorem H6{w:World}(J:Array Bool->Act->World->Prop)(d:P.follows .mixedOrders=true)(b:Zvw l.toArray=true)(h0:J (Array.replicate l.length false) a w.drew)(f:Xc P J 0 l)(c:∀(listed:Array Bool) (a:Act) (w:World),J listed a w->(∀i,i<l.length->listed.getD i true=true)->Q .normal a w):(Code.region id l.toArray true).wp P Q a w :=
 Dq J d b h0 f.inv c
end
section
open Go.Maps (Keyed IsMap Tidy)
theorem Zf.of_below{w:World}(h:Below w w w'):Zf w w':=⟨h.size,λb a _=>h.block b a⟩
theorem Z1.none_iff{w:World}{c:Nat}{b:Bool}(h:Z1 w A n c b x):(b=false/\n=0)↔x=0:=by
 obtain⟨rfl,f⟩:=h;have a:=f.len;by_cases d:x<big
 ·rw[Z7 d] at a ⊢;simp only[true_and] at a ⊢;rw[<-a];exact Lq
 rw[Wl d];have g:0<big:=by unfold big;generalize 1024=k;exact Nat.two_pow_pos k
 constructor
 ·rintro⟨h,_⟩;cases h
 rintro rfl;exact absurd g d
theorem Vp.frozen{w:World}{t:TypeId}(h:Vp w g t xs)(i:Nat):w.frozen? ⟨g,i,none⟩=false:=by
 obtain⟨cs,a,_⟩:=h;exact a.frozen i
theorem Zww(h1:-1000<=s)(d:s<=1000)(h:n<=1000):∃l,keyOf prog 247 (kT s n)=some l:=by
 have a:prog.keyType 247=true:=AB
 have b:prog.cellsOf 247=2:=AB
 have c:prog.cellsOf 3=1:=AB
 have w1:=Mb h1 d;have g:(Lit.int .i64 (n:Int)).wf=true:=Mb AA AA;obtain⟨m,f⟩:=Zy5 Tryz.rowKT AC;unfold keyOf kT;rw[f];simp[underlying247,a,Value.formed,b,Program.keyLits,Value.cells,c,underlying3,w1,g,DZ]
theorem Zsn{d:Nat}(h1:i<=1000)(j:d<=1000)(o:n<=1000):∃l,keyOf prog 251 (kF i d n)=some l:=by
 have a:prog.keyType 251=true:=AB
 have b:prog.cellsOf 251=3:=AB
 have c:prog.cellsOf 3=1:=AB
 have w1:(Lit.int .i64 (i:Int)).wf=true:=Mb AA AA;have g:(Lit.int .i64 (d:Int)).wf=true:=Mb AA AA;have h:(Lit.int .i64 (n:Int)).wf=true:=Mb AA AA;obtain⟨m,f⟩:=Zy5 Tryz.rowKF AC;unfold keyOf kF;rw[f];simp[underlying251,a,Value.formed,b,Program.keyLits,Value.cells,c,underlying3,w1,g,h]
end
theorem Ztk(A:Option Addr)(n c:Nat)(b:Bool)(x:Nat)(w:World)(h:Z1 w A n c b x):
 Calls prog 156 #[.agg #[.slice A n c,.bool b]] w λe w'=>e = .returned (.bool (decide (x=0)))/\Below w w w':=by
 have f:=Zy w (.cells #[.slice A n c,.bool b] 77);have d:=h.none_iff;have j:=h.2.cap;go_enter func156,ntmps156;clear h;cases b
 case true =>
  have a:decide (x=0)=false:=by rw[BA];intro e;have:=d.2 e;cases this.1
  have Hx:=LH a;clear d a;go_wp2_with fail;go_ret;exact⟨by rw[Hx];rfl,f⟩
 by_cases g:n=0
 ·subst g;have a:decide (x=0)=true:=by rw[BB];exact d.1 ⟨rfl,rfl⟩
  have Hx:=LH a;clear d a;go_wp2_with fail;go_ret;exact⟨by rw[Hx];rfl,f⟩
 have a:decide (x=0)=false:=by rw[BA];intro e;exact g (d.2 e).2
 have k:((n:Int)==0)=false:=by rw[AQ];omega
 have Hx:=LH a;clear d a g;go_wp2_with fail;go_ret;exact⟨by rw[Hx];rfl,f⟩
theorem Zs5{w:World}{c:Nat}{b:Bool}(h:Z1 w A n c b x):(x=0/\n=0/\b=false)\/(x≠0/\((n:Int)==0)=false/\b=false)\/(x≠0/\n=0/\b=true):=by
 have h0:=h.none_iff;have h1:=h.1;have a:=h.2.len;by_cases f:x<big
 ·rw[Z7 f] at h1 a;simp only at h1 a;subst h1;by_cases d:n=0
  ·exact .inl ⟨h0.1 ⟨rfl,d⟩,d,rfl⟩
  exact .inr (.inl ⟨λe=>d (h0.2 e).2,by simpa using d,rfl⟩)
 rw[Wl f] at h1 a;have:=Zsx;exact .inr (.inr ⟨AA,a.symm,h1⟩)
section
variable {P:Program} {M:World->Prop} {R:World->World->Prop}
theorem Zwm.at:∀{ds:List (Value->World->Prop)},Zwm R ds->∀i v X a,atL ds i v X->R X a->atL ds i v a
 | [],_,i,_,_,_,_,_=>trivial
 | d::ds,h,0,v,X,a,hd,hb=>h.1 v X a hd hb
 | d::ds,h,i+1,v,X,a,hd,hb=>Zwm.at (ds:=ds) h.2 i v X a hd hb
end
section
open Go.Maps (Keyed IsMap Tidy)
open Go.Maps (Keyed IsMap Tidy)
variable {W0:World} {k:BkH} {h:GH} {G:Gr} {S':Nat->Prop} {w:World} {gR:Nat} {b:Nat->Bool} {u:Nat->Value} {X:World}
theorem Zu.of_below{w:World}(h:Below w w w'):Zu w w' := .of_int (.of_below h)
end
theorem InG.at{G:Gr}(a:G.Fits){x:Rul}(b:G.rules[i]? = some x):InG G x.right:=InG.rule a (AM b)
section
variable {G:Gr}
theorem Ztu(k:G.Fits){ss ps f wd:List Int}{m:Nat}(h:Fs G ss ps f wd m):∀s∈ss,s<0->(Zt G).getD (Zp s) false=true:=by
 induction h with
 | nil=>intro s a;cases a
 | term h0 _ o =>
   intro s a h1;rcases BV.1 a with rfl | a
   ·omega
   ·exact o s a h1
 | @non s i r ss y z w1 ps f wd x m h0 n u _ _ p t =>
   intro q c h1;rcases BV.1 c with rfl | c
   ·obtain⟨j,rfl,l⟩:=Uo n;have d:=AM l;have v:=k.left r d;have g:=Ue (b:=true) d AA (U8.2 λs a=>⟨λ_=>rfl,λh0=>p s a h0⟩);have e:Zp q=r.left.toNat:=by unfold Zp;omega
    rw[e];exact g
   exact t q c h1
end
