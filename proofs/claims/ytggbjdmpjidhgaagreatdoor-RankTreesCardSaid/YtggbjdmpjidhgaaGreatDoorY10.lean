/- Words for slices that read as lists: no program in sight. -/
import Derived.Test.YtggbjdmpjidhgaaGreatDoorY04
import Derived.Test.YtggbjdmpjidhgaaGreatDoorY05
import Derived.Test.YtggbjdmpjidhgaaGreatDoorY06
set_option linter.all false
set_option maxHeartbeats 1500000
set_option maxRecDepth 100000
namespace Go.Proofs.YtggbjdmpjidhgaaGreatDoor
open Go.RowKit Go.Proofs.Tryz
variable{N M:List Bool}{ss l:List Int}{s:Int}{r a use i f n q g c:Nat}{F t xs:List Nat}{ops:Array Oper}{o p A:Option Addr}{K:Act->World->Prop}{Q:Exit->Act->World->Prop}{d:List Field}{w1 w':World}{T:Int->Nat->Nat}{x:Rul}
theorem set_members(s:Nat)(w:World)(E:s<4294967296)(z:Q2 w):
 Calls prog 148 #[.int .u32 (s:Int)] w (RetInts .i64 w (Z6 (Wy s))):=by
 have u:=LH (Zt7 s);go_enter func148,ntmps148;go_wp2;go_loopw [0,3] (λt o wr=>∃(r:Nat) (A:Option Addr) (b:Nat) (a:List Nat),t = .int .u32 (r:Int)/\r<4294967296/\Hid (Wy s=a++Wy r)/\o = .slice A a.length b /\
  wr.ownsRow w 3 1 (.slice A a.length b) a.length (ints .i64 (Z6 a))/\Below w w wr) (λt _ _=>(intOf t).toNat)
 case atStart=>exact⟨s,none,0,[],rfl,E,LH rfl,rfl,BJ _ _ _ _,AL _ _⟩
 obtain⟨r,A,b,a,rfl,f,g,rfl,h,d⟩:=hrel;have B:=d.size;by_cases c:r=0
 ·subst c;have n:Wy s=a:=by rw[g,mems_zero,DH]
  have v:=LH n;go_wp2;go_ret;have e:Z6 (Wy s)=Z6 a:=by rw[v]
  rw[e];refine⟨A,b,by rw[Mv];rfl,?_,d⟩;rw[Mv];exact Yl h
 have j:=mems_step r c f;obtain⟨H,_,_,_,I⟩:=Zt1 r c f;have M:((r:Int) != 0)=true:=by rw[BM];omega
 have m:=tz32 r wr c f (z.below d);have G:bits .and .u32 (r:Int) ((r:Int)-1)=((r &&& (r-1):Nat):Int):=by
  rw[show (r:Int)-1=((r-1:Nat):Int) from by omega];exact and32 r (r-1) f AA
 have L:0<r:=AA
 have J:a.length<32:=by
  have:=u.out;rw[g,j,AU,AZ] at this;omega
 have x:=LH j;have q:=LH m;generalize Lib.ctz 32 r=k at *;generalize r &&& (r-1)=F at *;go_wp2_with (first
  | (go_at_call 196;refine q.out.mono ?_;rintro e w'⟨rfl,rfl⟩)
  | (at_builtin;refine Vc (w:=wr) rfl _ _ 27 rfl w 3 (.int .i64 0) 8 underlying27 Tryz.infoInt rfl _ a.length _ _ rfl h (.int .i64 ((k:Int))) rfl rfl AA AA AA ?_;intro p y N D C))
 go_roundw
 case rel =>
  have e:ints .i64 (Z6 (a++[k]))=ints .i64 (Z6 a)++[.int .i64 (k:Int)]:=by simp[ints,Z6]
  have l:(a++[k]).length=a.length+1:=AE
  refine⟨F,p,y,a++[k],rfl,AA,LH (by rw[g,x];simp),by rw[l],?_,X6 d C h B⟩;rw[e,l];exact D
 simp[intOf];omega
theorem tr_bare(left:Int)(Ar:Option Addr)(cr:Nat)(ss:List Int)(a:Int)(w:World)(j:Za .i64 w Ar ss.length cr ss):
 Calls prog 152 #[.agg #[.int .i64 left,.slice Ar ss.length cr,.int .i64 a]] w λe w'=>e = .returned (.bool (!ss.any λs=>decide (0<=s)))/\Below w w w':=by
 have c:=Zy w (.cells #[.int .i64 left,.slice Ar ss.length cr,.int .i64 a] 52);have h:=Fl.new w 52 left Ar ss.length cr a;go_enter func152,ntmps152;have⟨z5,z0,z1,z2⟩:=h;go_wp2_with fail;generalize w.alloc (.cells #[.int .i64 left,.slice Ar ss.length cr,.int .i64 a] 52)=b at *;have f:Zyw 198 #[] (Value.int .i64) b ss (λs=>decide (0<=s)):=λs _ w' _=>by
  show Calls prog 198 #[.int .i64 s] w' _;exact (tr_bare1 s w').mono λe l d=>⟨d.1,by rw[<-d.2];exact AL _ _⟩
 refine (U1 Ar ss.length cr ss 198 #[] (λs=>decide (0<=s)) b enters_bare1 (j.below c) f).mono ?_;rintro e k⟨rfl,g⟩;go_wp2_with fail;go_ret;exact⟨rfl,Zz c g⟩
theorem passI_null(a:List Rul)(N:List Bool):Yy Bd a N=Xs (Xo false) a N:=by
 unfold Yy Xs;congr 1;funext N r;unfold Ce Bd Qa Xo Jz;split <;> simp
theorem Zx9(a:List Rul)(N:List Bool):∀k,Z3 (Yy Bd a) k N=Z3 (Xs (Xo false) a) k N
 | 0=>rfl
 | k+1=>by rw[Z3,Z3,Zx9 a N k,passI_null]
theorem passI_prod(a:List Rul)(N:List Bool):Yy Bn a N=Xs (Xo true) a N:=by
 unfold Yy Xs;congr 1;funext N r;unfold Ce Bn Qa Xo Jz;split <;> simp
theorem Zy0(a:List Rul)(N:List Bool):∀k,Z3 (Yy Bn a) k N=Z3 (Xs (Xo true) a) k N
 | 0=>rfl
 | k+1=>by rw[Z3,Z3,Zy0 a N k,passI_prod]
theorem stands_eq{P:List Bool}(o:∀i,N.getD i false=true->P.getD i false=true){k:Nat}(j:ss[k]? = some s):Zyn N P ss s=Xk N P ss k s:=by
 by_cases n:s<0
 case neg=>unfold Zyn Xk;simp[n]
 have e:Vo N ss=Vo N (ss.take k)++(Vo N [s]++Vo N (ss.drop (k+1))):=by
  have r:=(AO.1 j).1;have b:ss.drop k=s::ss.drop (k+1):=by
   rw[DV r];congr 1;exact (AO.1 j).2
  have e:ss=ss.take k++([s]++ss.drop (k+1)):=by rw[List.singleton_append,<-b,List.take_append_drop]
  conv=>lhs;rw[e]
  unfold Vo;rw[List.filter_append,List.filter_append]
 have t:Xj true P [s]=P.getD (Zp s) false:=by unfold Xj;simp <;> omega
 rw[BZ];unfold Zyn Xk J6;rw[allP_split j,t];simp only[AS,BX,decide_eq_true_eq,n,true_and];have g:=λl=>@bareL_nil N l;constructor
 ·rintro⟨m,a⟩;have q:Vo N (ss.take k)=[]/\Vo N (ss.drop (k+1))=[]:=by
   rw[e] at a;by_cases d:Xg N s=true
   ·have h:Vo N [s]=[]:=by unfold Vo;simp[d]
    rw[h,DD] at a;rcases a with a | ⟨a,p⟩
    ·rw[List.length_eq_zero_iff,List.append_eq_nil_iff] at a;exact a
    exfalso;have c:=AM p;rcases DE.1 c with c | c;all_goals
     unfold Vo at c;rw[List.mem_filter] at c;simp[d] at c
   have h:Vo N [s]=[s]:=by unfold Vo;simp[d]
   rw[h] at a;simp only[AU,AZ,DR] at a;rcases a with a | ⟨a,p⟩
   ·omega
   exact⟨List.length_eq_zero_iff.1 AA,List.length_eq_zero_iff.1 AA⟩
  have b:=(g _).1 q.1;have f:=(g _).1 q.2;exact⟨⟨b,f⟩,Zuh o b,m,Zuh o f⟩
 rintro⟨⟨b,f⟩,u,m,v⟩;refine⟨m,?_⟩;rw[e,(g _).2 b,(g _).2 f,DD,DH];by_cases d:Xg N s=true
 ·left;unfold Vo;simp[d]
 right;unfold Vo;simp[d]
theorem growN_le{r:Rul}(h:Le' N M):Le' (Qa (Xo false) r N) (Qa (Xo true) r M):=by
 refine⟨by rw[(N2 _ r).len,(N2 _ r).len];exact h.1,λi hi=>?_⟩;unfold Qa at hi ⊢;by_cases a:Xo false r N=true
 ·rw[if_pos a,Uh] at hi;have b:Xo true r M=true:=allP_mono h.2 a;rw[if_pos b,Uh];rcases hi with hi | ⟨hi,c⟩
  ·exact .inl (h.2 i hi)
  exact .inr ⟨hi,by rw[<-h.1];exact c⟩
 rw[if_neg a] at hi;split
 ·rw[Uh];exact .inl (h.2 i hi)
 exact h.2 i hi
theorem passN_le{a:List Rul}(h:Le' N M):Le' (Xs (Xo false) a N) (Xs (Xo true) a M):=by
 induction a generalizing N M with
 | nil=>exact h
 | cons r a b=>exact b (growN_le h)
theorem null_prod(G:Gr):∀i,(Zj G).getD i false=true->(Zt G).getD i false=true:=by
 rw[Qe];unfold Zt U5;generalize G.nons.length=n;have:∀k,Le' (Z3 (Xs (Xo false) G.rules) k (List.replicate n false)) (Z3 (Xs (Xo true) G.rules) k (List.replicate n false)):=λk=>by
  induction k with
  | zero=>exact⟨rfl,λ_ h=>h⟩
  | succ k a=>exact passN_le a
 exact (this n).2
theorem growSt_small(N P:List Bool)(r:Rul)(k:Nat)(h:We F):We (Um N P r k F):=by
 unfold Um;split
 ·exact h
 split
 ·exact h.addAt _ (Ua _)
 exact h
theorem N1(N P:List Bool)(r:Rul)(h:We F):∀k,We (Y2 N P r k F)
 | 0=>h
 | k+1=>by rw[Uk];exact growSt_small N P r k (N1 N P r h k)
theorem Lm(N P:List Bool)(a:List Rul)(h:We F):We (Wo N P a F):=by
 induction a generalizing F with
 | nil=>exact h
 | cons r a b=>exact b (N1 N P r h _)
theorem Ks(G:Gr):We (Yz G):=Lm _ _ _ (We.zero _)
theorem orderS_end(S:List Nat)(n:Nat)(k:use<4294967296):Qx (U2 S use (Y4 S use n n).2) n=none:=by
 cases d:Qx (U2 S use (Y4 S use n n).2) n with
 | none=>rfl
 | some i =>
   exfalso;have a:=(Zzg S use n).fix (List.replicate n false);rw[Ef] at a;have f:=B8 S use n (List.replicate n false) n;rw[Ef] at f;rw[Co] at d;generalize Z3 (Dn S use n) n (List.replicate n false)=b at *;unfold Dn at a;rw[d] at a;simp only[] at a;obtain⟨hi,c⟩:=Cj d;unfold U2 at c;simp only[AS] at c;have g:=Ztx k c.1.1;have h:b.getD i false=true:=by
    rw[<-a];exact (Uh b i i).2 (.inr ⟨rfl,AA⟩)
   have j:(Nm b).testBit i=true:=by
    unfold Nm;rw[J3,h];simp[g,f,hi]
   rw[j] at c;exact absurd c.1.2 AC
theorem V5{P:Program}{o:Oper}{a:Act}{w:World}{E:Prop}(H:o.guard=none)(s x:Operand)(t:TypeId)(L:o.op = .call { callee := .builtin .append,args:=#[s,x],argTypes:=#[t,t] })(base:Nat)(e:TypeId)(z:Value)(size bytes:Nat)(T:P.underlying t=some (.slice e))(hi:(P.info? e).map (λi=>(i.zero,i.size,i.bytes))=some (some z,size,bytes))(X:z.cells.size=size)(S:0<size)(A:Option Addr)(n c:Nat)(xs:List Value)(O:a.eval s = .slice A n c)(M:w.ownsRow base e size (.slice A n c) n xs)(p:Addr)(m c2:Nat)(k:List Value)(J:k.length=m*size)(V:a.eval x = .slice (some p) m c2)(G:∀j u,k[j]? = some u->w.cell? (p.add j)=some u)(r:∀u∈k,u.oneCell'=true)(B:n+m<=9223372036854775807)(F:(n+m)*bytes<=140737488355328)(C:base<=w.heap.size)(h:∀d f w',w'.ownsRow base e size (.slice d (n+m) f) (n+m) (xs++k)->w.grownBy w' (Value.slice A n c).ownBlock->(∀b,(Value.slice d (n+m) f).ownBlock=some b->b<w.heap.size->(Value.slice A n c).ownBlock=some b)->
   K (a.put o.dst (.slice d (n+m) f)) w'):if Region.wanted o (yielded ops a.tmps)=true then Oper.wp P o a w K Q else E:=by
 have U:Region.wanted o (yielded ops a.tmps)=true:=by simp[Region.wanted,H]
 rw[if_pos U];obtain⟨i,I,W,R,D⟩:=info_parts hi;obtain⟨Z,w',N,q,v,_,g⟩:=run_append_own_at (P:=P) w base t o.type e i z size bytes T I W R D X S _ n xs M p m c2 k J G r (by simpa [maxLen] using B) F C;obtain⟨d,f,rfl⟩:=Zuk q;have y:∀b,(Value.slice d (n+m) f).ownBlock=some b->b<w.heap.size->(Value.slice A n c).ownBlock=some b:=by
  intro b l Y;rcases g with g | g
  ·rw[<-g];exact l
  rw[g] at l;injection l with l;omega
 unfold Oper.wp execOp;simp only[L,resolve,invoke,builtin,Sem.run_bind,Sem.run_pure,Result.andThen_ok,List.map_toArray,CJ,List.map_nil,O,V,N];exact h d f w' q v y
theorem Ztq(G:Gr):Vh G<4294967296:=by
 unfold Vh cycS;split
 ·exact Jg _ _
 decide
theorem Gc(G:Gr)(i:Nat):(Xu (Yz G)).getD i 0<4294967296:=(Lv (Ks G)).get i
theorem Zv8{G:Gr}(c:Xq G){t:Nat}(hi:i<G.nons.length)(h:((Yz G).getD i 0).testBit t=true):(Xu (Yz G)).getD t 0<(Xu (Yz G)).getD i 0:=by
 have b:=Au G c.fits i t h;have j:t<G.nons.length:=by rw[Wh] at b;exact b
 have d:i<(Yz G).length:=by rw[Wh];exact hi
 have h1:Yw (Yz G) i t=true:=Ha d h;have a:=c.none t j;have k:(Xu (Yz G)).getD t 0<=(Xu (Yz G)).getD i 0:=Zyd λq g=>Lh d b h g;have l:(Xu (Yz G)).getD t 0≠(Xu (Yz G)).getD i 0:=λf=>by
  unfold Yw at h1 a;rw[f,h1] at a;cases a
 omega
theorem mu_lt(G:Gr)(n:Nat)(s:Int)(a:n*4294967296+4294967296<=f):mu G n s<f:=by
 have:=Gc G (Zp s);unfold mu;omega
theorem PreO.step{S:List Nat}{a:List Nat × Nat}(h:PreO S use n a):PreO S use n (Zza S use n a):=by
 cases b:Qx (U2 S use a.2) n with
 | none=>rw[Ln b];exact h
 | some j =>
   rw[Ly b];obtain⟨d,g⟩:=Cj b;refine⟨by show a.2 ||| Y6 (j:Int)=_;rw[Zzd,h.1],λp i hi=>?_⟩;simp only[] at hi ⊢;rcases Nat.lt_trichotomy p a.1.length with f | c | k
   ·rw[DI f] at hi;rw[Es AA];exact h.2 p i hi
   ·subst c;rw[BW (AJ _),Nat.sub_self] at hi;have e:j=i:=by simpa using hi
    subst e;refine⟨d,?_⟩;rw[Es (AJ _),List.take_length,<-h.1];exact g
   rw[BE AG] at hi;cases hi
theorem Zy3(S:List Nat)(use n:Nat):∀k,PreO S use n (Y4 S use n k)
 | 0=>⟨rfl,λp i h=>by simp[Y4,Z3] at h⟩
 | k+1=>by rw[Nf];exact (Zy3 S use n k).step
theorem Zvg{G:Gr}(b:Xq G){r:Rul}(d:r∈G.rules){q:Int}(l:r.right[a]? = some q)(o:q<0){m k:Nat}(z:m<=n)(j:m=n->∀(p:Nat) s,p<a->r.right[p]? = some s->Xg (Zj G) s=true)(x:k+Uy (Zj G) (r.right.drop (a+1))<=m)(t:Zp s=r.left.toNat):mu G k q<mu G n s:=by
 have h1:=Gc G (Zp q);have y:=b.fits.left r d;unfold mu;rcases BC k n with h | h
 ·omega
 obtain rfl:k=n:=AA
 obtain rfl:m=k:=AA
 have v:Uy (Zj G) (r.right.drop (a+1))=0:=AA
 have u:=D2 b d l o λp g A f=>by
  rcases BC p a with c | c
  ·exact j rfl p g c f
  refine low_zero v g (AM (i:=p-(a+1)) ?_);rw[DY,show a+1+(p-(a+1))=p by omega];exact f
 have:=Zv8 b (i:=r.left.toNat) AA u;rw[t];omega
theorem Red2.name{f:World}{d:Nat}{C:Value}{G:Gr}{w:World}{s:Nat}{v a:List Nat}(r:Red2 f g d n C G w o q p s v a)(L:d<f.heap.size)(J:g<f.heap.size)(z:d≠g){l:Nat}(H:l∉a)(j:Option Addr)(m:Nat)(B:w1.ownsRow f 9 1 (.slice j (a.length+1) m) (a.length+1) ((a.map λi=>Value.string (Ws G i))++[.string (Ws G l)]))(F:(w.setCell ⟨d,l,none⟩ (.int .i64 (a.length:Int))).grownBy w1 (Value.slice p a.length s).ownBlock):
 Red2 f g d n C G (w1.setCell ⟨g,1,none⟩ (.slice j (a.length+1) m)) o q j m v (a++[l]):=by
 have t:=Off.of_grown F;have y:=Off.of_set w d l (.int .i64 (a.length:Int));have u:=Off.of_set w1 g 1 (.slice j (a.length+1) m);have x:∀b,(Value.slice p a.length s).ownBlock=some b->f.heap.size<=b:=λb c=>(r.nons.lt b c).1;have A:∀b,(Value.slice o v.length q).ownBlock=some b->f.heap.size<=b:=λb c=>(r.kept.lt b c).1;have E:∀b,(Value.slice o v.length q).ownBlock=some b->(Value.slice p a.length s).ownBlock=some b->False:=λb h1 D=>Fe r.kept r.nons AC h1 D;have I:Blk (w.setCell ⟨d,l,none⟩ (.int .i64 (a.length:Int))) d 3 (ints .i64 (toL n (a++[l]))).toArray:=by
  have:=Blk.set r.tos l (.int .i64 (a.length:Int));have e:(ints .i64 (toL n a)).toArray.setIfInBounds l (.int .i64 (a.length:Int))=(ints .i64 (toL n (a++[l]))).toArray:=by
   rw[<-toL_set H];simp[ints,List.map_set]
  rw[e] at this;exact this
 refine⟨((r.off.trans y λk _ h => .inl h).trans t λk M h=>?_).trans u λk _ h => .inr h,u.blk (t.blk I λh=>?_) z,?_,?_,?_⟩
 ·have:=x k h;omega
 ·have:=x d h;omega
 ·have h1:=t.blk (y.blk r.out λh=>z h.symm) λh=>by have:=x g h;omega
  have:=Blk.set h1 1 (.slice j (a.length+1) m);rw[AU,CU];exact this
 ·exact u.row (t.row (y.row r.kept λb c h=>by have:=A b c;omega) λb c h=>E b c h) λb c h=>by have:=A b c;omega
 rw[AU,CU,DF];refine u.row B λb c h=>?_;have:=(B.lt b c).1;omega
theorem Zxu(A:Option Addr)(n c:Nat)(l:List Int)(w:World)(h:Za .i64 w A n c l)(z:n<=100000):
 Calls prog 70 #[.slice A n c] w λe w'=>∃g,e = .returned g/\w'.ownsRow w 3 1 g n (ints .i64 l)/\Below w w w':=by
 obtain rfl:=h.len;rcases A with _ | a
 ·have d:l=[]:=by
   rcases l with _ | ⟨x,l⟩
   ·rfl
   obtain⟨k,p,s,b,_⟩:=h.get (j:=0) AE;cases b
  subst d;refine (Tryz.slices_Clone_int_nil 0 c w).mono ?_;rintro e w'⟨rfl,rfl⟩;exact⟨_,rfl,BJ _ _ _ _,AL _ _⟩
 by_cases d:l=[]
 ·subst d;refine (Tryz.slices_Clone_int_zero a c w).mono ?_;rintro e w'⟨g,rfl,f,_,m⟩;exact⟨_,rfl,f,m⟩
 have u:0<l.length:=List.length_pos_iff.2 d;obtain⟨k,p,s,b,_⟩:=h.get u;injection b with b;subst b;have r:∀j,j<l.length->w.cell? ⟨k,p+j,none⟩=some (.int .i64 (l.getD j 0)):=λj t=>by
  obtain⟨y,B,C,o,_,q,v⟩:=h.get t;injection o with o;injection o with e1 e2 e3;subst e1;subst e2;rw[AP,q];exact v
 refine (Tryz.slices_Clone_int k p l.length c l w (AJ _) AA r).mono ?_;rintro e w'⟨g,rfl,f,_,m⟩;rw[AR (AJ _)] at f;exact⟨_,rfl,f,m⟩
theorem Vb{w a:World}(f:Blk a g 46 #[.slice none 0 0,.bool false])(d:Below w w a)(l:w.heap.size<=g)(A:Option Addr)(n c:Nat)(b:Bool):
 Below w w ((a.setCell ⟨g,0,none⟩ (.slice A n c)).setCell ⟨g,1,none⟩ (.bool b)) /\
 Blk ((a.setCell ⟨g,0,none⟩ (.slice A n c)).setCell ⟨g,1,none⟩ (.bool b)) g 46 #[.slice A n c,.bool b]/\Zf a ((a.setCell ⟨g,0,none⟩ (.slice A n c)).setCell ⟨g,1,none⟩ (.bool b)):=by
 refine⟨(d.trans (Zn (Zd _ _ _ _) d.size l)).trans (Zn (Zd _ _ _ _) (by simpa using d.size) l),(f.set 0 _).set 1 _,?_⟩;refine Zf.of_off ((Off.of_set a g 0 (.slice A n c)).trans (Off.of_set _ g 1 (.bool b)) λ_ _ h=>h) λq m=>?_;rw[m];intro o k z j;rw[f.cell o] at j;rcases o with _ | _ | o <;> cases j
def Z0(T:Int->Nat->Nat)(b:List Rul)(a i n:Nat):Nat:=Yc T (b.take i) a n
inductive UnL (G:Gr):List Int->Nat->Nat->List Nat->Prop
 | nil:UnL G [] 0 0 []
 | term {s:Int} {l:List Int} {n r:Nat} {t:List Nat}:0<=s->UnL G l n r t->UnL G (s::l) (n+1) r t
 | non {s:Int} {l:List Int} {n k i q r:Nat} {x:Rul} {t1 t2:List Nat}:s<0->G.rules[i]? = some x->x.left.toNat=Zp s->UnL G x.right k q t1->UnL G l n r t2->
    UnL G (s::l) (k+n) (Yv (Zv G) s l (k+n) k+(Z0 (Zv G) G.rules (Zp s) i k+q)*Zx (Zv G) l n+r) (i::(t1++t2))
theorem Cq{a:List Rul}{k:Nat}{r:Rul}(b:a[k]? = some r)(i n:Nat):Yc T (a.take (k+1)) i n=Yc T (a.take k) i n+(if r.left.toNat=i then Zx T r.right n else 0):=by
 rw[CX,b];exact Gg T _ r i n
theorem Qb(T:Int->Nat->Nat)(b:List Rul)(a n:Nat):Z0 T b a 0 n=0:=rfl
theorem Y3(T:Int->Nat->Nat){b:List Rul}(h:b[i]? = some x)(a n:Nat):Z0 T b a (i+1) n=Z0 T b a i n+(if x.left.toNat=a then Zx T x.right n else 0):=by
 unfold Z0;rw[CX,h];exact Gg T _ x a n
theorem Qj(T:Int->Nat->Nat){b:List Rul}(h:b.length<=i)(a n:Nat):Z0 T b a i n=Yc T b a n:=by
 unfold Z0;rw[AR h]
theorem Vf(T:Int->Nat->Nat)(b:List Rul)(a n:Nat)(h:i<=f):Z0 T b a i n<=Z0 T b a f n:=by
 obtain⟨d,rfl⟩:=Nat.exists_eq_add_of_le h
 induction d with
 | zero=>exact AJ _
 | succ d j =>
   refine BD (j (CZ _ _)) ?_;cases c:b[i+d]? with
   | none =>
     have g:b.length<=i+d:=List.getElem?_eq_none_iff.1 c;rw[<-Ea,Qj T g,Qj T AA];exact AJ _
   | some x=>rw[<-Ea,Y3 T c];exact CZ _ _
theorem Kj(T:Int->Nat->Nat)(b:List Rul)(a n i:Nat):Z0 T b a i n<=Yc T b a n:=by
 have h:=Vf T b a n (Nat.le_max_left i b.length);rwa [Qj T (Nat.le_max_right i b.length)] at h
def UnT(G:Gr)(a n r:Nat)(t:List Nat):Prop:=∃i x q b,G.rules[i]? = some x/\x.left.toNat=a/\UnL G x.right n q b/\r=Z0 (Zv G) G.rules a i n+q/\t=i::b
theorem Zso{c:List Rul}{b v:Nat}{g:Rul}(o:c[i]? = some x)(p:c[b]? = some g)(l:x.left.toNat=a)(m:g.left.toNat=a)(h1:v<Zx T x.right n)(q:f<Zx T g.right n)(h:Z0 T c a i n+v=Z0 T c a b n+f):i=b/\v=f:=by
 have j:=Y3 T o a n;have k:=Y3 T p a n;rw[if_pos l] at j;rw[if_pos m] at k;rcases Nat.lt_trichotomy i b with d | rfl | d
 ·have:=Vf T c a n (show i+1<=b from d);omega
 ·exact⟨rfl,AA⟩
 have:=Vf T c a n (show b+1<=i from d);omega
theorem UnL.parse{G:Gr}(h:UnL G l n r t):∀{b c:Nat} {d z z':List Nat},UnL G l b c d->t++z=d++z'->n=b/\r=c/\t=d/\z=z':=by
 induction h with
 | nil=>intro b c d z z' f a;cases f;exact⟨rfl,rfl,rfl,a⟩
 | @term s l n r t h0 _ p =>
   intro b c d z z' f a;cases f with
   | term _ m =>
     obtain⟨rfl,rfl,rfl,rfl⟩:=p m a;exact⟨rfl,rfl,rfl,rfl⟩
   | non h1=>exact absurd h1 AA
 | @non s l n k i q r x H J h0 o B u1 u2 u v =>
   intro b c d z z' f a;cases f with
   | term h1=>exact absurd h1 AA
   | @non _ _ b E D F c M I L _ g C y A =>
     rw[DT,DT] at a;injection a with e1 e2;subst e1;rw[o] at g;obtain rfl:=BI g;rw[DO,DO] at e2;obtain⟨rfl,rfl,rfl,j⟩:=u y e2;obtain⟨rfl,rfl,rfl,rfl⟩:=v A j;exact⟨rfl,rfl,rfl,rfl⟩
theorem UnT.parse{G:Gr}{b z z':List Nat}(h:UnT G a n r t)(j:UnT G a f g b)(c:t++z=b++z'):n=f/\r=g/\t=b/\z=z':=by
 obtain⟨i,x,q,v,m,o,k,rfl,rfl⟩:=h;obtain⟨s,A,u,y,d,p,l,rfl,rfl⟩:=j;rw[DT,DT] at c;injection c with e1 e2;subst e1;rw[m] at d;obtain rfl:=BI d;obtain⟨rfl,rfl,rfl,rfl⟩:=k.parse l e2;exact⟨rfl,rfl,rfl,rfl⟩
theorem UnL.non'{G:Gr}{k:Nat}{b c:List Nat}(h0:s<0)(h1:UnT G (Zp s) k a b)(d:UnL G l n r c):UnL G (s::l) (k+n) (Yv (Zv G) s l (k+n) k+a*Zx (Zv G) l n+r) (b++c):=by
 obtain⟨i,x,q,j,g,h,f,rfl,rfl⟩:=h1;exact .non h0 g h f d
theorem Zv0{b:List Rul}:∀{m:Nat},r<Z0 T b a m n->∃i x v,i<m/\b[i]? = some x/\x.left.toNat=a/\r=Z0 T b a i n+v/\v<Zx T x.right n
 | 0,h=>absurd h (Nat.not_lt_zero _)
 | m+1,h=>by
   by_cases d:r<Z0 T b a m n
   ·obtain⟨i,x,v,hi,h1,g,j,k⟩:=Zv0 d;exact⟨i,x,v,AA,h1,g,j,k⟩
   cases f:b[m]? with
   | none =>
     have c:b.length<=m:=List.getElem?_eq_none_iff.1 f;rw[Qj T AA] at h;rw[Qj T c] at d;exact absurd h d
   | some x =>
     rw[Y3 T f] at h;split at h
     ·rename_i c;exact⟨m,x,r-Z0 T b a m n,AA,f,c,AA,AA⟩
     omega
theorem UnL.inside{G:Gr}(h:UnL G l n r t):∀i∈t,i<G.rules.length:=by
 induction h with
 | nil=>intro i hi;cases hi
 | term _ _ c=>exact c
 | @non s l n k i q r x m o h0 b g u1 u2 d f =>
   intro j a;rcases BV.1 a with rfl | a
   ·exact (AO.1 b).1
   rcases DE.1 a with a | a
   ·exact d j a
   exact f j a
theorem UnT.inside{G:Gr}(h:UnT G a n r t):t≠[]/\∀i∈t,i<G.rules.length:=by
 obtain⟨i,x,q,f,d,_,c,_,rfl⟩:=h;refine⟨AE,λj b=>?_⟩;rcases BV.1 b with rfl | b
 ·exact (AO.1 d).1
 exact c.inside j b
theorem ahead22(h0:T (-1) 0=0)(h1:T (-1) 1=1)(a:T (-1) 2=1)(b:T 0=K0):
 Z0 T Xt.rules 0 1 1=0/\Yv T (-1) [] 1 1=0/\Yv T (-1) [-1] 2 1=0/\Yv T (-1) [] 2 2=0/\Yv T (-1) [-1] 3 1=0/\Yv T (-1) [-1] 3 2=1:=by
 refine⟨?_,?_,?_,?_,?_,?_⟩;all_goals simp[Z0,Yv,Yc,Xt,Zx,Vi,List.range,List.range.loop,h0,h1,a,b]
theorem UnL.cat{G:Gr}{k m v:Nat}{a b:List Nat}(h0:s<0)(h1:UnT G (Zp s) k 0 a)(c:UnL G l n 0 b)(d:k+n=m)(f:Yv (Zv G) s l m k=v):UnL G (s::l) m v (a++b):=by
 subst d;have:=UnL.non' h0 h1 c;rw[f,Nat.zero_mul] at this;exact this
theorem UnT.top{G:Gr}(c:G.rules[0]? = some x)(b:x.left.toNat=a)(h:UnL G x.right n q t):UnT G a n q (0::t):=⟨0,x,q,t,c,b,h,by rw[Qb,BH],rfl⟩
section
open Go.RowKit Go.Shelf
attribute [local go_sem] Oper.semAt_some
open Go.RowKit Go.Shelf Go.Sort
theorem rf_has(h:GH)(G:Gr)(s:Int)(w:World)(a:Yf w h G)(k:U3 s)(g:h.n1<=1000)(j:h.n2<=1000):
 Calls prog 51 #[GV h G.start,.int .i64 s] w λe w'=>e = .returned (.bool (G.has s))/\Below w w w':=by
 obtain⟨a1,n1,c1,a2,n2,c2,a3,n3,c3⟩:=h;have b:G.terms.length=n1:=a.terms.len;have c:G.nons.length=n2:=a.nons.len;have f:G.has s=if 0<=s then decide (s<(n1:Int)) else decide (-1-s<(n2:Int)):=by unfold Gr.has;rw[b,c]
 rw[f];obtain⟨l,m⟩:=k;simp only[] at g j;clear f b c a;by_cases d:0<=s
 ·rw[if_pos d];go_enter func51,ntmps51;go_wp2_with fail;go_ret;exact⟨AE,Zy _ _⟩
 rw[if_neg d];go_enter func51,ntmps51;go_wp2_with fail;go_ret;exact⟨AE,Zy _ _⟩
theorem C6(h:GH)(G:Gr)(s:ByteArray)(w:World)(l:Yf w h G)(o:h.n1<=1000):
 Calls prog 117 #[GV h G.start,.string s] w λe w'=>e = .returned (.int .i64 (G.term s))/\Below w w w':=by
 obtain⟨a1,n1,c1,a2,n2,c2,a3,n3,c3⟩:=h;have f:N8 w a1 n1 c1 G.terms:=l.terms;have u:=f.cap;simp only[] at o;clear l;unfold Gr.term;go_enter func117,ntmps117;go_wp2_with fail;go_loop [5] (λi=>∃k:Nat,k<=n1/\i = .int .i64 (k:Int)/\Hid (∀j,j<k->∀y,G.terms[j]? = some y->decide (y.name=s)=false)) (λi=>n1-(intOf i).toNat)
 case atStart=>exact⟨0,AV _,rfl,LH λj v=>AA⟩
 obtain⟨k,x,rfl,d⟩:=hrel;by_cases p:k<n1
 ·obtain⟨b,A,t,rfl,r,g,B,C,D⟩:=f.get p;by_cases a:t.name=s
  ·have c:Hid (Y8 (λt=>decide (t.name=s)) G.terms=(k:Int)):=Q4 g (by simp[a]) d;have q:(t.name.toList==s.toList)=true:=by rw[Ql];simp[a]
   clear a;go_wp2_with fail;go_ret;exact⟨by rw[c];rfl,Zy _ _⟩
  have q:(t.name.toList==s.toList)=false:=by rw[Ql];simp[a]
  have n:=LH a;clear a;go_wp2_with fail;go_round
  case rel=>exact⟨k+1,AA,AF,LH (Vz d g (by simp[n.out]))⟩
  simp[intOf];omega
 obtain rfl:k=n1:=AA
 have z:=f.len;have c:Hid (Y8 (λt=>decide (t.name=s)) G.terms=-1):=LH (Jq λj y m=>d j (by have:=(AO.1 m).1;omega) y m);go_wp2_with fail;go_ret;exact⟨by rw[c];rfl,Zy _ _⟩
theorem Zu5(h:GH)(G:Gr)(s:ByteArray)(w:World)(l:Yf w h G)(o:h.n2<=1000):
 Calls prog 120 #[GV h G.start,.string s] w λe w'=>e = .returned (.int .i64 (G.non s))/\Below w w w':=by
 obtain⟨a1,n1,c1,a2,n2,c2,a3,n3,c3⟩:=h;have f:Js w a2 n2 c2 G.nons:=l.nons;have u:=f.cap;simp only[] at o;clear l;unfold Gr.non;go_enter func120,ntmps120;go_wp2_with fail;go_loop [5] (λi=>∃k:Nat,k<=n2/\i = .int .i64 (k:Int)/\Hid (∀j,j<k->∀y,G.nons[j]? = some y->decide (y=s)=false)) (λi=>n2-(intOf i).toNat)
 case atStart=>exact⟨0,AV _,rfl,LH λj v=>AA⟩
 obtain⟨k,x,rfl,d⟩:=hrel;by_cases p:k<n2
 ·obtain⟨b,A,t,rfl,r,g,B⟩:=f.get p;by_cases a:t=s
  ·have c:Hid (Y8 (λt=>decide (t=s)) G.nons=(k:Int)):=Q4 g (by simp[a]) d;have q:(t.toList==s.toList)=true:=by rw[Ql];simp[a]
   clear a;go_wp2_with fail;go_ret;exact⟨by rw[c];rfl,Zy _ _⟩
  have q:(t.toList==s.toList)=false:=by rw[Ql];simp[a]
  have n:=LH a;clear a;go_wp2_with fail;go_round
  case rel=>exact⟨k+1,AA,AF,LH (Vz d g (by simp[n.out]))⟩
  simp[intOf];omega
 obtain rfl:k=n2:=AA
 have z:=f.len;have c:Hid (Y8 (λt=>decide (t=s)) G.nons=-1):=LH (Jq λj y m=>d j (by have:=(AO.1 m).1;omega) y m);go_wp2_with fail;go_ret;exact⟨by rw[c];rfl,Zy _ _⟩
theorem rf_level(h:GH)(G:Gr)(n:Int)(w:World)(A:Yf w h G)(H:h.n1<=1000):
 Calls prog 118 #[GV h G.start,.int .i64 n] w λe w'=>e = .returned (.bool (J9 G.terms n))/\Below w.heap.size w w':=by
 obtain⟨a1,n1,c1,a2,n2,c2,a3,n3,c3⟩:=h;have s:N8 w a1 n1 c1 G.terms:=A.terms;have S:=s.cap;have U:G.terms.length=n1:=s.len;simp only[] at H;clear A;go_enter func118,ntmps118;go_wp2_with fail;go_loopw [5,6,7] (λP i t wr=>∃(k:Nat) (a:Int),k<=n1/\i = .int .i64 (k:Int)/\P = .int .i64 a/\Below w.heap.size w wr/\wr.cell? ⟨w.heap.size,0,none⟩=some (.slice a1 n1 c1)/\w.heap.size<wr.heap.size/\Hid (J9 G.terms n=Qs n (G.terms.drop k) a)) (λ_ i _ _=>n1-(intOf i).toNat)
 case atStart=>exact⟨0,0,AV _,rfl,rfl,Zy _ _,AE,AE,LH rfl⟩
 obtain⟨k,a,T,rfl,rfl,r,R,B,f⟩:=hrel;by_cases J:k<n1
 ·obtain⟨b,L,t,rfl,I,E,M,N,O⟩:=s.get J;rw[<-r.cell (by exact I)] at M N O;have hd:G.terms.drop k=t::G.terms.drop (k+1):=Q8 E.out;have z:∀o,Below w.heap.size w (wr.alloc o):=λo=>r.alloc (DN B) o;have C:∀o,(wr.alloc o).cell? ⟨w.heap.size,0,none⟩=some (.slice (some ⟨b,L,none⟩) n1 c1):=λo=>by rw[(Zy wr o).cell (p:=⟨w.heap.size,0,none⟩) B];exact R
  have l:=LH (⟨z,C⟩:_/\_);clear z C;by_cases g:t.level=n
  ·by_cases j:a≠0/\a≠t.assoc
   ·have m:Hid (J9 G.terms n=false):=LH (by rw[f.out,hd,Qs,if_pos g,if_pos j]);have v:(t.level != n)=false:=by rw[BQ];exact g
    have x:(a != 0)=true:=by rw[BM];exact j.1
    have F:(a != t.assoc)=true:=by rw[BM];exact j.2
    clear g j hd f;go_wp2_with fail;go_ret;exact⟨by rw[m.out];rfl,l.out.1 _⟩
   have q:Hid (J9 G.terms n=Qs n (G.terms.drop (k+1)) t.assoc):=LH (by rw[f.out,hd,Qs,if_pos g,if_neg j]);have v:(t.level != n)=false:=by rw[BQ];exact g
   have u:(a != 0)=false\/((a != 0)=true/\(a != t.assoc)=false):=by
    rw[BQ,BQ,BM];by_cases c:a=0
    ·exact .inl c
    exact .inr ⟨c,by by_cases y:a=t.assoc;exact y;exact absurd ⟨c,y⟩ j⟩
   clear g j hd f;rcases u with x | ⟨x,F⟩;all_goals
    go_wp2_with fail;go_roundw
    case rel=>exact⟨k+1,t.assoc,AA,AF,rfl,l.out.1 _,l.out.2 _,AG,q⟩
    simp[intOf];omega
  have q:Hid (J9 G.terms n=Qs n (G.terms.drop (k+1)) a):=LH (by rw[f.out,hd,Qs,if_neg g]);have v:(t.level != n)=true:=by rw[BM];exact g
  clear g hd f;go_wp2_with fail;go_roundw
  case rel=>exact⟨k+1,a,AA,AF,rfl,l.out.1 _,l.out.2 _,AG,q⟩
  simp[intOf];omega
 obtain rfl:k=n1:=AA
 have m:Hid (J9 G.terms n=decide (a≠0)):=LH (by rw[f.out,List.drop_of_length_le AA];rfl);have u:((a != 0)=true/\a≠0)\/((a != 0)=false/\a=0):=by
  rw[BQ,BM];by_cases c:a=0
  ·exact .inr ⟨c,c⟩
  exact .inl ⟨c,c⟩
 rcases u with ⟨d,c⟩ | ⟨d,c⟩;all_goals
  have D:=LH c;clear c;go_wp2_with fail;go_ret;exact⟨by rw[m.out];simp[D.out],r⟩
theorem rf_terms(h:GH)(G:Gr)(w:World)(R:Yf w h G):
 Calls prog 64 #[GV h G.start] w λe w'=>e = .returned (.bool G.termsOK)/\Below w w w':=by
 obtain⟨a1,n1,c1,a2,n2,c2,a3,n3,c3⟩:=h;have ht:N8 w a1 n1 c1 G.terms:=R.terms;have hl:G.terms.length=n1:=ht.len;have bw:=ht.cap;have V:Hid (G.termsOK=(decide (n1<=24)&&Cg G.termOK G.terms)):=LH (by unfold Gr.termsOK;rw[hl]);by_cases h1:n1<=24
 case neg =>
  have X:Hid (G.termsOK=false):=LH (by rw[V.out];simp;omega);have d1:decide ((24:Int)<(n1:Int))=true:=AG
  clear R h1;go_enter func64,ntmps64;go_wp2_with fail;go_ret;exact⟨by rw[X.out];rfl,Zy _ _⟩
 have W:Hid (G.termsOK=Cg G.termOK G.terms):=LH (by rw[V.out];simp;omega);have d1:decide ((24:Int)<(n1:Int))=false:=AG
 have Hg:=LH R;clear V R;go_enter func64,ntmps64;have ay:=Y1.new w 26 ⟨a1,n1,c1,a2,n2,c2,a3,n3,c3⟩ G.start;go_wp2_with fail;go_loopw [3,4,5] (λi t n wr=>∃(k:Nat),k<=n1/\i = .int .i64 (k:Int)/\Below w w wr/\Y1 wr w ⟨a1,n1,c1,a2,n2,c2,a3,n3,c3⟩ G.start/\Hid (∀j,j<k->∀y,G.terms[j]? = some y->(!G.termOK j y)=false)) (λi _ _ _=>n1-(intOf i).toNat)
 case atStart=>exact⟨0,AV _,rfl,Zy _ _,ay,LH λj S=>AA⟩
 clear ay;obtain⟨v,rfl⟩:∃v:World,v=wr:=⟨_,rfl⟩;obtain⟨k,hk,rfl,hB,ad,Hk⟩:=hrel;have⟨z5,z0,z1,z2,z3⟩:=ad;simp only[] at z0 z1 z2 z3;by_cases az:k<n1
 ·obtain⟨b,T,t,rfl,hb,Y,q0,q1,q2⟩:=ht.get az;rw[<-hB.cell (by exact hb)] at q0 q1 q2;have J:=hB.alloc (DN z5) (.cells #[.string t.name,.int .i64 t.level,.int .i64 t.assoc] 91);have ai:=ad.below (Zy v (.cells #[.string t.name,.int .i64 t.level,.int .i64 t.assoc] 91));have p0:=Wg v 91 #[.string t.name,.int .i64 t.level,.int .i64 t.assoc] 0;have p1:=Wg v 91 #[.string t.name,.int .i64 t.level,.int .i64 t.assoc] 1;have p2:=Wg v 91 #[.string t.name,.int .i64 t.level,.int .i64 t.assoc] 2;have p5:=Zl v (.cells #[.string t.name,.int .i64 t.level,.int .i64 t.assoc] 91);simp only[DS,List.getElem?_cons_zero,List.getElem?_cons_succ] at p0 p1 p2;go_wp2_with fail;generalize v.alloc (.cells #[.string t.name,.int .i64 t.level,.int .i64 t.assoc] 91)=q at *;have af:=Hg.out.below J;have a0:v.heap.size<q.heap.size:=AA
  clear p5 q0 q1 q2 z0 z1 z2 z3 ad;generalize v.heap.size=gt at *;have⟨z5',z0,z1,z2,z3⟩:=ai;simp only[] at z0 z1 z2 z3;have cN:=Zxg t.name q;have N:=λhh=>C6 ⟨some ⟨b,T,none⟩,n1,c1,a2,n2,c2,a3,n3,c3⟩ G t.name q af hh;have N:=N (by simp only[];omega);have ae:G.termOK k t=(decide (G.term t.name=(k:Int))&&Up t&&Nc G.terms t):=rfl;unfold Up at ae;have an:=LH ae;clear ae;generalize Q7 t.name=s at *;generalize G.term t.name=u at *;have C:=LH cN;have CT:=LH N;clear cN N;have br:(s=false\/(s=true/\u≠k)\/(s=true/\u=k/\t.level<0)\/(s=true/\u=k/\0<=t.level/\24<t.level)\/(s=true/\u=k/\0<=t.level/\t.level<=24/\t.assoc<0)\/(s=true/\u=k/\0<=t.level/\t.level<=24/\0<=t.assoc/\3<t.assoc) \/
   (s=true/\u=k/\0<=t.level/\t.level<=24/\0<=t.assoc/\t.assoc<=3/\t.level=0/\t.assoc≠0)\/(s=true/\u=k/\0<=t.level/\t.level<=24/\0<=t.assoc/\t.assoc<=3/\t.level≠0/\t.assoc=0)) \/
   (s=true/\u=k/\0<=t.level/\t.level<=24/\0<=t.assoc/\t.assoc<=3/\(t.level=0/\t.assoc=0\/t.level≠0/\t.assoc≠0)):=by
   cases s
   ·simp
   simp only[Bool.true_eq_false,false_or,true_and];omega
  rcases br with ax | bq
  ·have A:Hid (G.termsOK=false):=LH (by
    rw[W.out];refine Lp Y.out ?_;rw[an.out];rcases ax with rfl | ⟨rfl,g⟩ | ⟨rfl,g,c⟩ | ⟨rfl,g,c,r⟩ | ⟨rfl,g,c,r,x⟩ | ⟨rfl,g,c,r,x,B⟩ | ⟨rfl,g,c,r,x,B,a,f⟩ | ⟨rfl,g,c,r,x,B,a,f⟩
    ·simp
    ·simp[g]
    ·simp;omega
    ·simp;omega
    ·simp;omega
    ·simp;omega
    ·simp[a,f]
    simp[a,f])
   have E:=LH J;clear J;have D:Hid (Calls prog 117 #[GV ⟨some ⟨b,T,none⟩,n1,c1,a2,n2,c2,a3,n3,c3⟩ G.start,.string t.name] q λe w'=>e = .returned (.int .i64 u)/\(∀b o,b<q.heap.size->w'.cell? ⟨b,o,none⟩=q.cell? ⟨b,o,none⟩)/\Hid (Below w w w')):=CT.out.mono λe w' h=>⟨h.1,(Jd h.2).1,LH (E.out.trans (h.2.mono E.out.size))⟩;clear CT hk az;rcases ax with rfl | ⟨rfl,g⟩ | ⟨rfl,rfl,c⟩ | ⟨rfl,rfl,c,r⟩ | ⟨rfl,rfl,c,r,x⟩ | ⟨rfl,rfl,c,r,x,B⟩ | ⟨rfl,rfl,c,r,x,B,a,f⟩ | ⟨rfl,rfl,c,r,x,B,a,f⟩
   ·go_wp2_with (go_at_call 116;(with_reducible refine C.out.mono ?_);rintro e M⟨rfl,rfl⟩);go_ret;exact⟨by rw[A.out];rfl,E.out⟩
   ·have d:(u != (k:Int))=true:=by rw[BM];exact g
    clear g;go_wp2_with (first
     | (go_at_call 116;(with_reducible refine C.out.mono ?_);rintro e M⟨rfl,rfl⟩)
     | (go_at_call 117;(with_reducible refine D.out.mono ?_);rintro e z⟨rfl,H,p⟩))
    go_ret;exact⟨by rw[A.out];rfl,p.out⟩
   iterate 4
    ·go_wp2_with (first
     | (go_at_call 116;(with_reducible refine C.out.mono ?_);rintro e M⟨rfl,rfl⟩)
     | (go_at_call 117;(with_reducible refine D.out.mono ?_);rintro e z⟨rfl,H,p⟩))
     go_ret;exact⟨by rw[A.out];rfl,p.out⟩
   ·have Z:(t.level==0)=true:=by rw[BO];exact a
    have e2:(t.assoc==0)=false:=by rw[AQ];exact f
    clear a f;go_wp2_with (first
     | (go_at_call 116;(with_reducible refine C.out.mono ?_);rintro e M⟨rfl,rfl⟩)
     | (go_at_call 117;(with_reducible refine D.out.mono ?_);rintro e z⟨rfl,H,p⟩))
    go_ret;exact⟨by rw[A.out];rfl,p.out⟩
   have Z:(t.level==0)=false:=by rw[AQ];exact a
   have e2:(t.assoc==0)=true:=by rw[BO];exact f
   clear a f;go_wp2_with (first
    | (go_at_call 116;(with_reducible refine C.out.mono ?_);rintro e M⟨rfl,rfl⟩)
    | (go_at_call 117;(with_reducible refine D.out.mono ?_);rintro e z⟨rfl,H,p⟩))
   go_ret;exact⟨by rw[A.out];rfl,p.out⟩
  obtain⟨rfl,rfl,c,r,x,B,a⟩:=bq;have E:=LH J;have bv:=LH af;have bd:=LH ai;have D:Hid (Calls prog 117 #[GV ⟨some ⟨b,T,none⟩,n1,c1,a2,n2,c2,a3,n3,c3⟩ G.start,.string t.name] q λe w'=>e = .returned (.int .i64 (k:Int))/\(∀b o,b<q.heap.size->w'.cell? ⟨b,o,none⟩=q.cell? ⟨b,o,none⟩)/\Hid (Below q q w')):=CT.out.mono λe w' h=>⟨h.1,(Jd h.2).1,LH h.2⟩;have ar:Hid (G.termOK k t=Nc G.terms t):=LH (by
   rw[an.out];rcases a with ⟨a,f⟩ | ⟨a,f⟩
   ·simp[a,f]
   have h9:0<=t.level/\t.level<=24/\0<=t.assoc/\t.assoc<=3:=⟨c,r,x,B⟩;simp[a,f,h9])
  have bk:((t.level==0)=true/\(t.assoc==0)=true)\/((t.level==0)=false/\(t.assoc==0)=false):=by
   rw[BO,BO,AQ,AQ];exact a
  clear CT J af ai a;rcases bk with ⟨Z,e2⟩ | ⟨Z,e2⟩;all_goals
   go_wp2_with (first
    | (go_at_call 116;(with_reducible refine C.out.mono ?_);rintro e M⟨rfl,rfl⟩)
    | (go_at_call 117;(with_reducible refine D.out.mono ?_);rintro e z⟨rfl,H,p⟩))
   have aw:=E.out.trans (p.out.mono E.out.size);have a4:=bd.out.below p.out;have r1:z.cell? ⟨gt,1,none⟩=some (.int .i64 t.level):=by rw[H _ _ a0];exact p1
   have bo:gt<z.heap.size:=AK a0 p.out.size;have be:=LH a4;clear H p p0 p1 p2 z0 z1 z2 z3 a4;go_loopw [5] (λn wr=>∃m:Nat,(m:Int)<=t.level/\n = .int .i64 ((m:Int)+1)/\Below z z wr/\Hid (∀j:Nat,j<m->J9 G.terms ((j:Int)+1)=true)) (λn _=>t.level.toNat+1-(intOf n).toNat)
   case atStart=>exact⟨0,c,rfl,AL _ _,LH λj S=>AA⟩
   obtain⟨m,hm,rfl,L,Hm⟩:=hrel;rw[<-L.cell (by exact bo)] at r1;have aj:=be.out.below L;have⟨z5',z0,z1,z2,z3⟩:=aj;simp only[] at z0 z1 z2 z3;have O:=aw.trans (L.mono aw.size);have ag:=Hg.out.below O;have am:=LH O;have bf:=LH aj;have bp:w.heap.size<=wr.heap.size:=O.size;have al:=LH L;clear O aj L;by_cases bz:(m:Int)+1<=t.level
   ·have F:=rf_level ⟨some ⟨b,T,none⟩,n1,c1,a2,n2,c2,a3,n3,c3⟩ G ((m:Int)+1) wr ag (by simp only[];omega);cases I:J9 G.terms ((m:Int)+1)
    ·have A:Hid (G.termsOK=false):=LH (by
      rw[W.out];refine Lp Y.out ?_;rw[ar.out];exact Jy (l:=List.range t.level.toNat) (j:=m) (y:=m) (by rw[List.getElem?_range];omega) I)
     rw[I] at F;have U:=LH F;clear F I ag;go_wp2_with (go_at_call 118;(with_reducible refine U.out.mono ?_);rintro e w6⟨rfl,P⟩);go_ret;exact⟨by rw[A.out];rfl,am.out.trans (P.mono bp)⟩
    rw[I] at F;have U:=LH F;have bb:=LH I;clear F I ag;go_wp2_with (go_at_call 118;(with_reducible refine U.out.mono ?_);rintro e w6⟨rfl,P⟩);have ba:=LH (al.out.trans (P.mono al.out.size));clear P;go_roundw
    case rel=>exact⟨m+1,AA,AF,ba.out,LH λj S=>by
     rcases BC j m with h | h
     ·exact Hm.out j h
     obtain rfl:j=m:=AA
     exact bb.out⟩
    simp[intOf];omega
   have bc:Hid ((!G.termOK k t)=false):=LH (by
    rw[ar.out];have:Nc G.terms t=true:=by
     unfold Nc;rw[BG];intro j S;rw[BP] at S;exact Hm.out j AA
    rw[this];rfl)
   go_wp2_with fail;go_roundw
   case rel=>exact⟨k+1,AA,AF,am.out,bf.out,LH (Lr Hk.out Y.out bc.out)⟩
   simp[intOf];omega
 obtain rfl:k=n1:=AA
 have X:Hid (G.termsOK=true):=LH (by
  rw[W.out];refine Kc λj y hy=>?_;have:=Hk.out j (by have:=(AO.1 hy).1;omega) y hy;simpa using this)
 go_wp2_with fail;go_ret;exact⟨by rw[X.out];rfl,hB⟩
end
theorem rf_nons(h:GH)(G:Gr)(w:World)(o:Yf w h G)(U:h.n1<=1000):
 Calls prog 65 #[GV h G.start] w λe w'=>e = .returned (.bool G.nonsOK)/\Below w w w':=by
 obtain⟨a1,n1,c1,a2,n2,c2,a3,n3,c3⟩:=h;have A:Js w a2 n2 c2 G.nons:=o.nons;have W:G.nons.length=n2:=A.len;have af:=A.cap;simp only[] at U;have r:Hid (G.nonsOK=(decide (1<=n2/\n2<=16)&&Cg G.nonOK G.nons)):=LH (by unfold Gr.nonsOK;rw[W]);by_cases n:1<=n2/\n2<=16
 case neg =>
  have u:Hid (G.nonsOK=false):=LH (by rw[r];simp only[n,decide_false,Bool.false_and]);have Y:((n2:Int)<1)\/((1:Int)<=(n2:Int)/\(16:Int)<(n2:Int)):=AA
  clear o n;rcases Y with d | ⟨d,d2⟩;all_goals
   go_enter func65,ntmps65;go_wp2_with fail;go_ret;exact⟨by rw[u];rfl,Zy _ _⟩
 have D:Hid (G.nonsOK=Cg G.nonOK G.nons):=LH (by rw[r];simp only[n,and_self,decide_true,Bool.true_and]);obtain⟨ai,aj⟩:=n;have S:=LH o;clear r o;go_enter func65,ntmps65;have N:=Y1.new w 26 ⟨a1,n1,c1,a2,n2,c2,a3,n3,c3⟩ G.start;go_wp2_with fail;go_loopw [3] (λi wr=>∃(k:Nat),k<=n2/\i = .int .i64 (k:Int)/\Below w w wr/\Y1 wr w ⟨a1,n1,c1,a2,n2,c2,a3,n3,c3⟩ G.start/\Hid (∀j,j<k->∀y,G.nons[j]? = some y->(!G.nonOK j y)=false)) (λi _=>n2-(intOf i).toNat)
 case atStart=>exact⟨0,AV _,rfl,Zy _ _,N,LH λj hj=>AA⟩
 clear N;obtain⟨k,hk,rfl,c,v,E⟩:=hrel;have⟨z5,z0,z1,z2,z3⟩:=v;simp only[] at z0 z1 z2 z3;by_cases V:k<n2
 ·obtain⟨b,R,s,rfl,L,F,q0⟩:=A.get V;rw[<-c.cell (by exact L)] at q0;have ae:b<wr.heap.size:=AK L c.size;have z:=S.below c;have H:=λw=>Zx8 s w;have I:=λ(x:Ext wr)=>Zu5 ⟨a1,n1,c1,some ⟨b,R,none⟩,n2,c2,a3,n3,c3⟩ G s (bl wr x) (z.below (Zr wr x)) (by simp only[];omega);have J:=λ(x:Ext wr)=>C6 ⟨a1,n1,c1,some ⟨b,R,none⟩,n2,c2,a3,n3,c3⟩ G s (bl wr x) (z.below (Zr wr x)) (by simp only[];omega);have O:G.nonOK k s=(Xi (Zh s)&&decide (G.non s=(k:Int))&&decide (G.term s<0)):=rfl;have C:=LH O;have X:=(U9 (λt=>decide (t=s)) G.nons).1;have bc:=Yt wr;have Hx:=LH v;have a:=LH c;clear O z v c;generalize Xi (Zh s)=f at *;generalize G.non s=p at *;generalize G.term s=B at *;have l:=LH H;have m:=LH I;have CT:=LH J;clear H I J X;have Z:(f=false\/(f=true/\p≠(k:Int))\/(f=true/\p=(k:Int)/\0<=B))\/(f=true/\p=(k:Int)/\B<0):=by
   cases f
   ·simp
   simp only[Bool.true_eq_false,false_or,true_and];omega
  rcases Z with M | ⟨rfl,rfl,g⟩
  ·have q:Hid (G.nonsOK=false):=LH (by
    rw[D];refine Lp F ?_;rw[C];rcases M with rfl | ⟨rfl,g⟩ | ⟨rfl,rfl,g⟩
    ·simp
    ·simp[g]
    simp;omega)
   rcases M with rfl | ⟨rfl,g⟩ | ⟨rfl,rfl,g⟩
   ·go_wp2_with fail;refine Zs AB AB ?_;repeat (go_big_quiet_step (first
     | (go_at_call 119;exact Qo (l.out _))
     | (go_at_call 120;exact Ve (m.out _))
     | (go_at_call 117;exact Ve (CT.out _))))
    refine BK ?_;rintro _⟨x,rfl⟩;go_wp2_with fail;go_ret;exact⟨by rw[q];rfl,a.trans ((Zr wr x).mono a.size)⟩
   ·have d:(p != (k:Int))=true:=by rw[BM];exact g
    clear g;go_wp2_with fail;refine Zs AB AB ?_;repeat (go_big_quiet_step (first
     | (go_at_call 119;exact Qo (l.out _))
     | (go_at_call 120;exact Ve (m.out _))
     | (go_at_call 117;exact Ve (CT.out _))))
    refine BK ?_;rintro _⟨x,rfl⟩;go_wp2_with fail;go_ret;exact⟨by rw[q];rfl,a.trans ((Zr wr x).mono a.size)⟩
   go_wp2_with fail;refine Zs AB AB ?_;repeat (go_big_quiet_step (first
    | (go_at_call 119;exact Qo (l.out _))
    | (go_at_call 120;exact Ve (m.out _))
    | (go_at_call 117;exact Ve (CT.out _))))
   refine BK ?_;rintro _⟨x,rfl⟩;go_wp2_with fail;go_ret;exact⟨by rw[q];rfl,a.trans ((Zr wr x).mono a.size)⟩
  have T:Hid ((!G.nonOK k s)=false):=LH (by rw[C];simp;omega);have d:decide (0<=B)=false:=AG
  go_wp2_with fail;refine Zs AB AB ?_;repeat (go_big_quiet_step (first
   | (go_at_call 119;exact Qo (l.out _))
   | (go_at_call 120;exact Ve (m.out _))
   | (go_at_call 117;exact Ve (CT.out _))))
  refine BK ?_;rintro _⟨x,rfl⟩;go_wp2_with fail;go_roundw
  case rel=>exact⟨k+1,AA,AF,a.trans ((Zr wr x).mono a.size),Hx.below (Zr wr x),LH (Lr E F T)⟩
  simp[intOf];omega
 obtain rfl:k=n2:=AA
 have u:Hid (G.nonsOK=true):=LH (by
  rw[D];refine Kc λj y P=>?_;have:=E j (by have:=(AO.1 P).1;omega) y P;simpa using this)
 go_wp2_with fail;go_ret;exact⟨by rw[u];rfl,c⟩
theorem rf_rule(h:GH)(G:Gr)(r:Rul)(Ar:Option Addr)(cr:Nat)(w:World)(p:Yf w h G)(B:Za .i64 w Ar r.right.length cr r.right)(U:∀s∈r.right,U3 s)(J:h.n1<=1000)(L:h.n2<=1000):
 Calls prog 66 #[GV h G.start,.agg #[.int .i64 r.left,.slice Ar r.right.length cr,.int .i64 r.prec]] w λe w'=>e = .returned (.bool (G.ruleOK r))/\Below w w w':=by
 obtain⟨a1,n1,c1,a2,n2,c2,a3,n3,c3⟩:=h;have o:G.terms.length=n1:=p.terms.len;have ag:=B.cap;simp only[] at J L;have t:Hid (G.ruleOK r=(decide (r.right.length<=6)&&decide (-1<=r.prec/\r.prec<(n1:Int))&&r.right.all (G.symOK r.prec))):=LH (by unfold Gr.ruleOK;rw[o]);clear o;have C:(6<(r.right.length:Int)\/((r.right.length:Int)<=6/\r.prec < -1)\/((r.right.length:Int)<=6/\-1<=r.prec/\(n1:Int)<=r.prec))\/((r.right.length:Int)<=6/\-1<=r.prec/\r.prec<(n1:Int)):=AA
 rcases C with R | ⟨g1,a,I⟩
 ·have v:Hid (G.ruleOK r=false):=LH (by
   rw[t];rcases R with g | ⟨g,a⟩ | ⟨g,a,I⟩
   ·have:decide (r.right.length<=6)=false:=AG
    rw[this];rfl
   ·have:decide (-1<=r.prec/\r.prec<(n1:Int))=false:=AG
    rw[this];simp
   have:decide (-1<=r.prec/\r.prec<(n1:Int))=false:=AG
   rw[this];simp)
  clear p;rcases R with g | ⟨g,a⟩ | ⟨g,a,I⟩;all_goals
   go_enter func66,ntmps66;go_wp2_with fail;go_ret;exact⟨by rw[v];rfl,(Zzq w _ _ ⟨a1,n1,c1,a2,n2,c2,a3,n3,c3⟩ _ _ _ _ _ _).1⟩
 have u:Hid (G.ruleOK r=r.right.all (G.symOK r.prec)):=LH (by
  rw[t];have o:decide (r.right.length<=6)=true:=AG
  have Z:decide (-1<=r.prec/\r.prec<(n1:Int))=true:=AG
  rw[o,Z];rfl)
 have V:=LH p;have W:=LH B;have X:=LH U;clear t p B U;go_enter func66,ntmps66;obtain⟨M,O,P⟩:=Zzq w 26 52 ⟨a1,n1,c1,a2,n2,c2,a3,n3,c3⟩ G.start r.left Ar r.right.length cr r.prec;go_wp2_with fail;go_loopw [5] (λi wr=>∃(k:Nat),k<=r.right.length/\i = .int .i64 (k:Int)/\Below w w wr/\Y1 wr w ⟨a1,n1,c1,a2,n2,c2,a3,n3,c3⟩ G.start/\Fl wr (w.heap.size+1) r.left Ar r.right.length cr r.prec/\Hid (∀j,j<k->∀y,r.right[j]? = some y->(!G.symOK r.prec y)=false)) (λi _=>r.right.length-(intOf i).toNat)
 case atStart=>exact⟨0,AV _,rfl,M,O,P,LH λj hj=>AA⟩
 clear M O P;obtain⟨k,hk,rfl,d,D,f,z⟩:=hrel;have⟨z5,z0,z1,z2,z3⟩:=D;have⟨y5,y0,y1,y2⟩:=f;simp only[] at z0 z1 z2 z3;by_cases aa:k<r.right.length
 ·obtain⟨b,aj,s,rfl,N,l,q0⟩:=W.get aa;rw[<-d.cell (by exact N)] at q0;have af:b<wr.heap.size:=AK N d.size;have T:=V.below d;have F:=λ(x:Ext wr)=>rf_has ⟨a1,n1,c1,a2,n2,c2,a3,n3,c3⟩ G s (bl wr x) (T.below (Zr wr x)) (X s (AM l)) J L;have S:G.symOK r.prec s=(G.has s&&!(decide (0<=s)&&decide (r.prec=-1))):=rfl;have n:=LH S;have bc:=Yt wr;have Hx:=LH D;have E:=LH f;have c:=LH d;clear S T D f d;generalize G.has s=m at *;have CH:=LH F;clear F;have C:(m=false\/(m=true/\0<=s/\r.prec=-1))\/(m=true/\0<=s/\r.prec ≠ -1)\/(m=true/\s<0):=by
   cases m
   ·simp
   simp only[Bool.true_eq_false,false_or,true_and];omega
  rcases C with (rfl | ⟨rfl,g,a⟩) | ⟨rfl,g,a⟩ | ⟨rfl,g⟩
  ·have q:Hid (G.ruleOK r=false):=LH (by rw[u];exact Jy l (by rw[n];rfl));go_wp2_with fail;refine Zs AB AB ?_;repeat (go_big_quiet_step ((go_at_call 51;exact Ve (CH.out _))))
   refine BK ?_;rintro _⟨x,rfl⟩;go_wp2_with fail;go_ret;exact⟨by rw[q];rfl,c.trans ((Zr wr x).mono c.size)⟩
  ·have q:Hid (G.ruleOK r=false):=LH (by rw[u];exact Jy l (by rw[n];simp[g,a]));have H:decide (0<=s)=true:=AG
   have Y:(r.prec == -1)=true:=by rw[BO];exact a
   clear a;go_wp2_with fail;refine Zs AB AB ?_;repeat (go_big_quiet_step ((go_at_call 51;exact Ve (CH.out _))))
   refine BK ?_;rintro _⟨x,rfl⟩;go_wp2_with fail;go_ret;exact⟨by rw[q];rfl,c.trans ((Zr wr x).mono c.size)⟩
  ·have A:Hid ((!G.symOK r.prec s)=false):=LH (by rw[n];simp[a]);have H:decide (0<=s)=true:=AG
   have Y:(r.prec == -1)=false:=by rw[AQ];exact a
   clear a;go_wp2_with fail;refine Zs AB AB ?_;repeat (go_big_quiet_step ((go_at_call 51;exact Ve (CH.out _))))
   refine BK ?_;rintro _⟨x,rfl⟩;go_wp2_with fail;go_roundw
   case rel=>exact⟨k+1,AA,AF,c.trans ((Zr wr x).mono c.size),Hx.below (Zr wr x),E.below (Zr wr x),LH (Vz z l A)⟩
   simp[intOf];omega
  have A:Hid ((!G.symOK r.prec s)=false):=LH (by rw[n];simp;omega);have H:decide (0<=s)=false:=AG
  go_wp2_with fail;refine Zs AB AB ?_;repeat (go_big_quiet_step ((go_at_call 51;exact Ve (CH.out _))))
  refine BK ?_;rintro _⟨x,rfl⟩;go_wp2_with fail;go_roundw
  case rel=>exact⟨k+1,AA,AF,c.trans ((Zr wr x).mono c.size),Hx.below (Zr wr x),E.below (Zr wr x),LH (Vz z l A)⟩
  simp[intOf];omega
 obtain rfl:k=r.right.length:=AA
 have v:Hid (G.ruleOK r=true):=LH (by
  rw[u];refine Cv λj y f=>?_;have:=z j (AO.1 f).1 y f;simpa using this)
 go_wp2_with fail;go_ret;exact⟨by rw[v];rfl,d⟩
theorem Jr(h:GH)(G:Gr)(w:World)(x:Yf w h G)(M:h.n1<=1000)(h2:h.n2<=1000)(h3:h.n3<=1000):
 Calls prog 29 #[GV h G.start] w λe w'=>e = .returned (.bool G.right)/\Below w.heap.size w w':=by
 have cT:=λW (p:Yf W h G)=>rf_terms h G W p;have cN:=λW (p:Yf W h G)=>rf_nons h G W p M;have af:=λW r Ar cr (p:Yf W h G) O hw=>rf_rule h G r Ar cr W p O hw M h2;obtain⟨a1,n1,c1,a2,n2,c2,a3,n3,c3⟩:=h;have C:G.nons.length=n2:=x.nons.len;have e3:G.rules.length=n3:=x.rules.len;have ht:Dv w a3 n3 c3 G.rules:=x.rules;have bf:=ht.cap;simp only[] at M h2 h3;have z:Hid (G.right=(G.termsOK&&G.nonsOK&&decide (1<=n3/\n3<=40)&&decide (0<=G.start/\G.start<(n2:Int))&&decide (G.leftsGo G.rules (-1)=some ((n2:Int)-1)))):=LH (by unfold Gr.right;rw[C,e3]);clear C;generalize a0:G.start=c at *;clear a0;generalize G.termsOK=l at *;generalize G.nonsOK=n at *;have P:(l=false\/(l=true/\n=false)\/(l=true/\n=true/\(n3:Int)<1)\/(l=true/\n=true/\1<=(n3:Int)/\40<(n3:Int))\/(l=true/\n=true/\1<=(n3:Int)/\(n3:Int)<=40/\c<0)\/(l=true/\n=true/\1<=(n3:Int)/\(n3:Int)<=40/\0<=c/\(n2:Int)<=c)) \/
  (l=true/\n=true/\1<=(n3:Int)/\(n3:Int)<=40/\0<=c/\c<(n2:Int)):=by
  cases l
  ·simp
  cases n
  ·simp
  simp only[Bool.true_eq_false,false_or,true_and];omega
 have j:=LH x;have CT:=LH cT;have S:=LH cN;have an:=LH af;clear x cT cN af;have F:=Y1.new w 26 ⟨a1,n1,c1,a2,n2,c2,a3,n3,c3⟩ c;have m:=Zy w (.cells #[.slice a1 n1 c1,.slice a2 n2 c2,.slice a3 n3 c3,.int .i64 c] 26);rcases P with v | ⟨rfl,rfl,g1,s,E,g4⟩
 ·have A:Hid (G.right=false):=LH (by
   rw[z.out];rcases v with rfl | ⟨rfl,rfl⟩ | ⟨rfl,rfl,g⟩ | ⟨rfl,rfl,g,s⟩ | ⟨rfl,rfl,g,s,E⟩ | ⟨rfl,rfl,g,s,E,g4⟩
   ·simp
   ·simp
   ·have:decide (1<=n3/\n3<=40)=false:=AG
    rw[this];simp
   ·have:decide (1<=n3/\n3<=40)=false:=AG
    rw[this];simp
   ·have:decide (0<=c/\c<(n2:Int))=false:=AG
    rw[this];simp
   have:decide (0<=c/\c<(n2:Int))=false:=AG
   rw[this];simp)
  clear z;rcases v with rfl | ⟨rfl,rfl⟩ | ⟨rfl,rfl,g⟩ | ⟨rfl,rfl,g,s⟩ | ⟨rfl,rfl,g,s,E⟩ | ⟨rfl,rfl,g,s,E,g4⟩
  ·go_enter func29,ntmps29;go_wp2_with fail;(with_reducible refine (CT.out _ (j.out.below m)).mono ?_);rintro e w1⟨rfl,d⟩;go_wp2_with fail;go_ret;exact⟨by rw[A.out];rfl,Zz m d⟩
  all_goals
   go_enter func29,ntmps29;go_wp2_with fail;(with_reducible refine (CT.out _ (j.out.below m)).mono ?_);rintro e w1⟨rfl,d⟩;have a:=Zz m d;have⟨z5,z0,z1,z2,z3⟩:=F.below d;simp only[] at z0 z1 z2 z3;clear d;go_wp2_with fail;(with_reducible refine (S.out _ (j.out.below a)).mono ?_);rintro e w2⟨rfl,o⟩;obtain⟨be,_⟩:=Jd o;have ao:=LH (Zz a o);clear o a m F;go_wp2_with fail;go_ret;exact⟨by rw[A.out];rfl,ao.out⟩
 have V:Hid (G.right=decide (G.leftsGo G.rules (-1)=some ((n2:Int)-1))):=LH (by
  rw[z.out];have e1:decide (1<=n3/\n3<=40)=true:=AG
  have C:decide (0<=c/\c<(n2:Int))=true:=AG
  rw[e1,C];rfl)
 clear z;go_enter func29,ntmps29;go_wp2_with fail;(with_reducible refine (CT.out _ (j.out.below m)).mono ?_);rintro e w1⟨rfl,d⟩;have a:=Zz m d;have f:=F.below d;have⟨z5,z0,z1,z2,z3⟩:=f;simp only[] at z0 z1 z2 z3;clear d;go_wp2_with fail;(with_reducible refine (S.out _ (j.out.below a)).mono ?_);rintro e w2⟨rfl,o⟩;have aj:=Zz a o;have R:=f.below o;clear z0 z1 z2 z3 z5;have⟨z5,z0,z1,z2,z3⟩:=R;simp only[] at z0 z1 z2 z3;clear o a m F f;go_wp2_with fail;clear z0 z1 z2 z3 z5;go_loopw [3,4,5] (λtp i t wr=>∃(k:Nat) (top:Int),k<=n3/\i = .int .i64 (k:Int)/\tp = .int .i64 top/\-1<=top/\top<=(k:Int)/\Below w.heap.size w wr/\Y1 wr w.heap.size ⟨a1,n1,c1,a2,n2,c2,a3,n3,c3⟩ c/\Hid (G.leftsGo (G.rules.take k) (-1)=some top)) (λ_ i _ _=>n3-(intOf i).toNat)
 case atStart=>exact⟨0,-1,AV _,rfl,rfl,AA,AA,aj,R,LH rfl⟩
 clear aj R;obtain⟨k,top,hk,rfl,rfl,bi,bj,N,hx,X⟩:=hrel;have⟨z5,z0,z1,z2,z3⟩:=hx;simp only[] at z0 z1 z2 z3;by_cases ay:k<n3
 ·obtain⟨b,bk,r,Ar,cr,rfl,hb,Hr,q0,q1,q2,hi⟩:=ht.get ay;rw[<-N.cell (by exact hb)] at q0 q1 q2;have ak:=lefts_next X.out Hr.out;have a:=N.alloc (DN z5) (.cells #[.int .i64 r.left,.slice Ar r.right.length cr,.int .i64 r.prec] 52);have f:=hx.below (Zy wr (.cells #[.int .i64 r.left,.slice Ar r.right.length cr,.int .i64 r.prec] 52));have y:=Fl.new wr 52 r.left Ar r.right.length cr r.prec;have cR:=λW p O=>an.out W r Ar cr p O (j.out.wf r (AM Hr.out));generalize G.ruleOK r=B at *;have T:=LH cR;have Z:=LH ak;clear cR ak;have P:(r.left<0\/(0<=r.left/\top+1<r.left)\/(0<=r.left/\r.left<=top+1/\B=false))\/(0<=r.left/\r.left<=top+1/\B=true/\top<r.left)\/(0<=r.left/\r.left<=top+1/\B=true/\r.left<=top):=by
   cases B
   ·simp only[Bool.false_eq_true,and_false,false_and,or_false,and_true];omega
   simp only[Bool.true_eq_false,and_false,or_false,true_and,and_true];omega
  rcases P with v | az
  ·have I:Hid (G.right=false):=LH (by
    rw[V.out];have:G.leftsGo G.rules (-1)=none:=by
     refine lefts_bad (k:=k+1) ?_;rw[Z.out,if_neg];intro⟨h5,h6,h7⟩;rcases v with g | ⟨g,q⟩ | ⟨g,q,D⟩
     ·omega
     ·omega
     rw[h7] at D;cases D
    rw[this];rfl)
   rcases v with g | ⟨g,q⟩ | ⟨g,q,rfl⟩
   ·clear f y;go_wp2_with fail;go_ret;exact⟨by rw[I.out];rfl,a⟩
   ·clear f y;go_wp2_with fail;go_ret;exact⟨by rw[I.out];rfl,a⟩
   have H:=LH a;have J:=LH (j.out.below a);have L:=LH (hi.below a);clear a f y;go_wp2_with fail;(with_reducible refine (T.out _ J.out L.out).mono ?_);rintro e w6⟨rfl,u⟩;go_wp2_with fail;go_ret;exact⟨by rw[I.out];rfl,Zz H.out u⟩
  have H:=LH a;have J:=LH (j.out.below a);have L:=LH (hi.below a);have ap:=LH f;have aq:=LH y;clear a f y;rcases az with ⟨g,q,rfl,D⟩ | ⟨g,q,rfl,D⟩;all_goals
   have Y:Hid (G.leftsGo (G.rules.take (k+1)) (-1)=some (max top r.left)):=LH (by rw[Z.out,if_pos ⟨g,q,rfl⟩]);go_wp2_with fail;(with_reducible refine (T.out _ J.out L.out).mono ?_);rintro e w6⟨rfl,u⟩;have⟨y5,y0,y1,y2⟩:=aq.out.below u;have ab:=LH (ap.out.below u);have U:=LH (Zz H.out u);clear u z0 z1 z2 z3 y1 y2;go_wp2_with fail;go_roundw
   case rel=>first
    | exact⟨k+1,r.left,AA,AF,rfl,AA,AA,U.out,ab.out,LH (by rw[Y.out,Int.max_eq_right AA])⟩
    | exact⟨k+1,top,AA,AF,rfl,AA,AA,U.out,ab.out,LH (by rw[Y.out,Int.max_eq_left AA])⟩
   simp[intOf];omega
 obtain rfl:k=n3:=AA
 have A:Hid (G.right=(top==(n2:Int)-1)):=LH (by
  rw[V.out];have:=X.out;rw[AR AA] at this;rw[this,BZ];simp)
 have bg:IntKind.i64.wrap ((n2:Int)-1)=(n2:Int)-1:=BS _ AA;go_wp2_with fail;go_ret;exact⟨by rw[A.out];rfl,N⟩
section
open Go.RowKit Go.Maps
theorem Nt(n:Nat)(h:n<=1000)(w:World):
 (Instr.makeSlice 97 (.int .i64 (n:Int)) (.int .i64 (n:Int))).run prog w = .ok (.slice (some ⟨w,0,none⟩) n n) (w.alloc (.cells (Qk (List.replicate n false)).toArray 4)):=by
 obtain⟨i,d,g,f,c⟩:=info_parts Tryz.infoBool;have b:(i.bytes:Int)*(n:Int)<=281474976710656:=by rw[c];omega
 have a:=run_make (P:=prog) w 97 4 i (.bool false) underlying97 d g .i64 .i64 n n AA AA b AA;simp only[DC] at a;rw[a,f,Ep];simp only[Value.cells,made_bools]
end
section
open Go.Maps (Keyed IsMap Tidy)
theorem at_numD(z:DataW Unit)(i:Nat):∀a:List Nat,a.Nodup->i∈a->(Zys a).atKey (Dc i) z = .lit (.int .i64 (toI a i)):=by
 intro a
 induction a using K3 with
 | h0=>intro _ h;cases h
 | h1 o j k =>
   intro d c;rw[Zvz];rw[List.nodup_append] at d;obtain⟨f,_,g⟩:=d;have b:j∉o:=λh=>g j h j AE rfl;by_cases h:i=j
   ·subst h;rw[Maps.atKey_put_same (by unfold Zys;exact D8 _) (Zt4 i),Zsp b]
   rw[Maps.atKey_put_other (nKey_ne h),toI_more b h];refine k f ?_;rw[DE,BU] at c;exact c.resolve_right h
theorem Zvs.name{d:World}{y:Value}{G:Gr}{w:World}{s:Nat}{u a:List Nat}{l:Nat}(r:Zvs d g f y G w o q p s u a l)(E:f<d.heap.size)(F:g<d.heap.size)(A:f≠g)(j:Option Addr)(m:Nat)(x:w1.ownsRow d 9 1 (.slice j (a.length+1) m) (a.length+1) ((a.map λi=>Value.string (Ws G i))++[.string (Ws G l)]))(C:w.grownBy w1 (Value.slice p a.length s).ownBlock):
 Dm d g f y G (w1.setCell ⟨g,1,none⟩ (.slice j (a.length+1) m)) o q j m u (a++[l]):=by
 have n:=Off.of_grown C;have t:=Off.of_set w1 g 1 (.slice j (a.length+1) m);have v:∀b,(Value.slice p a.length s).ownBlock=some b->d.heap.size<=b:=λb c=>(r.nons.lt b c).1;have D:∀b,(Value.slice o u.length q).ownBlock=some b->d.heap.size<=b:=λb c=>(r.kept.lt b c).1;have B:∀b,(Value.slice o u.length q).ownBlock=some b->(Value.slice p a.length s).ownBlock=some b->False:=λb h1 z=>Fe r.kept r.nons AC h1 z;refine⟨(r.off.trans n λk H h=>?_).trans t λk _ h => .inr h,(r.num.block (n.keep f r.num.lt λh=>?_)).block (t.keep f (AK r.num.lt n.size) A),?_,?_,?_⟩
 ·have:=v k h;omega
 ·have:=v f h;omega
 ·have h1:=n.blk r.out λh=>by have:=v g h;omega
  have:=Blk.set h1 1 (.slice j (a.length+1) m);rw[AU,CU];exact this
 ·exact t.row (n.row r.kept λb c h=>B b c h) λb c h=>by have:=D b c;omega
 rw[AU,CU,DF];refine t.row x λb c h=>?_;have:=(x.lt b c).1;omega
end
def trmB(a b:Trm):Bool:=(a.name==b.name)&&((a.level==b.level)&&(a.assoc==b.assoc))
theorem Bf{a b:Trm}:trmB a b=true↔a=b:=by
 obtain⟨x,y,z⟩:=a;obtain⟨f,g,z'⟩:=b;unfold trmB;rw[AS,AS,Zx5,BO,BO];constructor
 ·rintro⟨h1,c,d⟩;simp only at h1 c d;rw[h1,c,d]
 intro h;injection h with h1 c d;exact⟨h1,c,d⟩
theorem Tryz.fieldsTerm:(prog.fieldsOf 91).toList.map (λf=>(f.name,f.type,f.offset))=[("Name",9,0),("Level",3,1),("Assoc",3,2)]:=AB
theorem fields3{n1 n2 n3:String}{l m j k:Nat}(h:d.map (λf=>(f.name,f.type,f.offset))=[(n1,l,g),(n2,m,j),(n3,n,k)]):
 ∃a b c,d=[a,b,c]/\(a.name=n1/\a.type=l/\a.offset=g)/\(b.name=n2/\b.type=m/\b.offset=j)/\(c.name=n3/\c.type=n/\c.offset=k):=by
 match d,h with
 | [a,b,c],h =>
   simp at h;exact⟨a,b,c,rfl,h.1,h.2.1,h.2.2⟩
theorem eq_trm(a b:Trm)(w:World):(Op.equalIn 10000 91 (.agg #[.string a.name,.int .i64 a.level,.int .i64 a.assoc]) (.agg #[.string b.name,.int .i64 b.level,.int .i64 b.assoc])).run prog w = .ok (trmB a b) w:=by
 rw[run_equalIn_agg (d:=9999) w 91 _ _ Tryz.structTerm Tryz.heldTerm];obtain⟨r,s,u,g,⟨n1,o,h⟩,⟨n2,p,j⟩,⟨n3,q,k⟩⟩:=fields3 Tryz.fieldsTerm;rw[g];have u9:=underlying9;have u3:=underlying3;unfold trmB;rw[beq_toListBytes];have f:∀x y:ByteArray,(Op.equalIn 9999 9 (.string x) (.string y)).run prog w = .ok (x.toList==y.toList) w:=λx y=>run_equalIn_string (d:=9998) w _ x y u9;have c:∀x y:Int,(Op.equalIn 9999 3 (.int .i64 x) (.int .i64 y)).run prog w = .ok (x==y) w:=λx y=>run_equalIn_int (d:=9998) w _ .i64 .i64 x y u3;have l:∀t:Trm,(part 9 #[.string t.name,.int .i64 t.level,.int .i64 t.assoc] 0).run prog w = .ok (.string t.name) w:=λt=>by go_simp
 have m:∀t:Trm,(part 3 #[.string t.name,.int .i64 t.level,.int .i64 t.assoc] 1).run prog w = .ok (.int .i64 t.level) w:=λt=>by go_simp
 have n:∀t:Trm,(part 3 #[.string t.name,.int .i64 t.level,.int .i64 t.assoc] 2).run prog w = .ok (.int .i64 t.assoc) w:=λt=>by go_simp
 simp only[Op.eqFields,n1,o,h,n2,p,j,n3,q,k];rw[if_pos AC,if_pos AC,if_pos AC];simp only[Sem.run_bind,l,m,n,f,c,Result.andThen_ok,Sem.run_ite,Sem.run_pure];cases a.name.toList==b.name.toList <;> cases a.level==b.level <;> cases a.assoc==b.assoc <;> simp
theorem Gp:∀t∈Xt.terms,t.name.size<=maxLen:=by
 intro t a;have:t.name.size<=3:=by
  simp only[Xt,BV,Ec,or_false] at a;subst a;decide
 simp only[maxLen];omega
section
open Go.Maps (Keyed IsMap Tidy)
open Go.Maps (Keyed IsMap Tidy)
theorem fit_val(x:Nat):∃(d:List Nat) (g:Nat) (b:Bool),Xm x=(d,g)/\(((g:Nat):Int)==2)=b/\(∀(w:World) (A:Option Addr) (c:Nat),Zq .u32 w A d.length c d->Z1 w A d.length c b x):=by
 rcases F8 x with ⟨a,f⟩ | ⟨a,f⟩
 ·exact⟨limbs x,0,false,f,rfl,λw A c h=>val_of a h⟩
 exact⟨[],2,true,f,rfl,λw A c h=>⟨by rw[Wl a],by rw[Wl a];exact h⟩⟩
end
section
open Go.Maps (Keyed IsMap Tidy)
open Go.Maps (Keyed IsMap Tidy)
variable {W0:World} {k:BkH} {h:GH} {G:Gr} {S':Nat->Prop} {w:World} {gR:Nat} {b:Nat->Bool} {u:Nat->Value} {X:World}
theorem Zu.refl(w:World):Zu w w:=⟨AJ _,λ_ _ _=>rfl⟩
theorem Zu.trans{a b c:World}(h:Zu a b)(k:Zu b c):Zu a c:=by
 refine⟨Nat.le_trans h.1 k.1,λg d hi=>?_⟩;have e:=h.2 g d hi;refine (k.2 g (Nat.lt_of_lt_of_le d h.1) ?_).trans e;obtain⟨o,z,f⟩:=hi;exact⟨o,z,(World.cell?_of_block (a:=⟨g,o,none⟩) e).trans f⟩
theorem Zq.nkept{w:World}(h:Zq .u32 w A n c xs)(l:Zu w w'):Zq .u32 w' A n c xs:=by
 refine⟨h.1,h.2.1,h.2.2.1,λd=>?_⟩;obtain⟨b,f,e,g,k⟩:=h.2.2.2 d;have h0:=k 0 d;have hi:∃o z,w.cell? ⟨b,o,none⟩=some (Value.int .u32 z):=by
  have q:0<xs.length:=by simpa [nums] using d
  refine⟨f+0,((xs[0]:Nat):Int),?_⟩;rw[h0];simp[nums,q]
 have m:=l.2 b g hi;exact⟨b,f,e,AK g l.1,λj p=>(DL (a:=⟨b,f+j,none⟩) m).trans (k j p)⟩
theorem Z1.nkept{w:World}{b:Bool}{x:Nat}(h:Z1 w A n c b x)(a:Zu w w'):Z1 w' A n c b x:=⟨h.1,h.2.nkept a⟩
end
theorem Za.kept{w:World}{d:List Int}(h:Za .i64 w A n c d)(p:Zf w w'):Za .i64 w' A n c d:=by
 refine⟨h.1,h.2.1,h.2.2.1,λf=>?_⟩;obtain⟨b,g,e,l,m⟩:=h.2.2.2 f;have h0:=m 0 f;have hi:∃o q z,w.cell? ⟨b,o,none⟩=some (Value.int q z):=by
  have t:0<d.length:=by simpa [ints] using f
  refine⟨g+0,.i64,d[0],?_⟩;rw[h0];simp[ints,t]
 have r:=p.2 b l hi;exact⟨b,g,e,AK l p.1,λj s=>(DL (a:=⟨b,g+j,none⟩) r).trans (m j s)⟩
section
variable {G:Gr}
theorem un_single{H:Gr}{u:List Nat}(h0:s<0)(h:UnL H [s] n r u):∃q,UnT H (Zp s) n q u:=by
 cases h with
 | term h1=>omega
 | @non _ _ n k i q r x c d _ a b u1 u2 =>
   cases u2;rw[DH];exact⟨_,i,x,q,c,a,b,u1,rfl,rfl⟩
end
section
open Go.Shelf
theorem Tryz.lays108:Go.Proofs.Lays.n108 prog Tryz.lays108_ren:={
 mixed:=AB
 f108:=func71.trans (congrArg some AB)
 t0:=underlying0
 a0:=Tryz.isAgg0
 z0:=Tryz.sizeOf0
 v0:=Tryz.zeroValue0
 t3:=underlying3
 a3:=Tryz.isAgg3
 z3:=Tryz.sizeOf3
 v3:=Tryz.zeroValue3
 t4:=underlying4
 a4:=Tryz.isAgg4
 z4:=Tryz.sizeOf4
 v4:=Tryz.zeroValue4
 t28:=underlying27
 a28:=Tryz.isAgg27
 z28:=Tryz.sizeOf27
 v28:=Tryz.zeroValue27 }
open Go.Lib in
theorem Tryz.slices_Index_int(b d n c:Nat)(a:List Int)(x:Int)(w:World)(h:n<=a.length)(f:n<=9223372036854775807)(g:∀j,j<a.length->w.cell? ⟨b,d+j,none⟩=some (.int .i64 (a.getD j 0))):
 Calls prog 71 #[.slice (some ⟨b,d,none⟩) n c,.int .i64 x] w λe w'=>e = .returned (.int .i64 (Lib.idxOf (a.take n) x))/\w'=w:=Any.slices_Index_int Tryz.lays108 b d n c a x w h f g
open Go.Lib in
theorem Tryz.slices_Index_int_empty(a:Option Addr)(c:Nat)(x:Int)(w:World):
 Calls prog 71 #[.slice a 0 c,.int .i64 x] w λe w'=>e = .returned (.int .i64 (Lib.idxOf [] x))/\w'=w:=Any.slices_Index_int_empty Tryz.lays108 a c x w
end
section
open Go.Shelf
open Go.ChangeShapes Go.WideShapes Go.ChangeAt Go.RowKit
open Go.ChangeShapes Go.WideShapes Go.ChangeAt Go.RowKit
open Go.ChangeShapes Go.WideShapes Go.ChangeAt Go.RowKit Go.Lib Go.Deep
variable {H:Type} {enc:TypeId × Value->H} {w:World} {base:Nat} {sp:Nat->Bool} {held:Bool}
theorem open_terms{fuel:Nat}{v:Value}{x:DataW H × List MemPlace}(h:DataW.trod enc prog w base sp held fuel 22 [v]=some x):
 ∃A n c ts,v = .slice A n c/\N8 w A n c ts/\∀t∈ts,t.name.size<=maxLen:=by
 rcases open_slice underlying22 h with ⟨g,_⟩ | ⟨a,len,cap,m,n,D,U,g,_,G,I,J,_,N⟩
 ·simp at g;exact⟨none,0,0,[],g,⟨rfl,AJ _,AA,λh=>AA⟩,λt d=>by cases d⟩
 simp at g;have W:len<=m:=by rw[J];split <;> omega
 have each:∀i,∃t:Trm,i<len->w.cell? (a.add (i*3))=some (.string t.name)/\w.cell? (a.add (i*3+1))=some (.int .i64 t.level)/\w.cell? (a.add (i*3+2))=some (.int .i64 t.assoc)/\t.name.size<=maxLen:=λi=>by
  by_cases hi:i<len
  ·obtain⟨V,h1,F⟩:=N i AA;have q:prog.cellsOf 91=3:=AB
   rw[q] at h1;obtain⟨X,Y,Z,y0,y1,y2,k,P,R,S,g0,C,E⟩:=elem3 underlying91 q rfl rfl rfl AB AB AB h1 F;obtain⟨s,y,_,M⟩:=DataW.trod_string underlying9 g0;obtain⟨n1,r,_,_⟩:=DataW.trod_int underlying3 C;obtain⟨n2,u,_,_⟩:=DataW.trod_int underlying3 E;simp at y r u;subst y r u;exact⟨⟨s,n1,n2⟩,λ_=>⟨P,R,S,M⟩⟩
  exact⟨⟨ByteArray.empty,0,0⟩,λh=>absurd h hi⟩
 obtain⟨f,p⟩:=Classical.axiomOfChoice each;refine⟨some a,len,cap,(List.range len).map f,g,⟨AE,G,by simpa [maxLen] using I,λh0=>?_⟩,λt d=>?_⟩
 ·obtain⟨b,O,T⟩:=a;have o:=(p 0 h0).1;have L:T=none:=by simpa [Addr.add] using World.cell?_spot o
  subst L;rw[Bi] at o;refine⟨b,O,rfl,by have:=Zyg o;simpa using this,λj t d=>?_⟩;rw[By] at d;have l:j<len:=by
   rcases BC j len with h | h
   ·exact h
   simp[BE (show (List.range len).length<=j by simpa using h)] at d
  simp[l] at d;subst d;obtain⟨p0,z,B,_⟩:=p j l;rw[Bi] at p0 z B;exact⟨p0,by rw[Ea];exact z,by rw[Ea];exact B⟩
 obtain⟨j,l,rfl⟩:=CV.1 d;exact (p j (BP.1 l)).2.2.2
end
