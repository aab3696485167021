/- the reading of a grammar, its counts, and what is drawn: lemmas -/
import Derived.Test.YtaagompdgiobeaaGreatDoorJ02
set_option linter.all false
set_option maxHeartbeats 1500000
set_option maxRecDepth 100000
namespace Go.Proofs.YtaagompdgiobeaaGreatDoor
open Go.RowKit Go.Proofs.Tryz
open Go.Value renaming slice→K,slice→aK,int→aI,bool→aB,pointer→aP,string→aS,agg→aG open Go.IntKind renaming i64→aJ open Go.Obj renaming cells→aC open Go.Ending renaming returned→aR open List renaming length→Q,length→aQ open Option renaming none→aN
section
variable{N M:List Bool}{ss rs:List ByteArray}{s:Int}{r use n c p B q i f m g d:Nat}{a F xs:List Nat}{A Ar o At:Option Addr}{cs:List Value}{ps:List Prd}{w' w1:World}{ts:List Tk}{L:ByteArray}{x:Rul}{ops:Array Oper}{l wd:List Int}{T:Int->Nat->Nat}{rest:List Oper}{row:Option Nat}
def set_members(s:Nat)(w:World)(E:s<4294967296)(z:Q2 w):
 Calls prog 200 #[aI .u32 (s:Int)] w (RetInts .i64 w (Z6 (Wy s))):=by
 have u:=LH (Zt7 s);go_enter func200,ntmps200;go_wp2;go_loopw [0,3] (λt o wr=>∃(r:Nat) (A:Option Addr) (b:Nat) (a:List Nat),t = aI .u32 (r:Int)/\r<4294967296/\Hid (Wy s=a++Wy r)/\o = K A (Q a) b /\
  wr.ownsRow w 3 1 (K A (Q a) b) (Q a) (ints .i64 (Z6 a))/\Below w w wr) (λt _ _=>(intOf t).toNat)
 case atStart=>exact⟨s,aN,0,[],rfl,E,LH rfl,rfl,BL _ _ _ _,AP _ _⟩
 obtain⟨r,A,b,a,rfl,f,g,rfl,h,d⟩:=hrel;have B:=d.size;by_cases c:r=0
 ·subst c;have n:Wy s=a:=by rw[g,mems_zero,DJ]
  have v:=LH n;go_wp2;go_ret;have e:Z6 (Wy s)=Z6 a:=by rw[v]
  rw[e];refine⟨A,b,by rw[Mv];rfl,?_,d⟩;rw[Mv];exact Yl h
 have j:=mems_step r c f;obtain⟨H,_,_,_,I⟩:=Zt1 r c f;have M:((r:Int) != 0)=true:=by rw[BK];omega
 have m:=tz32 r wr c f (z.below d);have G:bits .and .u32 (r:Int) ((r:Int)-1)=((r &&& (r-1):Nat):Int):=by
  rw[show (r:Int)-1=((r-1:Nat):Int) from by omega];exact and32 r (r-1) f AA
 have L:0<r:=AA
 have J:(Q a)<32:=by
  have:=u.out;rw[g,j,AU,AY] at this;omega
 have x:=LH j;have q:=LH m;generalize Lib.ctz 32 r=k at *;generalize r &&& (r-1)=F at *;go_wp2_with (first
  | (go_at_call 218;refine q.out.mono ?_;rintro e w'⟨rfl,rfl⟩)
  | (at_builtin;refine Vc (w:=wr) rfl _ _ 30 rfl w 3 (aI aJ 0) 8 underlying30 Tryz.infoInt rfl _ (Q a) _ _ rfl h (aI aJ ((k:Int))) rfl rfl AA AA AA ?_;intro p y N D C))
 go_roundw
 case rel =>
  have e:ints .i64 (Z6 (a++[k]))=ints .i64 (Z6 a)++[aI aJ (k:Int)]:=by simp[ints,Z6]
  have l:(a++[k]).length=(Q a)+1:=AE
  refine⟨F,p,y,a++[k],rfl,AA,LH (by rw[g,x];simp),by rw[l],?_,X6 d C h B⟩;rw[e,l];exact D
 simp[intOf];omega
def Wn(ids:Rul->List Bool->List Int):∀a,Qv (Yy ids a)
 | []=>Qv.id
 | r::a=>Qv.comp (f:=Ce ids r) ⟨λN=>((F5 N (ids r N)).1).symm,λN i h=>(F5 N (ids r N)).2 i h⟩ (Wn ids a)
def Zzs(ids:Rul->List Bool->List Int)(a:List Rul)(N:List Bool):(Yy ids a N).length=(Q N):=(Wn ids a).len N
def passI_le(ids:Rul->List Bool->List Int)(a:List Rul)(N:List Bool):LeB N (Yy ids a N):=⟨(Zzs ids a N).symm,λi h=>(Wn ids a).up N i h⟩
def Dw(ids:Rul->List Bool->List Int)(a:List Rul)(N:List Bool):∀k,(Z3 (Yy ids a) k N).length=(Q N)
 | 0=>rfl
 | k+1=>by rw[Z3,Zzs,Dw ids a N k]
def passI_null(a:List Rul)(N:List Bool):Yy Bd a N=Xs (Xo false) a N:=by
 unfold Yy Xs;congr 1;funext N r;unfold Ce Bd Qa Xo Jz;split <;> simp
def Zx9(a:List Rul)(N:List Bool):∀k,Z3 (Yy Bd a) k N=Z3 (Xs (Xo false) a) k N
 | 0=>rfl
 | k+1=>by rw[Z3,Z3,Zx9 a N k,passI_null]
def Mr(o:Option Addr)(n c1:Nat)(xs:List Int)(p:Option Addr)(m c2:Nat)(ys:List Int)(w:World)(g:Za .i64 w o n c1 xs)(l:Za .i64 w p m c2 ys):
 Calls prog 11 #[K o n c1,K p m c2] w λe w'=>e = aR (aB (xs==ys))/\Uz w w':=by
 obtain rfl:=g.len;obtain rfl:=l.len;have E:=g.cap;have F:=l.cap;by_cases b:(Q xs)=(Q ys)
 case neg =>
  have e:(xs==ys)=false:=by rw[AR];intro h;exact b (by rw[h])
  have hi:(((Q xs):Int) != ((Q ys):Int))=true:=by rw[BK];omega
  rw[e];clear e b;go_enter func11,ntmps11;go_wp2;go_ret;exact⟨rfl,Uz.refl _⟩
 have hi:(((Q xs):Int) != ((Q ys):Int))=false:=by rw[BR];omega
 have f:=LH b;clear b;go_enter func11,ntmps11;go_wp2;go_loopw [5] (λi wr=>∃k:Nat,k<=(Q xs)/\i = aI aJ (k:Int)/\Hid (xs.take k=ys.take k)/\Uz w wr) (λi _=>(Q xs)-(intOf i).toNat)
 case atStart=>exact⟨0,AV _,rfl,LH rfl,Uz.refl _⟩
 obtain⟨k,G,rfl,q,a⟩:=hrel;by_cases s:k<(Q xs)
 ·obtain⟨t,H,x,rfl,A,Hx,C⟩:=(g.same a).get (j:=k) s;obtain⟨u,I,y,rfl,B,r,D⟩:=(l.same a).get (j:=k) (by have:=f.out;omega);have g0:(0:Int)<=(k:Int):=AA
  have v:(k:Int)<((Q xs):Int):=AA
  have z:(k:Int)<((Q ys):Int):=by have:=f.out;omega
  by_cases c:x=y
  ·subst c;go_wp2;go_quiet (fail)
   go_wp2;go_roundw
   case rel=>exact⟨k+1,AA,AF,LH (by rw[Du,Du,q,Hx,r]),a.drewN _⟩
   simp[intOf];omega
  have e:(xs==ys)=false:=by
   rw[AR];rintro rfl;have:=Hx.symm.trans r;exact c (by simpa using this)
  have hd:(x != y)=true:=by rw[BK];exact c
  have d:=LH e;clear e c;go_wp2;go_quiet (fail)
  go_wp2;go_ret;exact⟨by rw[d];rfl,a.drewN _⟩
 have e:(xs==ys)=true:=by
  have:=q.out;have:=f.out;rw[AQ AA,AQ AA] at *;simpa using ‹_=_›
 have d:=LH e;clear e;go_wp2;go_ret;exact⟨by rw[d];rfl,a⟩
def passI_prod(a:List Rul)(N:List Bool):Yy Bn a N=Xs (Xo true) a N:=by
 unfold Yy Xs;congr 1;funext N r;unfold Ce Bn Qa Xo Jz;split <;> simp
def Zy0(a:List Rul)(N:List Bool):∀k,Z3 (Yy Bn a) k N=Z3 (Xs (Xo true) a) k N
 | 0=>rfl
 | k+1=>by rw[Z3,Z3,Zy0 a N k,passI_prod]
def passI_len'(ids:Rul->List Bool->List Int)(a:List Rul)(N:List Bool):(Yy ids a N).length=(Q N):=(Wn ids a).len N
def stands_eq{P:List Bool}(o:∀i,N.getD i false=true->P.getD i false=true){ss:List Int}{k:Nat}(j:ss[k]? = some s):Zyn N P ss s=Xk N P ss k s:=by
 by_cases n:s<0
 case neg=>unfold Zyn Xk;simp[n]
 have e:Vo N ss=Vo N (ss.take k)++(Vo N [s]++Vo N (ss.drop (k+1))):=by
  have r:=(AN.1 j).1;have b:ss.drop k=s::ss.drop (k+1):=by
   rw[Eb r];congr 1;exact (AN.1 j).2
  have e:ss=ss.take k++([s]++ss.drop (k+1)):=by rw[List.singleton_append,<-b,List.take_append_drop]
  conv=>lhs;rw[e]
  unfold Vo;rw[List.filter_append,List.filter_append]
 have t:Xj true P [s]=P.getD (Zp s) false:=by unfold Xj;simp <;> omega
 rw[Cc];unfold Zyn Xk J6;rw[allP_split j,t];simp only[AS,Cs,decide_eq_true_eq,n,true_and];have g:=λl=>@bareL_nil N l;constructor
 ·rintro⟨m,a⟩;have q:Vo N (ss.take k)=[]/\Vo N (ss.drop (k+1))=[]:=by
   rw[e] at a;by_cases d:Xg N s=true
   ·have h:Vo N [s]=[]:=by unfold Vo;simp[d]
    rw[h,DA] at a;rcases a with a | ⟨a,p⟩
    ·rw[List.length_eq_zero_iff,List.append_eq_nil_iff] at a;exact a
    exfalso;have c:=AM p;rcases DB.1 c with c | c;all_goals
     unfold Vo at c;rw[List.mem_filter] at c;simp[d] at c
   have h:Vo N [s]=[s]:=by unfold Vo;simp[d]
   rw[h] at a;simp only[AU,AY,DE] at a;rcases a with a | ⟨a,p⟩
   ·omega
   exact⟨List.length_eq_zero_iff.1 AA,List.length_eq_zero_iff.1 AA⟩
  have b:=(g _).1 q.1;have f:=(g _).1 q.2;exact⟨⟨b,f⟩,Zuh o b,m,Zuh o f⟩
 rintro⟨⟨b,f⟩,u,m,v⟩;refine⟨m,?_⟩;rw[e,(g _).2 b,(g _).2 f,DA,DJ];by_cases d:Xg N s=true
 ·left;unfold Vo;simp[d]
 right;unfold Vo;simp[d]
def growN_le{r:Rul}(h:Le' N M):Le' (Qa (Xo false) r N) (Qa (Xo true) r M):=by
 refine⟨by rw[(N2 _ r).len,(N2 _ r).len];exact h.1,λi hi=>?_⟩;unfold Qa at hi ⊢;by_cases a:Xo false r N=true
 ·rw[if_pos a,Uh] at hi;have b:Xo true r M=true:=allP_mono h.2 a;rw[if_pos b,Uh];rcases hi with hi | ⟨hi,c⟩
  ·exact .inl (h.2 i hi)
  exact .inr ⟨hi,by rw[<-h.1];exact c⟩
 rw[if_neg a] at hi;split
 ·rw[Uh];exact .inl (h.2 i hi)
 exact h.2 i hi
def passN_le{a:List Rul}(h:Le' N M):Le' (Xs (Xo false) a N) (Xs (Xo true) a M):=by
 induction a generalizing N M with
 | nil=>exact h
 | cons r a b=>exact b (growN_le h)
def null_prod(G:Gr):∀i,(Zj G).getD i false=true->(Zt G).getD i false=true:=by
 rw[Qe];unfold Zt U5;generalize (Q G.O)=n;have:∀k,Le' (Z3 (Xs (Xo false) G.U) k (List.replicate n false)) (Z3 (Xs (Xo true) G.U) k (List.replicate n false)):=λk=>by
  induction k with
  | zero=>exact⟨rfl,λ_ h=>h⟩
  | succ k a=>exact passN_le a
 exact (this n).2
def growSt_small(N P:List Bool)(r:Rul)(k:Nat)(h:We F):We (Um N P r k F):=by
 unfold Um;split
 ·exact h
 split
 ·exact h.addAt _ (Ua _)
 exact h
def N1(N P:List Bool)(r:Rul)(h:We F):∀k,We (Y2 N P r k F)
 | 0=>h
 | k+1=>by rw[Uk];exact growSt_small N P r k (N1 N P r h k)
def Lm(N P:List Bool)(a:List Rul)(h:We F):We (Wo N P a F):=by
 induction a generalizing F with
 | nil=>exact h
 | cons r a b=>exact b (N1 N P r h _)
def Ks(G:Gr):We (Yz G):=Lm _ _ _ (We.zero _)
def orderS_end(S:List Nat)(n:Nat)(k:use<4294967296):Qx (U2 S use (Y4 S use n n).2) n=aN:=by
 cases d:Qx (U2 S use (Y4 S use n n).2) n with
 | none=>rfl
 | some i =>
   exfalso;have a:=(Zzg S use n).fix (List.replicate n false);rw[Ee] at a;have f:=B8 S use n (List.replicate n false) n;rw[Ee] at f;rw[Co] at d;generalize Z3 (Dn S use n) n (List.replicate n false)=b at *;unfold Dn at a;rw[d] at a;simp only[] at a;obtain⟨hi,c⟩:=Cj d;unfold U2 at c;simp only[AS] at c;have g:=Ztx k c.1.1;have h:b.getD i false=true:=by
    rw[<-a];exact (Uh b i i).2 (.inr ⟨rfl,AA⟩)
   have j:(Nm b).testBit i=true:=by
    unfold Nm;rw[J3,h];simp[g,f,hi]
   rw[j] at c;exact absurd c.1.2 AC
def F3(A:Option Addr)(n c i:Nat)(xs pat:List Nat)(w:World)(h:Zq .u8 w A n c xs)(f:∀x∈xs,x<256)(g:∀x∈pat,x<256)(z:n<=100000)(hi:i<=100000)(B:1<=(Q pat)/\(Q pat)<=100):
 Calls prog 176 #[K A n c,aI aJ (i:Int),aS (str pat)] w λe w'=>e = aR (aB (Bz xs i pat))/\w=w':=by
 obtain rfl:=h.len;have v:=h.cap;have D:=Zs1 pat
 by_cases k:i+(Q pat)<=(Q xs)
 ·obtain⟨b,E,rfl,u,p⟩:=h.at_ AA;have j:=h.part i (Q pat) (c-i) AA AA AA;have l:((xs.drop i).take (Q pat)).length=(Q pat):=by rw[BU,CJ];omega
  have a:Bz xs i pat=((str ((xs.drop i).take (Q pat))).toList==(str pat).toList):=by
   unfold Bz;rw[DV k,Bool.true_and,Cc,BA,BS];constructor
   ·intro h;rw[h]
   intro h;have m:str ((xs.drop i).take (Q pat))=str pat:=by
    have:=Ql (str ((xs.drop i).take (Q pat))) (str pat);rw[h,beq_self_eq_true] at this;simpa using this.symm
   have o:=congrArg Zh m;rwa [Vd _ λy r=>f y (List.mem_of_mem_drop (List.mem_of_mem_take r)),Vd _ g] at o
  generalize (xs.drop i).take (Q pat)=sub at *;rw[<-l] at j;have q:=Ux (P:=prog) w 57 5 9 underlying57 underlying5 underlying9 _ _ sub j;rw[l] at q;have d:=LH a;have s:IntKind.i64.wrap ((i:Int)+((Q pat):Int))=((i+(Q pat):Nat):Int):=by rw[BZ _ AA];omega
  have F:((i+(Q pat):Nat):Int)<=((Q xs):Int):=AA
  clear a j p h f g;go_enter func176,ntmps176;go_wp2_with fail;go_ret;exact⟨by rw[d];rfl,rfl⟩
 have a:Bz xs i pat=false:=by unfold Bz;rw[BV k];rfl
 have s:IntKind.i64.wrap ((i:Int)+((Q pat):Int))=((i+(Q pat):Nat):Int):=by rw[BZ _ AA];omega
 have d:=LH a;have t:decide (((i+(Q pat):Nat):Int)<=((Q xs):Int))=false:=by rw[AZ];omega
 clear a h f g;go_enter func176,ntmps176;go_wp2_with fail;go_ret;exact⟨by rw[d];rfl,rfl⟩
def rf_skip7(A:Option Addr)(n c i:Nat)(xs:List Nat)(w:World)(h:Zq .u8 w A n c xs)(a:∀x∈xs,x<256)(k:n<=100000)(hi:i<n)(l:Ci xs i=true):
 Calls prog 128 #[K A n c,aI aJ (i:Int)] w λe w'=>e = aR (.tuple #[aI aJ ((if Jv (xs.getD i 0) then i+1 else i:Nat):Int),aB (Jv (xs.getD i 0))])/\w=w':=by
 obtain rfl:=h.len;have G:=h.cap;unfold Ci at l;simp only[AS,Bool.not_eq_true',BK,ne_eq] at l;obtain⟨⟨⟨⟨o,p⟩,q⟩,v⟩,y⟩:=l;have c1:=F3 A (Q xs) c i xs [47,42] w h a AC k AA AC;have c2:=F3 A (Q xs) c i xs [47,47] w h a AC k AA AC;have c3:=F3 A (Q xs) c i xs [37,123] w h a AC k AA AC;rw[o] at c1;rw[p] at c2;rw[q] at c3;rw[show str [47,42]=⟨#[47,42]⟩ from rfl] at c1;rw[show str [47,47]=⟨#[47,47]⟩ from rfl] at c2;rw[show str [37,123]=⟨#[37,123]⟩ from rfl] at c3;obtain⟨b,H,x,rfl,E,Hx,F⟩:=h.get hi;have r:xs.getD i 0=x:=by rw[AO,Hx.out];rfl
 rw[r] at v y ⊢;have s:=LH c1;have t:=LH c2;have u:=LH c3;clear c1 c2 c3 o p q h a r;have B:((x:Int)==60)=false:=by rw[AR];omega
 have D:((x:Int)==123)=false:=by rw[AR];omega
 have z:x=32\/x=9\/x=10\/x=13\/(((x:Int)==32)=false/\((x:Int)==9)=false/\((x:Int)==10)=false/\((x:Int)==13)=false/\Jv x=false):=by
  by_cases d:x=32
  ·exact .inl d
  by_cases f:x=9
  ·exact .inr (.inl f)
  by_cases g:x=10
  ·exact .inr (.inr (.inl g))
  by_cases j:x=13
  ·exact .inr (.inr (.inr (.inl j)))
  refine .inr (.inr (.inr (.inr ⟨?_,?_,?_,?_,by simp[Jv,d,f,g,j]⟩))) <;> (rw[AR];omega)
 rcases z with rfl | rfl | rfl | rfl | ⟨d,f,g,j,m⟩;all_goals
  first
   | rw[m,if_neg DD]
   | rw[show Jv 32=true from rfl,if_pos rfl]
   | rw[show Jv 9=true from rfl,if_pos rfl]
   | rw[show Jv 10=true from rfl,if_pos rfl]
   | rw[show Jv 13=true from rfl,if_pos rfl]
  go_enter func128,ntmps128;go_wp2_with (first
   | (go_at_call 176;(with_reducible refine s.out.mono ?_);rintro e I⟨rfl,rfl⟩)
   | (go_at_call 176;(with_reducible refine t.out.mono ?_);rintro e J⟨rfl,rfl⟩)
   | (go_at_call 176;(with_reducible refine u.out.mono ?_);rintro e L⟨rfl,rfl⟩))
  refine AW (results_tmp2 rfl _ _ _) rfl ?_;exact⟨by first | rfl | (simp[Jv];done) | (simp[m];done),rfl⟩
def own_prds{w:World}{base e:Nat}{r:Nat->Prop}(h:w.ownsRow base e 5 (K A n c) n cs)(o:Vu w r cs ps):Prds w A n c ps:=by
 have k:(Q ps)=n:=by have:=h.1;have:=o.1;omega
 rcases h.2 with ⟨m,rfl⟩ | ⟨g,cap,E,m,F,p,B,v,G,J⟩
 ·injection m with a f b;subst a;subst b;exact⟨k,AJ _,AA,λd=>absurd d AA⟩
 injection m with a f b;subst a;subst b;have l:g<w.heap.size:=by
  rcases BD g w with l | z
  ·exact l
  rw[CZ z] at p;cases p
 refine⟨k,B,by simpa [maxLen] using v,λI=>⟨g,0,rfl,l,λj t q=>?_⟩⟩;have H:j<n:=by rw[<-k];exact (AN.1 q).1
 obtain⟨Ar,cr,x,y,C,D,d,a,f,b,s,u,_⟩:=o.2 j t q;refine⟨Ar,cr,x,y,C,D,?_,?_,?_,?_,?_,u⟩
 ·rw[BF,h.cellAt (j*5) AA];exact d
 ·rw[BF,h.cellAt (j*5+1) AA];exact a
 ·rw[BF,h.cellAt (j*5+2) AA];exact f
 ·rw[BF,h.cellAt (j*5+3) AA];exact b
 rw[BF,h.cellAt (j*5+4) AA];exact s
def Wk.grAt{w:World}{h:GH}{G:Gr}(k:Wk w p B h G):Yf w h G:=by
 obtain⟨cs,a,b⟩:=k.r3;exact⟨Cr k.r1,Yl k.r2,Cn a b,k.wf⟩
def Wk.grAt_ahead{w:World}{h:GH}{G:Gr}(k:Wk w p B h G)(l:w.heap.size<=w'.heap.size)(d:∀b,b<w.heap.size->p<b->w'.heap[b]? = w.heap[b]?):Yf w' h G:=by
 obtain⟨cs,g,j⟩:=k.r3;exact⟨Cr (Yq k.r1 λb a _ c=>d b c a),Yl (Yq k.r2 λb a _ c=>d b c a),Cn (Yq g λb a _ c=>d b c a) (j.keep l λb a f=>⟨d b a f.2.2,f⟩),k.wf⟩
def Wc.parts{w:World}(h:Wc w p ts):∃A c x y b d,Kq w p A (Q ts) c ts/\p<w.heap.size/\Blk w p 186 #[K A (Q ts) c,.complex .f64 x y,.complex .f64 b d,aI aJ 0] /\
 w.cell? ⟨p,0,aN⟩=some (K A (Q ts) c)/\w.cell? ⟨p,1,aN⟩=some (.complex .f64 x y)/\w.cell? ⟨p,2,aN⟩=some (.complex .f64 b d)/\w.cell? ⟨p,3,aN⟩=some (aI aJ 0):=by
 obtain⟨g,A,c,x,y,b,d,a,f⟩:=h;exact⟨A,c,x,y,b,d,f,a.lt,a,by rw[a.cell];rfl,by rw[a.cell];rfl,by rw[a.cell];rfl,by rw[a.cell];rfl⟩
def Ztg(p:Nat)(ts:List Tk)(w:World)(h:Wc w p ts):
 Calls prog 134 #[aP (some ⟨p,0,aN⟩)] w λe w'=>e = aR (aI aJ (Qy ts))/\w=w':=by
 have g:=h.len;obtain⟨A,c,x,y,G,I,a,u,f,l,z,B,C⟩:=h.parts;cases ts with
 | nil =>
   clear h a f;go_enter func134,ntmps134;go_wp2_with fail;go_ret;exact⟨rfl,rfl⟩
 | cons t ts =>
   obtain⟨b,v,H,J,rfl,m,q,D,E,F⟩:=a.head;show Calls _ _ _ _ λe w'=>e = aR (aI aJ t.1)/\w=w';obtain⟨n,d⟩:∃n,(t::ts).length=n:=⟨_,rfl⟩;have r:0<n:=by rw[<-d];simp
   have j:=a.2.1;have o:=a.2.2.1;rw[d] at l g j;generalize t.1=k at *;generalize t.2=s at *;clear h a f d;go_enter func134,ntmps134;go_wp2_with fail;go_ret;exact⟨rfl,rfl⟩
def rd_is(p:Nat)(a b:Int)(ts:List Tk)(w:World)(h:Wc w p ts):
 Calls prog 185 #[aP (some ⟨p,0,aN⟩),aI aJ a,aI aJ b] w λe w'=>e = aR (aB (isP a b ts))/\w=w':=by
 have q:=h.len;have g:=LH (Ztg p ts w h);obtain⟨A,c,x,y,F,G,f,B,l,s,C,D,E⟩:=h.parts;cases ts with
 | nil =>
   clear h f l;go_enter func185,ntmps185;go_wp2_with fail;go_ret;exact⟨rfl,rfl⟩
 | cons t ts =>
   obtain⟨n,j⟩:∃n,(t::ts).length=n:=⟨_,rfl⟩;have z:0<n:=by rw[<-j];simp
   have r:=f.2.1;have v:=f.2.2.1;rw[j] at s q r;have hd:isP a b (t::ts)=(decide (t.1=a) || decide (t.1=b)):=rfl;have m:Qy (t::ts)=t.1:=rfl;rw[hd];rw[m] at g;generalize t.1=k at *;clear h f l j hd m;by_cases d:k=a
   ·have o:(k==a)=true:=by simp[d]
    rw[show (decide (k=a) || decide (k=b))=true by simp[d]];clear d;go_enter func185,ntmps185;go_wp2_with (go_at_call 134;refine g.out.mono ?_;rintro e u⟨rfl,rfl⟩);go_ret;exact⟨rfl,rfl⟩
   have o:(k==a)=false:=by rw[AR];exact d
   rw[show (decide (k=a) || decide (k=b))=(k==b) by rw[Cc];simp[d]];clear d;go_enter func185,ntmps185;go_wp2_with (go_at_call 134;refine g.out.mono ?_;rintro e u⟨rfl,rfl⟩);go_ret;exact⟨rfl,rfl⟩
def Wc.rem{w:World}(h:Wc w p ts):Zyp w p=(Q ts):=by
 obtain⟨A,c,x,y,l,m,f,d,b,a,g,j,k⟩:=h.parts;unfold Zyp;rw[a]
def rd_decls(p:Nat)(ts:List Tk)(w:World)(h:Wc w p ts)(a:Qy ts=9):
 Calls prog 131 #[aP (some ⟨p,0,aN⟩)] w λe w'=>e = aR (K aN 0 0)/\w=w':=by
 have g:=h.len;have b:=LH (Ztg p ts w h);rw[a] at b;obtain⟨A,c,x,y,u,v,f,k,d,l,m,q,r⟩:=h.parts;have j:0<(Q ts):=by
  cases ts with
  | nil=>cases a
  | cons t ts=>simp
 generalize (Q ts)=n at *;clear h f d a;go_enter func131,ntmps131;go_wp2_with fail;go_loopw [3] (λo wr=>o = K aN 0 0/\wr=w) (λ_ _=>0)
 case atStart=>exact⟨rfl,rfl⟩
 obtain⟨rfl,rfl⟩:=hrel;go_wp2_with (go_at_call 134;refine b.out.mono ?_;rintro e s⟨rfl,rfl⟩);go_ret;exact⟨rfl,rfl⟩
def Zyt.early{wr c:World}{cr:Nat}{x y:Nat}{r:List Tk}{s:TypeId}{q:List Value}{o:Obj}(D:p<wr.heap.size)(f:(wr.alloc o).drew.grownBy c (some p))(n:c.ownsRow (wr.alloc o).drew.heap.size s 2 (K Ar (Q rs) cr) (Q rs) q)(B:Gi q rs)(A:Wc c p r)(u:Blk c wr 132 #[aS ⟨#[]⟩,.complex .f64 0 0,K aN 0 0,aS ⟨#[]⟩,.complex .f64 0 0]):
 Zyt wr (((((c.setCell ⟨wr,0,aN⟩ (aS L)).setCell ⟨wr,1,aN⟩ (.complex .f64 x y)).setCell ⟨wr,2,aN⟩ (K Ar (Q rs) cr)).setCell ⟨wr,3,aN⟩ (aS ⟨#[]⟩)).setCell ⟨wr,4,aN⟩ (.complex .f64 0 0)) p wr Ar cr L x y rs r:=by
 have a:c.grownBy (((((c.setCell ⟨wr,0,aN⟩ (aS L)).setCell ⟨wr,1,aN⟩ (.complex .f64 x y)).setCell ⟨wr,2,aN⟩ (K Ar (Q rs) cr)).setCell ⟨wr,3,aN⟩ (aS ⟨#[]⟩)).setCell ⟨wr,4,aN⟩ (.complex .f64 0 0)) (some wr) :=
  Zc (Zc (Zc (Zc (Zd _ _ _ _) (Zd _ _ _ _)) (Zd _ _ _ _)) (Zd _ _ _ _)) (Zd _ _ _ _)
 have v:=(((((u.set 0 (aS L)).set 1 (.complex .f64 x y)).set 2 (K Ar (Q rs) cr)).set 3 (aS ⟨#[]⟩)).set 4 (.complex .f64 0 0));have l:(wr.alloc o).drew.heap.size=wr.heap.size+1:=Zl wr o;have C:wr.heap.size+1<=c.heap.size:=by rw[<-l];exact f.size
 have m:∀b d,Ar=some ⟨b,d,aN⟩->wr.heap.size+1<=b/\b<c.heap.size:=λb d h=>by
  have h1:=n.lt b (by rw[h];rfl);rwa [l] at h1
 refine⟨AJ _,v,(own_rfs n B).keep a.size λb d h z=>a.block b z λe=>?_,λb d h=>?_,A.keep a.size λk h1 t=>a.block k t λe=>?_,?_⟩
 ·injection e with e;have:=(m b d h).1;omega
 ·have:=m b d h;exact⟨AA,AK this.2 a.size⟩
 ·injection e with e;omega
 have h1:wr.grownBy c (some p):=by
  refine⟨f.os,f.tape,f.output,AA,λk g j=>?_⟩;exact (f.block k (by rw[l];omega) j).trans ((Zy wr o).block k g)
 refine⟨a.os.trans h1.os,a.tape.trans h1.tape,a.output.trans h1.output,BC h1.size a.size,λk g j=>?_⟩;rw[a.block k AA (λe=>by injection e with e;omega),h1.block k g j]
def V5{P:Program}{o:Oper}{a:Act}{w:World}{K:Act->World->Prop}{Q:Exit->Act->World->Prop}{E:Prop}(H:o.guard=aN)(s x:Operand)(t:TypeId)(L:o.op = .call { callee := .builtin .append,args:=#[s,x],argTypes:=#[t,t] })(base:Nat)(e:TypeId)(z:Value)(size bytes:Nat)(T:P.underlying t=some (.slice e))(hi:(P.info? e).map (λi=>(i.zero,i.size,i.bytes))=some (some z,size,bytes))(X:z.cells.size=size)(S:0<size)(A:Option Addr)(n c:Nat)(xs:List Value)(O:a.eval s = aK A n c)(M:w.ownsRow base e size (aK A n c) n xs)(p:Addr)(m c2:Nat)(k:List Value)(J:(aQ k)=m*size)(V:a.eval x = aK (some p) m c2)(G:∀j u,k[j]? = some u->w.cell? (p.add j)=some u)(r:∀u∈k,u.oneCell'=true)(B:n+m<=9223372036854775807)(F:(n+m)*bytes<=140737488355328)(C:base<=w.heap.size)(h:∀d f w',w'.ownsRow base e size (aK d (n+m) f) (n+m) (xs++k)->w.grownBy w' (aK A n c).ownBlock->(∀b,(aK d (n+m) f).ownBlock=some b->b<w.heap.size->(aK A n c).ownBlock=some b)->
   K (a.put o.dst (aK d (n+m) f)) w'):if Region.wanted o (yielded ops a.tmps)=true then Oper.wp P o a w K Q else E:=by
 have U:Region.wanted o (yielded ops a.tmps)=true:=by simp[Region.wanted,H]
 rw[if_pos U];obtain⟨i,I,W,R,D⟩:=info_parts hi;obtain⟨Z,w',N,q,v,_,g⟩:=run_append_own_at (P:=P) w base t o.type e i z size bytes T I W R D X S _ n xs M p m c2 k J G r (by simpa [maxLen] using B) F C;obtain⟨d,f,rfl⟩:=Zuk q;have y:∀b,(aK d (n+m) f).ownBlock=some b->b<w.heap.size->(aK A n c).ownBlock=some b:=by
  intro b l Y;rcases g with g | g
  ·rw[<-g];exact l
  rw[g] at l;injection l with l;omega
 unfold Oper.wp execOp;simp only[L,resolve,invoke,builtin,Sem.run_bind,Sem.run_pure,Result.andThen_ok,List.map_toArray,CU,List.map_nil,O,V,N];exact h d f w' q v y
def Bl(s k:Nat)(w:World)(a:s<4294967296):Calls prog 120 #[aI .u32 (s:Int),aI aJ (k:Int)] w λe w'=>e = aR (aB (s.testBit k))/\w=w' :=
 (ref_has s k w a).mono λe w' h=>by rw[hasN_nat a] at h;exact h
def Ztq(G:Gr):Vh G<4294967296:=by
 unfold Vh cycS;split
 ·exact Jg _ _
 decide
def Ge(ids:Rul->List Bool->List Int):∀(a:List Rul) {N:List Bool},Yy ids a N=N->∀r∈a,Jz N (ids r N)=N
 | [],N,h,r,b=>by cases b
 | q::a,N,h,r,b=>by
   have c:Ce ids q N=N:=Qv.anti (f:=Ce ids q) (g:=Yy ids a) ⟨λN=>((F5 N (ids q N)).1).symm,λN i h=>(F5 N (ids q N)).2 i h⟩ (Wn ids a) h;rcases BY.1 b with rfl | b
   ·exact c
   refine Ge ids a ?_ r b;have:Yy ids a (Ce ids q N)=N:=h;rwa [c] at this
def Gc(G:Gr)(i:Nat):(Xu (Yz G)).getD i 0<4294967296:=(Lv (Ks G)).get i
def Zv8{G:Gr}(c:Xq G){t:Nat}(hi:i<(Q G.O))(h:((Yz G).getD i 0).testBit t=true):(Xu (Yz G)).getD t 0<(Xu (Yz G)).getD i 0:=by
 have b:=Au G c.fits i t h;have j:t<(Q G.O):=by rw[Wh] at b;exact b
 have d:i<(Yz G).length:=by rw[Wh];exact hi
 have h1:=Ha d h;have a:=c.none t j;have k:(Xu (Yz G)).getD t 0<=(Xu (Yz G)).getD i 0:=Zyd λq g=>Lh d b h g;have l:(Xu (Yz G)).getD t 0≠(Xu (Yz G)).getD i 0:=λf=>by
  unfold Yw at h1 a;rw[f,h1] at a;cases a
 omega
def mu_lt(G:Gr)(n:Nat)(s:Int)(a:n*4294967296+4294967296<=f):mu G n s<f:=by
 have:=Gc G (Zp s);unfold mu;omega
def PreO.step{S:List Nat}{a:List Nat × Nat}(h:PreO S use n a):PreO S use n (Zza S use n a):=by
 cases b:Qx (U2 S use a.2) n with
 | none=>rw[Ln b];exact h
 | some j =>
   rw[Ly b];obtain⟨d,g⟩:=Cj b;refine⟨by show a.2 ||| Y6 (j:Int)=_;rw[Zzd,h.1],λp i hi=>?_⟩;simp only[] at hi ⊢;rcases Nat.lt_trichotomy p (Q a.1) with f | c | k
   ·rw[DF f] at hi;rw[Ep AA];exact h.2 p i hi
   ·subst c;rw[BX (AJ _),Nat.sub_self] at hi;have e:j=i:=by simpa using hi
    subst e;refine⟨d,?_⟩;rw[Ep (AJ _),List.take_length,<-h.1];exact g
   rw[BE AG] at hi;cases hi
def Zy3(S:List Nat)(use n:Nat):∀k,PreO S use n (Y4 S use n k)
 | 0=>⟨rfl,λp i h=>by simp[Y4,Z3] at h⟩
 | k+1=>by rw[Nf];exact (Zy3 S use n k).step
def Zvg{G:Gr}(b:Xq G){r:Rul}(d:r∈G.U){a:Nat}{q:Int}(l:r.rt[a]? = some q)(o:q<0){k:Nat}(z:m<=n)(j:m=n->∀(p:Nat) s,p<a->r.rt[p]? = some s->Xg (Zj G) s=true)(x:k+Uy (Zj G) (r.rt.drop (a+1))<=m)(t:Zp s=r.L.toNat):mu G k q<mu G n s:=by
 have h1:=Gc G (Zp q);have y:=b.fits.L r d;unfold mu;rcases BD k n with h | h
 ·omega
 obtain rfl:k=n:=AA
 obtain rfl:m=k:=AA
 have v:Uy (Zj G) (r.rt.drop (a+1))=0:=AA
 have u:=D2 b d l o λp g A f=>by
  rcases BD p a with c | c
  ·exact j rfl p g c f
  refine low_zero v g (AM (i:=p-(a+1)) ?_);rw[DX,show a+1+(p-(a+1))=p by omega];exact f
 have:=Zv8 b (i:=r.L.toNat) AA u;rw[t];omega
def chkT(G:Gr)(a:List Nat)(tab:Nat->Nat->Nat)(n:Nat):Bool :=
 (List.range (n+1)).all λm=>(List.range a.length).all λp=>Nat.beq (Yc (Yk (B6 tab a m p)) G.U (a.getD p 0) m) (tab m (a.getD p 0))
def chkO(G:Gr)(a:List Nat):Bool :=
 (List.range G.O.length).all (λi=>a.contains i)&&a.all (λi=>decide (i<G.O.length)) &&
   (List.range a.length).all λp=>(List.range G.O.length).all λt=>!((Yz G).getD (a.getD p 0) 0).testBit t || (a.take p).contains t
def Bt{G:Gr}(g:G.Fits)(h:chkO G a=true):Ni G a:=by
 unfold chkO at h;simp only[AS,BG,BP,decide_eq_true_eq,List.contains_iff_mem,Cs,Bool.not_eq_true'] at h;obtain⟨⟨h1,d⟩,f⟩:=h;refine⟨d,λp i hi t b=>?_,λi hi=>h1 i hi⟩;have j:p<(Q a):=(AN.1 hi).1;have e:a.getD p 0=i:=by rw[AO,hi];rfl
 have c:=Au G g i t b;rw[Wh] at c;rcases f p j t c with h | h
 ·rw[e,b] at h;cases h
 exact h
def Red2.name{f:World}{C:Value}{G:Gr}{w:World}{p:Option Addr}{s:Nat}{v:List Nat}(r:Red2 f g d n C G w o q p s v a)(L:d<f.heap.size)(J:g<f.heap.size)(z:d≠g){l:Nat}(H:l∉a)(j:Option Addr)(m:Nat)(B:w1.ownsRow f 9 1 (K j ((Q a)+1) m) ((Q a)+1) ((a.map λi=>aS (Ws G i))++[aS (Ws G l)]))(F:(w.setCell ⟨d,l,aN⟩ (aI aJ ((Q a):Int))).grownBy w1 (K p (Q a) s).ownBlock):
 Red2 f g d n C G (w1.setCell ⟨g,1,aN⟩ (K j ((Q a)+1) m)) o q j m v (a++[l]):=by
 have t:=Off.of_grown F;have y:=Off.of_set w d l (aI aJ ((Q a):Int));have u:=Off.of_set w1 g 1 (K j ((Q a)+1) m);have x:∀b,(K p (Q a) s).ownBlock=some b->f.heap.size<=b:=λb c=>(r.O.lt b c).1;have A:∀b,(K o (Q v) q).ownBlock=some b->f.heap.size<=b:=λb c=>(r.kept.lt b c).1;have E:∀b,(K o (Q v) q).ownBlock=some b->(K p (Q a) s).ownBlock=some b->False:=λb h1 D=>Fe r.kept r.O AC h1 D;have I:Blk (w.setCell ⟨d,l,aN⟩ (aI aJ ((Q a):Int))) d 3 (ints .i64 (toL n (a++[l]))).toArray:=by
  have:=Blk.set r.tos l (aI aJ ((Q a):Int));have e:(ints .i64 (toL n a)).toArray.setIfInBounds l (aI aJ ((Q a):Int))=(ints .i64 (toL n (a++[l]))).toArray:=by
   rw[<-toL_set H];simp[ints,List.map_set]
  rw[e] at this;exact this
 refine⟨((r.off.trans y λk _ h => .inl h).trans t λk M h=>?_).trans u λk _ h => .inr h,u.blk (t.blk I λh=>?_) z,?_,?_,?_⟩
 ·have:=x k h;omega
 ·have:=x d h;omega
 ·have h1:=t.blk (y.blk r.out λh=>z h.symm) λh=>by have:=x g h;omega
  have:=Blk.set h1 1 (K j ((Q a)+1) m);rw[AU,CW];exact this
 ·exact u.row (t.row (y.row r.kept λb c h=>by have:=A b c;omega) λb c h=>E b c h) λb c h=>by have:=A b c;omega
 rw[AU,CW,DI];refine u.row B λb c h=>?_;have:=(B.lt b c).1;omega
def Wk.lens{w:World}{h:GH}{G:Gr}(k:Wk w p B h G):(Q G.T)=h.n1/\(Q G.O)=h.n2/\(Q G.U)=h.n3:=⟨k.grAt.T.len,k.grAt.O.len,k.grAt.U.len⟩
def Cm{b:Bool}{G a:Gr}{s:ByteArray}{i:Int}(h:Nl b G s=some (i,a))(h1:(Q G.T)<=24)(c:(Q G.O)<=16):a.O=G.O/\a.U=G.U/\a.zt=G.zt/\-17<=i/\i<=24:=by
 rcases Bu h with ⟨h0,_,rfl,rfl⟩ | ⟨_,h0,_⟩
 ·have d:=(U9 (λt=>decide (t=s)) a.O).2;have f:a.non s=Y8 (λt=>decide (t=s)) a.O:=rfl;exact⟨rfl,rfl,rfl,AA,AA⟩
 exact termP_keep h0 h1
def right_more{w d x l:World}{j t:Nat}{h k:GH}{y:Gr}{f s:Option Addr}{u:List Int}{C:Int}{P:Array Value}(A:Wk d p w k y)(n:V6 w d p h k)(I:d.ownsRow m 3 1 (K f j g) j (ints .i64 u))(B:∀b,(K f j g).ownBlock=some b->¬J8 p k b)(F:¬J8 p k q)(O:w.heap.size<q)(N:q<m)(M:m<=d.heap.size)(z:Blk d w 132 P)(J:x.ownsRow m 3 1 (K s (j+1) t) (j+1) (ints .i64 u++[aI aJ C]))(r:d.grownBy x (K f j g).ownBlock)(E:∀b,(K s (j+1) t).ownBlock=some b->b<d.heap.size->(K f j g).ownBlock=some b)(o:x.grownBy l (some q)):
 Wk l p w k y/\V6 w l p h k/\l.ownsRow m 3 1 (K s (j+1) t) (j+1) (ints .i64 (u++[C]))/\(∀b,(K s (j+1) t).ownBlock=some b->¬J8 p k b)/\Blk l w 132 P/\d.heap.size<=l.heap.size:=by
 have R:=r.size;have S:=o.size;have T:=n.size;have L:∀b,(K f j g).ownBlock=some b->m<=b/\b<d.heap.size:=λb c=>I.lt b c;have key:∀b,b<d.heap.size->b≠q->(K f j g).ownBlock≠some b->l.heap[b]? = d.heap[b]? := λb c h1 D =>
  (o.block b AA (by intro e;injection e with e;exact h1 e)).trans (r.block b c λe=>D e.symm)
 have v:∀b,b<=w.heap.size->(K f j g).ownBlock≠some b:=λb c e=>by have:=(L b e).1;omega
 refine⟨A.away AA λb c a=>key b c ?_ ?_,⟨o.os.trans (r.os.trans n.os),o.tape.trans (r.tape.trans n.tape),o.output.trans (r.output.trans n.output),AA,λb c H=>?_,n.back⟩,?_,λb c a=>?_,?_,AA⟩
 ·rcases a with a | a
  ·intro e;rw[e] at a;exact F a
  omega
 ·rcases a with a | a
  ·intro e;exact B b e a
  exact v b AA
 ·rw[key b AA AA (v b AA),n.keep b c H]
 ·rw[Zzm];exact Yq J λb c _ G=>o.block b G (by intro e;injection e with e;omega)
 ·have:=A.foot_lt a;exact B b (E b c this) a
 exact (key _ z.lt AA (v _ (AJ _))).trans z
def Zwr.early{W a:World}{n:Int}{o:Obj}(c:Below (W.alloc o).drew.heap.size (W.alloc o).drew a)(b:Blk a W 60 #[aI aJ 0,K aN 0 0,aI aJ 0]):
 Zwr W (((a.setCell ⟨W,0,aN⟩ (aI aJ n)).setCell ⟨W,1,aN⟩ (K aN 0 0)).setCell ⟨W,2,aN⟩ (aI aJ (-1))) W n:=by
 have h1:=Zz ((Zy W o).drew) c;exact⟨AJ _,((b.set 0 (aI aJ n)).set 1 (K aN 0 0)).set 2 (aI aJ (-1)),Zg (Zg (Zg h1 _ _ _ (AJ _)) _ _ _ (AJ _)) _ _ _ (AJ _)⟩
def Vb{w a:World}(f:Blk a g 110 #[K aN 0 0,aB false])(d:Below w w a)(l:w.heap.size<=g)(A:Option Addr)(n c:Nat)(b:Bool):
 Below w w ((a.setCell ⟨g,0,aN⟩ (K A n c)).setCell ⟨g,1,aN⟩ (aB b)) /\
 Blk ((a.setCell ⟨g,0,aN⟩ (K A n c)).setCell ⟨g,1,aN⟩ (aB b)) g 110 #[K A n c,aB b]/\Zf a ((a.setCell ⟨g,0,aN⟩ (K A n c)).setCell ⟨g,1,aN⟩ (aB b)):=by
 refine⟨(d.trans (Zn (Zd _ _ _ _) d.size l)).trans (Zn (Zd _ _ _ _) (by simpa using d.size) l),(f.set 0 _).set 1 _,?_⟩;refine Zf.of_off ((Off.of_set a g 0 (K A n c)).trans (Off.of_set _ g 1 (aB b)) λ_ _ h=>h) λq m=>?_;rw[m];intro o k z j;rw[f.cell o] at j;rcases o with _ | _ | o <;> cases j
def Z0(T:Int->Nat->Nat)(b:List Rul)(a i n:Nat):Nat:=Yc T (b.take i) a n
inductive UnL (G:Gr):List Int->Nat->Nat->List Nat->Prop
 | nil:UnL G [] 0 0 []
 | term {s:Int} {l:List Int} {n r:Nat} {t:List Nat}:0<=s->UnL G l n r t->UnL G (s::l) (n+1) r t
 | non {s:Int} {l:List Int} {n k i q r:Nat} {x:Rul} {t1 t2:List Nat}:s<0->G.U[i]? = some x->x.L.toNat=Zp s->UnL G x.rt k q t1->UnL G l n r t2->
    UnL G (s::l) (k+n) (Yv (Zv G) s l (k+n) k+(Z0 (Zv G) G.U (Zp s) i k+q)*Zx (Zv G) l n+r) (i::(t1++t2))
def Cq{a:List Rul}{k:Nat}{r:Rul}(b:a[k]? = some r)(i n:Nat):Yc T (a.take (k+1)) i n=Yc T (a.take k) i n+(if r.L.toNat=i then Zx T r.rt n else 0):=by
 rw[Du,b];exact Gg T _ r i n
def Jc.len{w:World}{N:Nat}{tab:Nat->Nat->Nat}(h:Jc w B A n c N a tab):(Q a)=n:=by
 have:=h.own.1;simpa using this
def Jc.tab{w:World}{N:Nat}{tab:Nat->Nat->Nat}(h:Jc w B A n c N a tab):Zyq w A n c N tab:=by
 have d:=Yl h.own;have l:=h.len;refine⟨d.2.1,d.2.2.1,λp=>?_⟩;obtain⟨b,k,e,g,j⟩:=d.2.2.2 AG;refine⟨b,k,e,g,λm o=>?_⟩;have f:a[m]? = some (a[m]' AA):=AL AA;refine⟨_,?_,(h.row m _ f).2⟩;rw[j m AG,BB,f];rfl
def Jc.apart{w:World}{N:Nat}{b:List Nat}{tab:Nat->Nat->Nat}(h:Jc w B A n c N b tab)(f:b[m]? = some g):(K A n c).ownBlock≠some g:=by
 intro d;obtain⟨cs,k,h1⟩:=Mg h.own d;obtain⟨j,a,_⟩:=(h.row m g f).2;unfold Blk at a;rw[h1] at a;injection a with a;injection a with _ h3 _;exact absurd h3 AC
def ord22A:chkO Xt [0]=true:=AB
def chk22A:chkT Xt [0] tab22A 4=true:=AB
def Bg{G:Gr}(a:G.Fits)(d:x∈G.U)(f:n<=10):J1 x.rt n/\∀s∈x.rt,G.has s=true:=by
 have h1:=a.sym x d;have g:=a.n2;have j:=a.n1;refine⟨⟨λs b=>⟨by have:=(h1 s b).1;omega,by have:=(h1 s b).2;omega⟩,a.len x d,f⟩,λs b=>?_⟩;have:=h1 s b;unfold Gr.has;split <;> (rw[BA];omega)
def UnL.inside{G:Gr}{t:List Nat}(h:UnL G l n r t):∀i∈t,i<(Q G.U):=by
 induction h with
 | nil=>intro i hi;cases hi
 | term _ _ c=>exact c
 | @non s l n k i q r x m o h0 b g u1 u2 d f =>
   intro j a;rcases BY.1 a with rfl | a
   ·exact (AN.1 b).1
   rcases DB.1 a with a | a
   ·exact d j a
   exact f j a
def UnL.to{G:Gr}{a b:Nat}{t c:List Nat}(h:UnL G l n r t)(d:n=a)(f:r=b)(g:t=c):UnL G l a b c:=by subst d f g;exact h
def ahead22(h0:T (-1) 0=0)(h1:T (-1) 1=1)(a:T (-1) 2=1)(b:T 0=K0):
 Z0 T Xt.U 0 1 1=0/\Yv T (-1) [] 1 1=0/\Yv T (-1) [-1] 2 1=0/\Yv T (-1) [] 2 2=0/\Yv T (-1) [-1] 3 1=0/\Yv T (-1) [-1] 3 2=1:=by
 refine⟨?_,?_,?_,?_,?_,?_⟩;all_goals simp[Z0,Yv,Yc,Xt,Zx,Vi,List.range,List.range.loop,h0,h1,a,b]
def X5(xs a:List Nat):List Nat × Nat × Nat :=
 if ¬(Zm xs=true/\xs.length≠0) then ([],0,1)
 else if 1000<a.length then ([],0,5)
 else if B9 xs=0 then ([],0,0)
 else Zrr (val xs) (Zrs xs) (B9 xs) (a.length+1) 0 a
def RetMake(G:Gr)(n:Nat)(w:World)(e:Ending)(w':World):Prop:=Below w.heap.size w w'/\∃A c tab,e = aR (K A (n+1) c)/\Zyq w' A (n+1) c G.O.length tab/\∀k,k<=n->∀i,i<G.O.length->tab k i=Zv G (-1-(i:Int)) k
def rulesT_take{a:List Rul}{k:Nat}{r:Rul}(b:a[k]? = some r)(i n:Nat):Yc T (a.take (k+1)) i n=Yc T (a.take k) i n+(if r.L.toNat=i then Zx T r.rt n else 0):=by
 rw[Du,b];exact Gg T _ r i n
structure TbG (W0:World) (h:GH) (G:Gr) (At:Option Addr) (nt ct:Nat) (tab:Nat->Nat->Nat):Prop where
 at_:Yf W0 h G
 tabm:Zyq W0 At nt ct G.O.length tab
 told:∀k,k<nt->∀i,i<G.O.length->tab k i=Zv G (-1-(i:Int)) k
 nt:nt<=11
 n1:h.n1<=100
 n2:h.n2<=100
 n3:h.n3<=100
def TbG.tree{b:World}{h:GH}{G:Gr}{a:Nat}{tab:Nat->Nat->Nat}(T:TbG b h G At a d tab)(g:G.has s=true){k:Nat}(f:k<a):Yk tab s k=Zv G s k:=by
 unfold Yk;by_cases h0:0<=s
 ·rw[if_pos h0,Xb G h0]
 have j:=H7 g;rw[if_neg h0,T.told k f (Zp s) (by unfold Zp;omega)];congr 1;unfold Zp;omega
def TbG.forest{b:World}{h:GH}{G:Gr}{a:Nat}{tab:Nat->Nat->Nat}(T:TbG b h G At a d tab)(f:∀s∈l,G.has s=true)(n:m<a):Zx (Yk tab) l m=Zx (Zv G) l m :=
 Wp λs g k j=>T.tree (f s g) AA
def walkP_onto_none{G:Gr}{rest ps:List Int}{non:Int}(h:Y0 G q ⟨rest,[],[]⟩ non=aN):Y0 G q ⟨rest,wd,ps⟩ non=aN:=by
 have:=Zv4 G wd ps q ⟨rest,[],[]⟩ non;rw[h] at this;simpa [preS,preR] using this
def La(G:Gr)(q at_:Nat)(non:Int)(t:List Int)(w:World)(e:Ending)(w':World):Prop:=Below w.heap.size w w' /\
 ((Y0 G q ⟨t.drop at_,[],[]⟩ non=none/\e = aR (aG #[aI aJ 0,K none 0 0,aI aJ 0,K none 0 0])) \/
  (∃a k b d g c f,Y0 G q ⟨t.drop at_,[],[]⟩ non=some (a,k)/\a.rest=t.drop b/\at_<b/\b<=t.length/\a.word.length<=6*(b-at_)/\a.posts.length=b-at_/\0<k/\k<=b-at_ /\
   e = aR (aG #[aI aJ ((b:Nat):Int),K d a.word.length g,aI aJ ((k:Nat):Int),K c a.posts.length f])/\X7 w' w.heap.size d g a.word c f a.posts))
def YAt(G:Gr)(q e:Nat)(non:Int)(t:List Int)(wr:World)(v:Value)(b:World):Prop :=
 ∃(a k kk:Nat) (g:Option Addr) (j:Nat) (f:Option Addr) (h:Nat) (d c:List Int),v = aP (some ⟨a,0,none⟩)/\wr.heap.size<=a/\Below wr.heap.size wr b /\
  Blk b a 74 (NdC k g d.length j kk f c.length h)/\X7 b wr.heap.size g j d f h c/\YOr G q e non t k kk d c
section
variable {P:Program} {w:World}
def Zzi{o:Oper}{a:Act}{Q:Exit->Act->World->Prop}(H:o.guard=aN)(s x:Operand)(t:TypeId)(L:o.op = .call { callee := .builtin .append,args:=#[s,x],argTypes:=#[t,t] })(base:Nat)(e:TypeId)(z:Value)(size bytes:Nat)(T:P.underlying t=some (.slice e))(hi:(P.info? e).map (λi=>(i.zero,i.size,i.bytes))=some (some z,size,bytes))(W:z.cells.size=size)(S:0<size)(A:Option Addr)(n c:Nat)(xs:List Value)(O:a.eval s = K A n c)(M:w.ownsRow base e size (K A n c) n xs)(p:Addr)(m c2:Nat)(k:List Value)(J:(aQ k)=m*size)(U:a.eval x = K (some p) m c2)(G:∀j u,k[j]? = some u->w.cell? (p.add j)=some u)(r:∀u∈k,u.oneCell'=true)(B:n+m<=9223372036854775807)(F:(n+m)*bytes<=140737488355328)(D:base<=w.heap.size)(h:∀d f w',w'.ownsRow base e size (K d (n+m) f) (n+m) (xs++k)->w.grownBy w' (K A n c).ownBlock->(∀b,(K d (n+m) f).ownBlock=some b->b<w.heap.size->(K A n c).ownBlock=some b)->
   wpList P ops Q rest (a.put o.dst (K d (n+m) f)) w'):wpList P ops Q (o::rest) a w:=by
 obtain⟨i,I,V,R,E⟩:=info_parts hi;obtain⟨Y,w',N,q,v,_,g⟩:=run_append_own_at (P:=P) w base t o.type e i z size bytes T I V R E W S _ n xs M p m c2 k J G r (by simpa [maxLen] using B) F D;obtain⟨d,f,rfl⟩:=Zuk q;have y:∀b,(K d (n+m) f).ownBlock=some b->b<w.heap.size->(K A n c).ownBlock=some b:=by
  intro b l X;rcases g with g | g
  ·rw[<-g];exact l
  rw[g] at l;injection l with l;omega
 refine wpList_plain H λK C=>?_;unfold Oper.wp execOp;simp only[L,resolve,invoke,builtin,Sem.run_bind,Sem.run_pure,Result.andThen_ok,List.map_toArray,CU,List.map_nil,O,U,N];exact C _ _ (h d f w' q v y)
def Ye{o:Oper}{a:Act}{Q:Exit->Act->World->Prop}(H:o.guard=aN)(s x:Operand)(t:TypeId)(J:o.op = .call { callee := .builtin .append,args:=#[s,x],argTypes:=#[t,t] })(base:Nat)(e:TypeId)(z:Value)(size bytes:Nat)(O:P.underlying t=some (.slice e))(hi:(P.info? e).map (λi=>(i.zero,i.size,i.bytes))=some (some z,size,bytes))(T:z.cells.size=size)(N:0<size)(A:Option Addr)(n c:Nat)(xs:List Value)(M:a.eval s = K A n c)(L:w.ownsRow base e size (K A n c) n xs)(d:List Value)(I:(aQ d)=size)(S:a.eval x = K (some ⟨w,0,aN⟩) 1 1)(y:∀u∈d,u.oneCell'=true)(D:n+1<=9223372036854775807)(F:(n+1)*bytes<=140737488355328)(U:base<=w.heap.size)(h:∀g l w',w'.ownsRow base e size (K g (n+1) l) (n+1) (xs++d)->w.grownBy w' (K A n c).ownBlock->(∀b,(K g (n+1) l).ownBlock=some b->b<w.heap.size->(K A n c).ownBlock=some b)->
   wpList P ops Q rest (a.put o.dst (K g (n+1) l)) w'):wpList P ops Q (o::rest) a (w.alloc (aC d.toArray e)):=by
 have G:∀j u,d[j]? = some u->(w.alloc (aC d.toArray e)).cell? ((⟨w,0,aN⟩:Addr).add j)=some u:=by
  intro j u R;have r:(⟨w,0,aN⟩:Addr).add j=⟨w,j,aN⟩:=by
   unfold Addr.add;split
   ·rename_i v;subst v;rfl
   simp
  rw[r,World.cell?_alloc_mark];simpa using R
 refine Zzi H s x t J base e z size bytes O hi T N A n c xs M (L.alloc _) _ 1 1 d (by rw[I,Nat.one_mul]) S G y D F AG λg l w' B m C=>?_;have f:w.grownBy (w.alloc (aC d.toArray e)) (K A n c).ownBlock:=World.grownBy_alloc _ _ _;exact h g l w' B ⟨m.os.trans f.os,m.tape.trans f.tape,m.output.trans f.output,BC f.size m.size,λk p q=>(m.block k (AK p f.size) q).trans (f.block k p q)⟩ λb E V=>C b E AG
end
section
open Go.Maps (Keyed IsMap Tidy)
theorem at_numD(z:DataW Unit)(i:Nat):∀a:List Nat,a.Nodup->i∈a->(Zys a).atKey (Dc i) z = .lit (.int .i64 (toI a i)):=by
 intro a
 induction a using K3 with
 | h0=>intro _ h;cases h
 | h1 o j k =>
   intro d c;rw[Zvz];rw[List.nodup_append] at d;obtain⟨f,_,g⟩:=d;have b:j∉o:=λh=>g j h j AE rfl;by_cases h:i=j
   ·subst h;rw[Maps.atKey_put_same (by unfold Zys;exact D8 _) (Zt4 i),Zsp b]
   rw[Maps.atKey_put_other (nKey_ne h),toI_more b h];refine k f ?_;rw[DB,BO] at c;exact c.resolve_right h
def Zvs.name{d:World}{y:Value}{G:Gr}{w:World}{p:Option Addr}{s:Nat}{u:List Nat}{l:Nat}(r:Zvs d g f y G w o q p s u a l)(E:f<d.heap.size)(F:g<d.heap.size)(A:f≠g)(j:Option Addr)(m:Nat)(x:w1.ownsRow d 9 1 (K j ((Q a)+1) m) ((Q a)+1) ((a.map λi=>aS (Ws G i))++[aS (Ws G l)]))(C:w.grownBy w1 (K p (Q a) s).ownBlock):
 Dm d g f y G (w1.setCell ⟨g,1,aN⟩ (K j ((Q a)+1) m)) o q j m u (a++[l]):=by
 have n:=Off.of_grown C;have t:=Off.of_set w1 g 1 (K j ((Q a)+1) m);have v:∀b,(K p (Q a) s).ownBlock=some b->d.heap.size<=b:=λb c=>(r.O.lt b c).1;have D:∀b,(K o (Q u) q).ownBlock=some b->d.heap.size<=b:=λb c=>(r.kept.lt b c).1;have B:∀b,(K o (Q u) q).ownBlock=some b->(K p (Q a) s).ownBlock=some b->False:=λb h1 z=>Fe r.kept r.O AC h1 z;refine⟨(r.off.trans n λk H h=>?_).trans t λk _ h => .inr h,(r.num.block (n.keep f r.num.lt λh=>?_)).block (t.keep f (AK r.num.lt n.size) A),?_,?_,?_⟩
 ·have:=v k h;omega
 ·have:=v f h;omega
 ·have h1:=n.blk r.out λh=>by have:=v g h;omega
  have:=Blk.set h1 1 (K j ((Q a)+1) m);rw[AU,CW];exact this
 ·exact t.row (n.row r.kept λb c h=>B b c h) λb c h=>by have:=D b c;omega
 rw[AU,CW,DI];refine t.row x λb c h=>?_;have:=(x.lt b c).1;omega
end
def trmB(a b:Trm):Bool:=(a.name==b.name)&&((a.V==b.V)&&(a.S==b.S))
def Bf{a b:Trm}:trmB a b=true↔a=b:=by
 obtain⟨x,y,z⟩:=a;obtain⟨f,g,z'⟩:=b;unfold trmB;rw[AS,AS,Zx5,BS,BS];constructor
 ·rintro⟨h1,c,d⟩;simp only at h1 c d;rw[h1,c,d]
 intro h;injection h with h1 c d;exact⟨h1,c,d⟩
def Tryz.fieldsTerm:(prog.fieldsOf 140).toList.map (λf=>(f.name,f.type,f.offset))=[("Name",9,0),("Level",3,1),("Assoc",3,2)]:=AB
def fields3{d:List Field}{n1 n2 n3:String}{l j k:Nat}(h:d.map (λf=>(f.name,f.type,f.offset))=[(n1,l,g),(n2,m,j),(n3,n,k)]):
 ∃a b c,d=[a,b,c]/\(a.name=n1/\a.type=l/\a.offset=g)/\(b.name=n2/\b.type=m/\b.offset=j)/\(c.name=n3/\c.type=n/\c.offset=k):=by
 match d,h with
 | [a,b,c],h =>
   simp at h;exact⟨a,b,c,rfl,h.1,h.2.1,h.2.2⟩
def eq_trm(a b:Trm)(w:World):(Op.equalIn 10000 140 (aG #[aS a.name,aI aJ a.V,aI aJ a.S]) (aG #[aS b.name,aI aJ b.V,aI aJ b.S])).run prog w = .ok (trmB a b) w:=by
 rw[run_equalIn_agg (d:=9999) w 140 _ _ Tryz.structTerm Tryz.heldTerm];obtain⟨r,s,u,g,⟨n1,o,h⟩,⟨n2,p,j⟩,⟨n3,q,k⟩⟩:=fields3 Tryz.fieldsTerm;rw[g];have u9:=underlying9;have u3:=underlying3;unfold trmB;rw[beq_toListBytes];have f:∀x y:ByteArray,(Op.equalIn 9999 9 (aS x) (aS y)).run prog w = .ok (x.toList==y.toList) w:=λx y=>run_equalIn_string (d:=9998) w _ x y u9;have c:∀x y:Int,(Op.equalIn 9999 3 (aI aJ x) (aI aJ y)).run prog w = .ok (x==y) w:=λx y=>run_equalIn_int (d:=9998) w _ .i64 .i64 x y u3;have l:∀t:Trm,(part 9 #[aS t.name,aI aJ t.V,aI aJ t.S] 0).run prog w = .ok (aS t.name) w:=λt=>by go_simp
 have m:∀t:Trm,(part 3 #[aS t.name,aI aJ t.V,aI aJ t.S] 1).run prog w = .ok (aI aJ t.V) w:=λt=>by go_simp
 have n:∀t:Trm,(part 3 #[aS t.name,aI aJ t.V,aI aJ t.S] 2).run prog w = .ok (aI aJ t.S) w:=λt=>by go_simp
 simp only[Op.eqFields,n1,o,h,n2,p,j,n3,q,k];rw[if_pos AC,if_pos AC,if_pos AC];simp only[Sem.run_bind,l,m,n,f,c,Result.andThen_ok,Sem.run_ite,Sem.run_pure];cases a.name.toList==b.name.toList <;> cases a.V==b.V <;> cases a.S==b.S <;> simp
def Gp:∀t∈Xt.T,t.name.size<=maxLen:=by
 intro t a;have:t.name.size<=3:=by
  simp only[Xt,BY,DZ,or_false] at a;subst a;decide
 simp only[maxLen];omega
section
variable {P:Program}
def Qf.same{w:World}(h:Qf w g)(c:w'.heap[g]? = w.heap[g]?):Qf w' g:=λo k z b=>h o k z ((DG (a:=⟨g,o,aN⟩) c).symm.trans b)
end
section
open Ieee
def symsP_full{G:Gr}{ss ps b:List Int}(h:Fs G ss ps b wd m):
 ∀(q:Nat) (rest w p:List Int) (top:Nat),(Q ps)<=q->Wt (Y0 G q) ss ⟨ps++rest,w,p⟩ top=some (⟨rest,w++wd,p++b⟩,max top m):=by
 induction h with
 | nil=>intro q rest w p top _;simp[Wt]
 | @term s ss ps b wd m h0 _ j =>
   intro q rest w p top c;have:=j q rest (w++[s]) p top c;unfold Wt;rw[if_pos h0];simp only[];rw[this];simp
 | @non s i r ss d o w1 ps b wd n m h0 g f _ _ k l =>
   intro q rest w p top c;simp only[AY,AU] at c;obtain⟨a,rfl⟩:∃a,q=a+1:=⟨q-1,AA⟩;have e:Y0 G (a+1) ⟨i::(d++ps)++rest,w,p⟩ (-1-s)=some (⟨ps++rest,w++w1,p++(o++[i])⟩,n+1):=by
    unfold Y0;simp only[DL,g,if_pos f];have:=k a (ps++rest) w p 0 AA;rw[show d++ps++rest=d++(ps++rest) from DW _ _ _,this];simp
   unfold Wt;rw[if_neg AA,e];simp only[];rw[l (a+1) rest _ _ _ AA];simp only[DW,DL,DA,BT,DM,true_and];omega
end
section
open Go.Maps (Keyed IsMap Tidy)
variable {W0:World} {k:BkH} {h:GH} {G:Gr} {S':Nat->Prop} {w:World} {gR:Nat} {b:Nat->Bool} {u:Nat->Value} {X:World}
def Zu.trans{a b c:World}(h:Zu a b)(k:Zu b c):Zu a c:=by
 refine⟨Nat.le_trans h.1 k.1,λg d hi=>?_⟩;have e:=h.2 g d hi;refine (k.2 g (Nat.lt_of_lt_of_le d h.1) ?_).trans e;obtain⟨o,z,f⟩:=hi;exact⟨o,z,(World.cell?_of_block (a:=⟨g,o,aN⟩) e).trans f⟩
def Zu.of_below{w:World}(h:Below w w w'):Zu w w' := .of_int (.of_below h)
def Zq.nkept{w:World}(h:Zq .u32 w A n c xs)(l:Zu w w'):Zq .u32 w' A n c xs:=by
 refine⟨h.1,h.2.1,h.2.2.1,λd=>?_⟩;obtain⟨b,f,e,g,k⟩:=h.2.2.2 d;have h0:=k 0 d;have hi:∃o z,w.cell? ⟨b,o,aN⟩=some (aI .u32 z):=by
  have q:0<(Q xs):=by simpa [nums] using d
  refine⟨f+0,((xs[0]:Nat):Int),?_⟩;rw[h0];simp[nums,q]
 have m:=l.2 b g hi;exact⟨b,f,e,AK g l.1,λj p=>(DG (a:=⟨b,f+j,aN⟩) m).trans (k j p)⟩
def Z1.nkept{w:World}{b:Bool}{x:Nat}(h:Z1 w A n c b x)(a:Zu w w'):Z1 w' A n c b x:=⟨h.1,h.2.nkept a⟩
def Qb(T:Int->Nat->Nat)(b:List Rul)(a n:Nat):Z0 T b a 0 n=0:=rfl
def Y3(T:Int->Nat->Nat){b:List Rul}(h:b[i]? = some x)(a n:Nat):Z0 T b a (i+1) n=Z0 T b a i n+(if x.L.toNat=a then Zx T x.rt n else 0):=by
 unfold Z0;rw[Du,h];exact Gg T _ x a n
def Qj(T:Int->Nat->Nat){b:List Rul}(h:(Q b)<=i)(a n:Nat):Z0 T b a i n=Yc T b a n:=by
 unfold Z0;rw[AQ h]
def Vf(T:Int->Nat->Nat)(b:List Rul)(a n:Nat)(h:i<=f):Z0 T b a i n<=Z0 T b a f n:=by
 obtain⟨d,rfl⟩:=Nat.exists_eq_add_of_le h
 induction d with
 | zero=>exact AJ _
 | succ d j =>
   refine BC (j (DC _ _)) ?_;cases c:b[i+d]? with
   | none =>
     have g:(Q b)<=i+d:=List.getElem?_eq_none_iff.1 c;rw[<-DY,Qj T g,Qj T AA];exact AJ _
   | some x=>rw[<-DY,Y3 T c];exact DC _ _
def Kj(T:Int->Nat->Nat)(b:List Rul)(a n i:Nat):Z0 T b a i n<=Yc T b a n:=by
 have h:=Vf T b a n (Nat.le_max_left i (Q b));rwa [Qj T (Nat.le_max_right i (Q b))] at h
def UnT(G:Gr)(a n r:Nat)(t:List Nat):Prop:=∃i x q b,G.U[i]? = some x/\x.L.toNat=a/\UnL G x.rt n q b/\r=Z0 (Zv G) G.U a i n+q/\t=i::b
def Zso{c:List Rul}{a b v:Nat}{g:Rul}(o:c[i]? = some x)(p:c[b]? = some g)(l:x.L.toNat=a)(m:g.L.toNat=a)(h1:v<Zx T x.rt n)(q:f<Zx T g.rt n)(h:Z0 T c a i n+v=Z0 T c a b n+f):i=b/\v=f:=by
 have j:=Y3 T o a n;have k:=Y3 T p a n;rw[if_pos l] at j;rw[if_pos m] at k;rcases Nat.lt_trichotomy i b with d | rfl | d
 ·have:=Vf T c a n (show i+1<=b from d);omega
 ·exact⟨rfl,AA⟩
 have:=Vf T c a n (show b+1<=i from d);omega
def UnL.parse{G:Gr}{t:List Nat}(h:UnL G l n r t):∀{b c:Nat} {d z z':List Nat},UnL G l b c d->t++z=d++z'->n=b/\r=c/\t=d/\z=z':=by
 induction h with
 | nil=>intro b c d z z' f a;cases f;exact⟨rfl,rfl,rfl,a⟩
 | @term s l n r t h0 _ p =>
   intro b c d z z' f a;cases f with
   | term _ m =>
     obtain⟨rfl,rfl,rfl,rfl⟩:=p m a;exact⟨rfl,rfl,rfl,rfl⟩
   | non h1=>exact absurd h1 AA
 | @non s l n k i q r x H J h0 o B u1 u2 u v =>
   intro b c d z z' f a;cases f with
   | term h1=>exact absurd h1 AA
   | @non _ _ b E D F c M I L _ g C y A =>
     rw[DL,DL] at a;injection a with e1 e2;subst e1;rw[o] at g;obtain rfl:=BM g;rw[DW,DW] at e2;obtain⟨rfl,rfl,rfl,j⟩:=u y e2;obtain⟨rfl,rfl,rfl,rfl⟩:=v A j;exact⟨rfl,rfl,rfl,rfl⟩
def UnT.parse{G:Gr}{a:Nat}{t b z z':List Nat}(h:UnT G a n r t)(j:UnT G a f g b)(c:t++z=b++z'):n=f/\r=g/\t=b/\z=z':=by
 obtain⟨i,x,q,v,m,o,k,rfl,rfl⟩:=h;obtain⟨s,A,u,y,d,p,l,rfl,rfl⟩:=j;rw[DL,DL] at c;injection c with e1 e2;subst e1;rw[m] at d;obtain rfl:=BM d;obtain⟨rfl,rfl,rfl,rfl⟩:=k.parse l e2;exact⟨rfl,rfl,rfl,rfl⟩
def UnL.non'{G:Gr}{k a:Nat}{b c:List Nat}(h0:s<0)(h1:UnT G (Zp s) k a b)(d:UnL G l n r c):UnL G (s::l) (k+n) (Yv (Zv G) s l (k+n) k+a*Zx (Zv G) l n+r) (b++c):=by
 obtain⟨i,x,q,j,g,h,f,rfl,rfl⟩:=h1;exact .non h0 g h f d
def Zv0{b:List Rul}{a:Nat}:∀{m:Nat},r<Z0 T b a m n->∃i x v,i<m/\b[i]? = some x/\x.L.toNat=a/\r=Z0 T b a i n+v/\v<Zx T x.rt n
 | 0,h=>absurd h (Nat.not_lt_zero _)
 | m+1,h=>by
   by_cases d:r<Z0 T b a m n
   ·obtain⟨i,x,v,hi,h1,g,j,k⟩:=Zv0 d;exact⟨i,x,v,AA,h1,g,j,k⟩
   cases f:b[m]? with
   | none =>
     have c:(Q b)<=m:=List.getElem?_eq_none_iff.1 f;rw[Qj T AA] at h;rw[Qj T c] at d;exact absurd h d
   | some x =>
     rw[Y3 T f] at h;split at h
     ·rename_i c;exact⟨m,x,r-Z0 T b a m n,AA,f,c,AA,AA⟩
     omega
end
def UnT.inside{G:Gr}{a:Nat}{t:List Nat}(h:UnT G a n r t):t≠[]/\∀i∈t,i<(Q G.U):=by
 obtain⟨i,x,q,f,d,_,c,_,rfl⟩:=h;refine⟨AE,λj b=>?_⟩;rcases BY.1 b with rfl | b
 ·exact (AN.1 d).1
 exact c.inside j b
def UnL.cat{G:Gr}{k v:Nat}{b:List Nat}(h0:s<0)(h1:UnT G (Zp s) k 0 a)(c:UnL G l n 0 b)(d:k+n=m)(f:Yv (Zv G) s l m k=v):UnL G (s::l) m v (a++b):=by
 subst d;have:=UnL.non' h0 h1 c;rw[f,Nat.zero_mul] at this;exact this
def UnT.top{G:Gr}{a:Nat}{t:List Nat}(c:G.U[0]? = some x)(b:x.L.toNat=a)(h:UnL G x.rt n q t):UnT G a n q (0::t):=⟨0,x,q,t,c,b,h,by rw[Qb,BF],rfl⟩
def Gw{C:Nat}{w:World}(h:Below C w w')(a:C<=w.heap.size)(g i:Nat)(v:Value)(b:C<=g):Below C w (w'.setCell ⟨g,i,aN⟩ v):=h.trans (Zn (Zd _ _ _ _) (BC a h.size) b)
section
variable {G:Gr}
def un_single{H:Gr}{u:List Nat}(h0:s<0)(h:UnL H [s] n r u):∃q,UnT H (Zp s) n q u:=by
 cases h with
 | term h1=>omega
 | @non _ _ n k i q r x c d _ a b u1 u2 =>
   cases u2;rw[DJ];exact⟨_,i,x,q,c,a,b,u1,rfl,rfl⟩
end
section
open Go.RowKit Go.Shelf
attribute [local go_sem] Oper.semAt_some
def Zrq.t{a b:Nat}{A B C:World}(h:Zrq a b A B)(k:Zrq a b B C):Zrq a b A C:=⟨k.1.trans h.1,k.2.trans h.2⟩
end
section
open Go.RowKit Go.Shelf
attribute [local go_sem] Oper.semAt_some
open Go.RowKit Go.Shelf
open Go.RowKit Go.Shelf
attribute [local go_sem] Oper.semAt_some
def Zqt{W a:World}{k:IntKind}(h:Zq k W A n c xs)(d:W.grownBy a row)(q:∀r,row=some r->∃o:Obj,W.heap[r]? = some o/\o.isCells=false):Zq k a A n c xs:=by
 refine⟨h.1,h.2.1,h.2.2.1,λp=>?_⟩;obtain⟨b,s,e,l,m⟩:=h.2.2.2 p;exact⟨b,s,e,AK l d.size,λj f=>by
  obtain⟨v,g⟩:∃v,(nums k xs)[j]? = some v:=⟨_,AL f⟩;rw[g];exact cell_kept ((m j f).trans g) d q⟩
end
section
open Go.ChangeShapes Go.WideShapes Go.ChangeAt Go.RowKit
open Go.ChangeShapes Go.WideShapes Go.ChangeAt Go.RowKit
def Js.of_row{w:World}{x:Addr}{len cap:Nat}(k:len<=cap)(l:cap<=maxLen)(p:(Q ss)=cap)(d:∀i,i<(Q ss)->w.cell? (x.add i)=some (aS (ss.getD i ByteArray.empty))):Js w (some x) len cap (ss.take len):=by
 have c:(ss.take len).length=len:=by rw[BU];omega
 refine⟨by rw[BI,c],k,by simpa [maxLen] using l,λm=>?_⟩;rw[BI,c] at m;obtain⟨b,a,o⟩:=x;have h0:=d 0 AA;have n:o=aN:=by simpa [Addr.add] using World.cell?_spot h0
 subst n;have h:w.cell? ⟨b,a,aN⟩=some (aS (ss.getD 0 ByteArray.empty)):=by simpa [Addr.add] using h0
 refine⟨b,a,rfl,Zyg h,λj f=>?_⟩;rw[BI,c] at f;have g:=d j AA;have e:(⟨b,a,aN⟩:Addr).add j=⟨b,a+j,aN⟩:=by
  unfold Addr.add;split
  ·rename_i h0;subst h0;rfl
  rfl
 rw[e] at g;rw[g,BB,Ej,if_pos f,AL AA,AO,AL AA];rfl
end
section
open Go.ChangeShapes Go.WideShapes Go.ChangeAt Go.RowKit
open Go.ChangeShapes Go.WideShapes Go.ChangeAt Go.RowKit
open Go.ChangeShapes Go.WideShapes Go.ChangeAt Go.RowKit Go.Lib Go.Deep
variable {H:Type} {enc:TypeId × Value->H} {w:World} {base:Nat} {sp:Nat->Bool} {held:Bool}
def open_terms{fuel:Nat}{v:Value}{x:DataW H × List MemPlace}(h:DataW.trod enc prog w base sp held fuel 22 [v]=some x):
 ∃A n c ts,v = K A n c/\N8 w A n c ts/\∀t∈ts,t.name.size<=maxLen:=by
 rcases open_slice underlying22 h with ⟨g,_⟩ | ⟨a,len,cap,m,n,D,U,g,_,G,I,J,_,N⟩
 ·simp at g;exact⟨aN,0,0,[],g,⟨rfl,AJ _,AA,λh=>AA⟩,λt d=>by cases d⟩
 simp at g;have W:len<=m:=by rw[J];split <;> omega
 have each:∀i,∃t:Trm,i<len->w.cell? (a.add (i*3))=some (aS t.name)/\w.cell? (a.add (i*3+1))=some (aI aJ t.V)/\w.cell? (a.add (i*3+2))=some (aI aJ t.S)/\t.name.size<=maxLen:=λi=>by
  by_cases hi:i<len
  ·obtain⟨V,h1,F⟩:=N i AA;have q:prog.cellsOf 140=3:=AB
   rw[q] at h1;obtain⟨X,Y,Z,y0,y1,y2,k,P,R,S,g0,C,E⟩:=elem3 underlying140 q rfl rfl rfl AB AB AB h1 F;obtain⟨s,y,_,M⟩:=DataW.trod_string underlying9 g0;obtain⟨n1,r,_,_⟩:=DataW.trod_int underlying3 C;obtain⟨n2,u,_,_⟩:=DataW.trod_int underlying3 E;simp at y r u;subst y r u;exact⟨⟨s,n1,n2⟩,λ_=>⟨P,R,S,M⟩⟩
  exact⟨⟨ByteArray.empty,0,0⟩,λh=>absurd h hi⟩
 obtain⟨f,p⟩:=Classical.axiomOfChoice each;refine⟨some a,len,cap,(List.range len).map f,g,⟨AE,G,by simpa [maxLen] using I,λh0=>?_⟩,λt d=>?_⟩
 ·obtain⟨b,O,T⟩:=a;have o:=(p 0 h0).1;have L:T=aN:=by simpa [Addr.add] using World.cell?_spot o
  subst L;rw[Bi] at o;refine⟨b,O,rfl,by have:=Zyg o;simpa using this,λj t d=>?_⟩;rw[BB] at d;have l:j<len:=by
   rcases BD j len with h | h
   ·exact h
   simp[BE (show (List.range len).length<=j by simpa using h)] at d
  simp[l] at d;subst d;obtain⟨p0,z,B,_⟩:=p j l;rw[Bi] at p0 z B;exact⟨p0,by rw[DY];exact z,by rw[DY];exact B⟩
 obtain⟨j,l,rfl⟩:=CX.1 d;exact (p j (BP.1 l)).2.2.2
end
end
section
variable{w' a:World}{g c n N B:Nat}{xs d:List Nat}{r:List (Value × Nat)}{S:Nat->Prop}{A:Option Addr}{tab:Nat->Nat->Nat}{cs:Array Value}{e:TypeId}
def Mf(xs:List Nat)(h:Lim xs)(a:Mo xs):Zq3 (val xs)=xs :=
 val_inj _ _ (Z9 _) h (Fk _) a (Yd _)
def Vg(xs:List Nat)(h:Lim xs):Xx xs=Zq3 (val xs):=by
 obtain⟨h1,a,_⟩:=Zx3 _ xs rfl;rw[<-h1,Mf _ (neatL_lim xs h) a]
def Zs4(a:List Nat)(h:Lim a):(if (Xx a).length<=32 then (Xx a,0) else (([]:List Nat),2))=Xm (val a):=by
 rw[Vg a h];unfold Xm;by_cases b:val a<big
 ·rw[if_pos b,if_pos ((Vt _ 32).2 (by rw[<-Zwf];exact b))]
 rw[if_neg b,if_neg (λc=>b (by rw[Zwf];exact (Vt _ 32).1 c))]
def Ul(xs:List Nat)(h:Lim xs)(a:Zm xs=true):xs=Zq3 (val xs)/\val xs<big:=by
 refine⟨(Mf xs h (X8 xs a)).symm,?_⟩;have h1:=Ui xs h;simp[Zm] at a;rw[Zwf];exact AK h1 (CV AC a.1)
section
open Go.Maps (Keyed IsMap Tidy)
def Z1.zero(w:World)(A:Option Addr)(c:Nat)(d:c<=9223372036854775807):Z1 w A 0 c false 0:=by
 have b:0<big:=by unfold big;generalize 1024=k;exact Nat.two_pow_pos k
 have a:Vk 0=([],false):=by rw[Z7 b];rfl
 unfold Z1;rw[a];exact⟨rfl,Zq.nil _ _ _ _ d⟩
def Vp.below{w:World}{t:TypeId}(h:Vp w g t xs)(a:Below w w w'):Vp w' g t xs:=h.kept (.of_below a) (a.block g h.lt)
def Vp.new(w:World)(t:TypeId)(n:Nat):Vp (w.alloc (aC (zeroCells n) t)) w t (List.replicate n 0):=by
 refine⟨zeroCells n,Blk.new w t _,by rw[Fy,Ee],λj x a=>?_⟩;have b:j<n:=by have:=(AN.1 a).1;simpa using this
 obtain rfl:0=x:=by rw[List.getElem?_replicate,if_pos b] at a;exact BM a
 obtain⟨h1,c⟩:=Cl n j b;exact⟨aN,0,0,false,h1,c,Z1.zero _ _ _ AA⟩
def Tryz.info34:(prog.info? 41).map (λi=>(i.zero,i.size,i.bytes))=some (some (aI .u32 0),1,4):=AB
def Q3(A:Option Addr)(n c:Nat)(xs:List Nat)(w:World)(h:Zq .u32 w A n c xs):
 Calls prog 162 #[K A n c] w λe w'=>e = aR (K A (Xx xs).length (Xx xs).length)/\Zq .u32 w A (Xx xs).length (Xx xs).length (Xx xs)/\w=w':=by
 have r:=h.len;have q:=h.cap;go_enter func162,ntmps162;go_wp2;go_loop [3] (λi=>∃k:Nat,k<=n/\i = aI aJ k/\Xx xs=Xx (xs.take k)) (λi=>(intOf i).toNat)
 case atStart=>exact⟨n,AJ _,rfl,by rw[AQ AA]⟩
 obtain⟨k,m,rfl,hrel⟩:=hrel;have f:=LH hrel;clear hrel;by_cases s:0<k
 ·obtain⟨b,u,x,rfl,o,Hx,p⟩:=h.get (j:=k-1) AA;by_cases h0:x=0
  ·subst h0;go_wp2;go_round
   case rel =>
    refine⟨k-1,AA,AF,?_⟩;rw[f];have:=Zws xs (k-1) AA (by simp[Hx.out]);rw[<-this,show k-1+1=k from by omega]
   simp[intOf];omega
  have t:((x:Int)==0)=false:=by simp[h0]
  have a:=Zxp xs (k-1) AA (by simpa [Hx.out] using h0);rw[show k-1+1=k from by omega,<-f] at a;have g:(Xx xs).length=k:=by rw[a];simp;omega
  have d:=LH a;have l:=LH g;clear a g;go_wp2;go_ret;rw[l];refine⟨rfl,?_,rfl⟩;rw[d];exact h.take k k m (AJ _) AA
 have a:Xx xs=[]:=by rw[f,show k=0 from by omega];simp[Xx]
 have d:=LH a;clear a;obtain rfl:k=0:=AA
 go_wp2;go_ret;rw[d];exact⟨rfl,Zq.nil _ _ _ _ AE,rfl⟩
def Ztv(A:Option Addr)(n c:Nat)(xs:List Nat)(w:World)(h:Zq .u32 w A n c xs)(g:Lim xs):
 Calls prog 225 #[K A n c] w (Xr w (Xm (val xs))):=by
 have a:=Zs4 xs g;by_cases d:(Xx xs).length<=32
 ·rw[if_pos d] at a;have b:=LH a;clear a;go_enter func225,ntmps225;go_wp2_with (go_at_call 162;refine (Q3 _ _ _ _ _ h).mono ?_;rintro e w'⟨rfl,f,rfl⟩);go_ret2;rw[<-b];exact⟨_,_,rfl,AH,AP _ _⟩
 rw[if_neg d] at a;have b:=LH a;clear a;go_enter func225,ntmps225;go_wp2_with (go_at_call 162;refine (Q3 _ _ _ _ _ h).mono ?_;rintro e w'⟨rfl,f,rfl⟩);go_ret2;rw[<-b];exact⟨aN,0,rfl,Zq.nil _ _ _ _ AE,AP _ _⟩
theorem nat_of(x:Nat)(w:World)(j:x<18446744073709551616):
 Calls prog 104 #[.int .u64 (x:Int)] w (Bq w (Zq3 x)):=by
 have h:Lim [x % 4294967296,x / 4294967296]:=Lim.mk AA (Lim.mk AA Lim.nil);have f:val [x % 4294967296,x / 4294967296]=x:=by simp[val];omega
 have a:=Vg _ h;rw[f] at a;have g:=LH a;clear a f;have d:=(Own.new w 41 .u32 [x % 4294967296,x / 4294967296]).nums (n:=2) (c:=2) rfl (AJ _) AA;have e:(nums .u32 [x % 4294967296,x / 4294967296]).toArray=#[.int .u32 ((x:Int) % 4294967296),.int .u32 ((x:Int) / 4294967296)]:=by simp[nums]
 rw[e] at d;clear e;go_enter func104,ntmps104;go_wp2_with (go_at_call 162;refine (Q3 _ _ _ _ _ d).mono ?_;rintro e w'⟨rfl,b,rfl⟩);go_ret;rw[g.out] at b ⊢;exact⟨_,_,rfl,b,(AP _ _).alloc (AJ _) _⟩
end
section
open Go.Maps (Keyed IsMap Tidy)
variable {P:Program} {k:TypeId}
def Vv.lt{w:World}(h:Vv P k w g r):g<w.heap.size:=h.own.lt
def Vv.block{w:World}(h:Vv P k w g r)(b:w'.heap[g]? = w.heap[g]?):Vv P k w' g r:=by
 refine⟨?_,h.good⟩;obtain⟨a,clock,c,q⟩:=h.own;exact⟨a,clock,b.trans c,q⟩
def Vv.below{w:World}(h:Vv P k w g r)(a:Below w w w'):Vv P k w' g r:=h.block (a.block g h.lt)
end
section
open Go.Maps (Keyed IsMap Tidy)
open Go.Maps (Keyed IsMap Tidy)
def H8.lt{w:World}{b x:Nat}(h:H8 w b x):b<w.heap.size:=by
 obtain⟨A,n,c,d,h1,_⟩:=h;exact h1.lt
structure Yo (W0:World) (k:CH) (h:GH) (G:Gr) (S:Nat->Prop) (w:World):Prop where
 base:Below W0.heap.size W0 w
 box:Blk w k.c 211 #[K h.a1 h.n1 h.c1,K h.a2 h.n2 h.c2,K h.a3 h.n3 h.c3,aI aJ G.zt,K (some ⟨k.n,0,none⟩) h.n2 h.n2,.map (some k.t),.map (some k.f)]
 nul:Z8 w k.n (Zj G)
 low:W0.heap.size<=k.t/\W0.heap.size<=k.f
 ne:k.t≠k.f
 trees:∃ts,Zzo w k.t G S ts
 forts:∃fs,Zue w k.f G S fs
def Yo.maps_noInt{w:World}{k:CH}{h:GH}{G:Gr}(C:Yo a k h G S w):∀g,k.maps g->Qf w g:=by
 obtain⟨ts,c⟩:=C.trees;obtain⟨d,b⟩:=C.forts;rintro g (rfl | rfl)
 ·exact c.map.noInt
 exact b.map.noInt
def Yo.keep{w:World}{k:CH}{h:GH}{G:Gr}(C:Yo a k h G S w)(b:Off k.maps w w'):Zf w w':=Zf.of_off b C.maps_noInt
def Yo.map_lt{w:World}{k:CH}{h:GH}{G:Gr}(C:Yo a k h G S w):k.t<w.heap.size/\k.f<w.heap.size:=by
 obtain⟨ts,c⟩:=C.trees;obtain⟨d,b⟩:=C.forts;exact⟨c.map.lt,b.map.lt⟩
def Yo.move{l w:World}{k:CH}{h:GH}{G:Gr}{P:Nat->Prop}(C:Yo l k h G S w)(d:Off P w w')(o:Zf w w')(h1:∀b,P b->S b/\l.heap.size<=b/\b≠k.c/\b≠k.n/\b≠k.t/\b≠k.f):Yo l k h G S w':=by
 obtain⟨v,y⟩:=C.map_lt;refine⟨C.base.trans (d.is_below C.base.size λb j=>(h1 b j).2.1),d.blk C.box λa=>(h1 _ a).2.2.1 rfl,d.blk C.nul λa=>(h1 _ a).2.2.2.1 rfl,C.low,C.ne,?_,?_⟩
 ·obtain⟨ts,g⟩:=C.trees;exact⟨ts,g.map.block (d.keep _ v λa=>(h1 _ a).2.2.2.2.1 rfl),g.key,λp a=>⟨(g.val p a).1.kept o (d.keep _ (g.val p a).1.lt λj=>(g.val p a).2 (h1 _ j).1),(g.val p a).2⟩⟩
 obtain⟨s,m⟩:=C.forts;refine⟨s,m.map.block (d.keep _ y λa=>(h1 _ a).2.2.2.2.2 rfl),m.key,λp a=>?_⟩;obtain⟨x,u,r,q⟩:=m.val p a;exact⟨x,u,r.kept o (d.keep _ r.lt λj=>q (h1 _ j).1),q⟩
def Yo.below{c w:World}{k:CH}{h:GH}{G:Gr}(C:Yo c k h G S w)(a:Below w w w'):Yo c k h G S w' :=
 C.move (P:=λ_=>False) (Off.of_below a) (.of_below a) λb a=>a.elim
def Yo.more{m w:World}{k:CH}{h:GH}{G:Gr}(C:Yo m k h G S w)(a:Below w w w')(r:w.heap.size<=g):Yo m k h G (λb=>S b\/b=g) w':=by
 have f:=C.below a;refine⟨f.base,f.box,f.nul,f.low,f.ne,?_,?_⟩
 ·obtain⟨ts,d⟩:=C.trees;obtain⟨s,t⟩:=C.map_lt;refine⟨ts,d.map.below a,d.key,λp c=>⟨(d.val p c).1.kept (.of_below a) (a.block _ (d.val p c).1.lt),?_⟩⟩;rintro (h1 | h1)
  ·exact (d.val p c).2 h1
  have:=(d.val p c).1.lt;omega
 obtain⟨n,j⟩:=C.forts;refine⟨n,j.map.below a,j.key,λp c=>?_⟩;obtain⟨x,q,l,o⟩:=j.val p c;refine⟨x,q,l.kept (.of_below a) (a.block _ l.lt),?_⟩;rintro (h1 | h1)
 ·exact o h1
 have:=l.lt;omega
def Yo.less{f w:World}{k:CH}{h:GH}{G:Gr}{S':Nat->Prop}(C:Yo f k h G S w)(g:∀b,S' b->S b):Yo f k h G S' w:=by
 refine⟨C.base,C.box,C.nul,C.low,C.ne,?_,?_⟩
 ·obtain⟨ts,c⟩:=C.trees;exact⟨ts,c.map,c.key,λp a=>⟨(c.val p a).1,λh1=>(c.val p a).2 (g _ h1)⟩⟩
 obtain⟨j,d⟩:=C.forts;refine⟨j,d.map,d.key,λp a=>?_⟩;obtain⟨x,n,m,h1⟩:=d.val p a;exact⟨x,n,m,λl=>h1 (g _ l)⟩
end
def Zyq.below{w:World}(h:Zyq w A n c N tab)(a:Below w w w'):Zyq w' A n c N tab:=by
 refine⟨h.1,h.2.1,λl=>?_⟩;obtain⟨b,f,e,d,o⟩:=h.2.2 l;refine⟨b,f,e,AK d a.size,λm k=>?_⟩;obtain⟨g,h1,j⟩:=o m k;exact⟨g,(a.cell (p:=⟨b,f+m,aN⟩) d).trans h1,j.below a⟩
def Zsl(w:World):Calls prog 122 #[] w (RetV w 1):=by
 have g:=Zy w (aC #[K aN 0 0,aB false] 110);have a:=Blk.new w 110 #[K aN 0 0,aB false];have m:(w.alloc (aC #[K aN 0 0,aB false] 110)).heap.size=w.heap.size+1:=Zl _ _;go_enter func122,ntmps122;go_upto_region 1 with fail;generalize w.alloc (aC #[K aN 0 0,aB false] 110)=W at *;obtain⟨d,f,n⟩:=Vb a g (AJ _) (some ⟨w+1,0,aN⟩) 1 1 false;have h:((W.setCell ⟨w,0,aN⟩ (K (some ⟨w+1,0,aN⟩) 1 1)).setCell ⟨w,1,aN⟩ (aB false)).heap.size=w.heap.size+1:=by rw[<-m];simp
 have b:=Zy ((W.setCell ⟨w,0,aN⟩ (K (some ⟨w+1,0,aN⟩) 1 1)).setCell ⟨w,1,aN⟩ (aB false)) (aC #[aI .u32 1] 41);have c:Zq .u32 (((W.setCell ⟨w,0,aN⟩ (K (some ⟨w+1,0,aN⟩) 1 1)).setCell ⟨w,1,aN⟩ (aB false)).alloc (aC #[aI .u32 1] 41)) (some ⟨((W.setCell ⟨w,0,aN⟩ (K (some ⟨w+1,0,aN⟩) 1 1)).setCell ⟨w,1,aN⟩ (aB false)).heap.size,0,aN⟩) 1 1 [1]:=N6 ((W.setCell ⟨w,0,aN⟩ (K (some ⟨w+1,0,aN⟩) 1 1)).setCell ⟨w,1,aN⟩ (aB false)) 41 (nums .u32 [1]) 1 _ rfl rfl AC;rw[h] at c;have j:=LH (Zz d b);have k:=LH (Blk.ext f b);have c0:=a.cell 0;have c1:=a.cell 1;have o:=a.frozen 0;have q:=a.frozen 1;have r:=a.lt;have l:=LH c;clear a g b c d f n h;go_wp2_with fail;refine AW (AX (p:=0) AB _ _ w 110 #[K (some ⟨w+1,0,aN⟩) 1 1,aB false] (0,0) _ rfl k.out underlying110 rfl AB) rfl ?_;refine⟨j.out,_,_,_,_,rfl,?_⟩;unfold Z1;rw[Zw2];exact⟨rfl,l.out⟩
def Ztn(A:Option Addr)(n c N:Nat)(tab:Nat->Nat->Nat)(b:Int)(k:Nat)(w:World)(C:Zyq w A n c N tab)(T:k<n)(S:N<=1000)(af:k<=1000)(z:b<0->-(N:Int)<=b):
 Calls prog 123 #[K A n c,aI aJ b,aI aJ (k:Int)] w (RetV w (Yk tab b k)):=by
 have h:=Zy w (aC #[K aN 0 0,aB false] 110);have a:=Blk.new w 110 #[K aN 0 0,aB false];have D:=C.below h;clear C;go_enter func123,ntmps123;go_upto_region 1 with fail;generalize w.alloc (aC #[K aN 0 0,aB false] 110)=W at *;have c0:=a.cell 0;have c1:=a.cell 1;have P:=a.frozen 0;have R:=a.frozen 1;have V:=a.lt;by_cases h0:0<=b
 ·have U:¬(b<0):=AA
  have l:Yk tab b k=K0 k:=by unfold Yk;rw[if_pos h0]
  have t:=LH l;clear l D z;by_cases x:k=1
  ·subst x;have M:=LH a;have L:=LH h;clear a h;go_wp2_with fail;(with_reducible refine (Zsl W).mono ?_);rintro e B⟨v,o,r,c3,q,rfl,m⟩;have f:=M.out.ext v;have d:=LH (Vb f (Zz L.out v) (AJ _) o r c3 q);have X:=f.cell 0;have Y:=f.cell 1;have Z:=f.frozen 0;have aa:=f.frozen 1;have ai:=f.lt;have u:=LH m;clear c0 c1 P R V f m v;go_wp2_with fail;refine AW (AX (p:=6) AB _ _ w 110 #[K o r c3,aB q] (0,0) _ rfl d.out.2.1 underlying110 rfl AB) rfl ?_;refine⟨d.out.1,_,_,_,_,rfl,?_⟩;rw[t.out];exact u.out.kept d.out.2.2
  have ae:((k:Int)==1)=false:=by rw[AR];omega
  have J:K0 k=0:=by unfold K0;rw[if_neg x]
  have O:=LH J;have d:=LH (Vb a h (AJ _) aN 0 0 false);clear a h J x;go_wp2_with fail;refine AW (AX (p:=6) AB _ _ w 110 #[K aN 0 0,aB false] (0,0) _ rfl d.out.2.1 underlying110 rfl AB) rfl ?_;refine⟨d.out.1,_,_,_,_,rfl,?_⟩;rw[t.out,O.out];exact Z1.zero _ _ _ AA
 have l:Yk tab b k=tab k (Zp b):=by unfold Yk;rw[if_neg h0]
 obtain⟨j,F,G,hw⟩:=Vy (s:=b) (n:=N) AA (z AA) S;rw[G] at l;obtain⟨_,_,E⟩:=D;obtain⟨tb,am,rfl,ag,H⟩:=E AA;obtain⟨g,ab,y⟩:=H k T;obtain⟨o,r,c3,q,q0,q1,m⟩:=y.get (j:=j) (by simp;exact F);have ad:=y.lt;have I:((List.range N).map (tab k)).getD j 0=tab k j:=by rw[AO,BB,List.getElem?_range F];rfl
 rw[I] at m;have t:=LH l;have u:=LH m;have d:=LH (Vb a h (AJ _) o r c3 q);have U:b<0:=AA
 clear l m I H E y a h z G;go_wp2_with fail;refine AW (AX (p:=6) AB _ _ w 110 #[K o r c3,aB q] (0,0) _ rfl d.out.2.1 underlying110 rfl AB) rfl ?_;refine⟨d.out.1,_,_,_,_,rfl,?_⟩;rw[t.out];exact u.out.kept d.out.2.2
def tr_cof(A:Option Addr)(n c:Nat)(d:Int)(w:World):
 Calls prog 223 #[K A n c,aI aJ d] w λe w'=>e = aR (aG #[K A n c,aB (d==2)])/\Below w w w':=by
 have h:=Zy w (aC #[K aN 0 0,aB false] 154);have a:=Blk.new w 154 #[K aN 0 0,aB false];go_enter func223,ntmps223;go_upto_region 1 with fail;generalize w.alloc (aC #[K aN 0 0,aB false] 154)=W at *;have c0:=a.cell 0;have c1:=a.cell 1;have k:=a.frozen 0;have l:=a.frozen 1;have o:=a.lt;obtain⟨b,f⟩:∃b,b=(d==2):=⟨_,rfl⟩;have g:=LH (Uc a h (AJ _) A n c b);have j:=LH f;have m:(d==2)=b:=f.symm;clear a h f;go_wp2_with fail;refine AW (AX (p:=4) AB _ _ w 154 #[K A n c,aB b] (0,0) _ rfl g.out.2.1 underlying154 rfl AB) rfl ?_;exact⟨by rw[j.out],g.out.1⟩
def Zy1(w:World)(t:TypeId)(a b c:Array Value):Below w w (((w.alloc (aC a t)).alloc (aC b t)).alloc (aC c t))/\Blk (((w.alloc (aC a t)).alloc (aC b t)).alloc (aC c t)) w t a /\
 Blk (((w.alloc (aC a t)).alloc (aC b t)).alloc (aC c t)) (w.heap.size+1) t b/\Blk (((w.alloc (aC a t)).alloc (aC b t)).alloc (aC c t)) (w.heap.size+2) t c:=by
 have m:=Zy w (aC a t);have j:=Zy (w.alloc (aC a t)) (aC b t);have d:=Zy ((w.alloc (aC a t)).alloc (aC b t)) (aC c t);have h1:=Blk.new w t a;have l:=Blk.new (w.alloc (aC a t)) t b;have h:=Blk.new ((w.alloc (aC a t)).alloc (aC b t)) t c;have f:(w.alloc (aC a t)).heap.size=w.heap.size+1:=Zl _ _;have k:((w.alloc (aC a t)).alloc (aC b t)).heap.size=w.heap.size+2:=by rw[Zl,f]
 have g:=Blk.ext l d;rw[f] at g;rw[k] at h;exact⟨Zz (Zz m j) d,Blk.ext (Blk.ext h1 j) d,g,h⟩
def tr_exactly(n:Nat)(w:World)(J:n<=1000):Calls prog 221 #[aI aJ (n:Int)] w (RetV w (K0 n)):=by
 have h:=Zy w (aC #[K aN 0 0,aB false] 154);have b:=Blk.new w 154 #[K aN 0 0,aB false];go_enter func221,ntmps221;go_upto_region 1 with fail;generalize w.alloc (aC #[K aN 0 0,aB false] 154)=W at *;have c0:=b.cell 0;have c1:=b.cell 1;have z:=b.frozen 0;have A:=b.frozen 1;have C:=b.lt;by_cases m:n=1
 ·subst m;have k:Hid (K0 1=1):=rfl;have y:=LH b;have t:=LH h;have s:Calls prog 104 #[aI .u64 1] W (Bq W (Zq3 1)):=nat_of 1 W AA;go_wp2_with fail;refine s.mono ?_;rintro e c⟨a,c3,rfl,j,l⟩;have r:Zq3 1=[1]:=rfl;rw[r] at j;simp only[r,CW] at j ⊢;have d:=y.ext l;have o:=LH (Zz t l);have x:=LH j;have D:=d.cell 0;have E:=d.cell 1;have g0:=d.frozen 0;have H:=d.frozen 1;have N:=d.lt;have g:=d.set 0 (K a 1 c3);have u:=LH (o.trans (Zn (Zd c w 0 (K a 1 c3)) o.size (AJ _)));have F:=g.cell 0;have G:=g.cell 1;have v:Hid (Zf c (c.setCell ⟨w,0,aN⟩ (K a 1 c3))):=LH (Zf.of_off (Off.of_set c w 0 (K a 1 c3)) λq B=>by rw[B];exact Jk d);have f:=LH (Uc (A0:=a) (n0:=1) (c0:=c3) (b0:=false) g u (AJ _) a 1 c3 false);have L:=g.frozen 0;have M:=g.frozen 1;have O:=g.lt;go_wp2_with fail;refine AW (AX (p:=2) AB _ _ w 154 #[K a 1 c3,aB false] (0,0) _ rfl f.2.1 underlying154 rfl AB) rfl ?_;refine⟨f.1,_,_,_,_,rfl,?_⟩;rw[k];unfold Z1;rw[Zw2];exact⟨rfl,(x.kept v).kept f.2.2⟩
 have I:((n:Int)==1)=false:=by rw[AR];omega
 have k:Hid (K0 n=0):=LH (by unfold K0;rw[if_neg m]);have f:=LH (Uc b h (AJ _) aN 0 0 false);go_wp2_with fail;refine AW (AX (p:=2) AB _ _ w 154 #[K aN 0 0,aB false] (0,0) _ rfl f.2.1 underlying154 rfl AB) rfl ?_;refine⟨f.1,_,_,_,_,rfl,?_⟩;rw[k];exact Z1.zero _ _ _ AA
def tr_told(A:Option Addr)(n c:Nat)(b:Bool)(x:Nat)(w:World)(h:Z1 w A n c b x):
 Calls prog 98 #[aG #[K A n c,aB b]] w (Xr w (Xm x)):=by
 have o:=Zy w (aC #[K A n c,aB b] 154);have p:=(h.2.below o);have f:=h.2.len;have k:=h.cases;have l:=LH p;have j:=LH o;go_enter func98,ntmps98;rcases k with ⟨d,rfl,ex⟩ | ⟨d,rfl,ex⟩
 ·have a:Xm x=(Zq3 x,0):=by unfold Xm;rw[if_pos d]
  rw[ex] at f l;have g:=LH a;have m:=LH f;go_wp2_with fail;go_ret2;unfold Xr;rw[g];exact⟨A,c,by rw[<-m];rfl,by rw[m];exact l,j⟩
 have a:Xm x=([],2):=by unfold Xm;rw[if_neg d]
 have g:=LH a;go_wp2_with fail;go_ret2;unfold Xr;rw[g];exact⟨aN,0,rfl,Zq.nil _ _ _ _ AA,j⟩
def CRet(a:World)(k:CH)(h:GH)(G:Gr)(S:Nat->Prop)(w:World)(x:Nat)(e:Ending)(w':World):Prop :=
 Yo a k h G S w'/\Off k.maps w w'/\∃A n c d,e = aR (aG #[K A n c,aB d])/\Z1 w' A n c d x
def Zw5(a:World)(k:CH)(h:GH)(G:Gr)(s:Int)(n:Nat):Prop:=∀(S:Nat->Prop) (w:World),Yo a k h G S w->(∀b,S b->b<w.heap.size)->
 Calls Tryz.prog 205 #[aP (some ⟨k.c,0,none⟩),aI aJ s,aI aJ (n:Int)] w (CRet a k h G S w (Zv G s n))
def RuleC(a:World)(k:CH)(h:GH)(G:Gr)(x:Rul)(i d n:Nat):Prop:=∀(S:Nat->Prop) (w:World),Yo a k h G S w->(∀b,S b->b<w.heap.size)->
 Calls Tryz.prog 222 #[aP (some ⟨k.c,0,none⟩),kF i d n] w (CRet a k h G S w (Zx (Zv G) (x.rt.drop d) n))
def OthC(a:World)(k:CH)(h:GH)(G:Gr)(c:World)(gf:FuncId)(d:Array Value)(m x:Nat):Prop:=∀(S:Nat->Prop) (w:World),Yo a k h G S w->(∀b,S b->b<w.heap.size)->Off k.maps c w->
 Calls Tryz.prog gf (#[aI aJ (m:Int)]++d) w (CRet a k h G S w x)
def Yo.cells{w:World}{k:CH}{h:GH}{G:Gr}(C:Yo a k h G S w):k.c<w.heap.size/\k.n<w.heap.size/\w.cell? ⟨k.c,2,aN⟩=some (K h.a3 h.n3 h.c3)/\w.cell? ⟨k.c,4,aN⟩=some (K (some ⟨k.n,0,aN⟩) h.n2 h.n2)/\w.cell? ⟨k.c,5,aN⟩=some (.map (some k.t))/\w.cell? ⟨k.c,6,aN⟩=some (.map (some k.f)) :=
 ⟨C.box.lt,Blk.lt C.nul,C.box.cell 2,C.box.cell 4,C.box.cell 5,C.box.cell 6⟩
def Zta{A:World}{k:CH}{h:GH}{G:Gr}(Al:Option Addr)(p n:Nat)(l:List Int)(w:World)(C:Yo A k h G S w)(f:Za .i64 w Al n p l)(t:(Zj G).length=h.n2)(u:∀s∈l,-(h.n2:Int)<=s/\s<=1000)(r:h.n2<=1000)(W:n<=1000):
 Calls prog 204 #[aP (some ⟨k.c,0,aN⟩),K Al n p] w λe w'=>e = aR (aI aJ (Uy (Zj G) l:Int))/\w=w':=by
 obtain rfl:=f.len;have T:=f.cap;obtain⟨gc,M,O,gf⟩:=k;obtain⟨a1,n1,c1,a2,n2,c2,a3,n3,c3⟩:=h;obtain⟨H,I,_,J,_,_⟩:=C.cells;have m:=LH C.nul;have y:=LH u;have g:=LH t;simp only[] at H I J r m g;clear u t C;go_enter func204,ntmps204;go_wp2_with fail;go_loop [4,9] (λv i=>∃q:Nat,q<=(Q l)/\i = aI aJ (q:Int)/\v = aI aJ (Uy (Zj G) (l.take q):Int)) (λ_ i=>(Q l)-(intOf i).toNat)
 case atStart=>exact⟨0,AV _,rfl,rfl⟩
 obtain⟨q,X,rfl,rfl⟩:=hrel;by_cases E:q<(Q l)
 case pos =>
  obtain⟨L,Z,s,rfl,R,o,q0⟩:=f.get E;obtain⟨F,s2⟩:=y.out s (AM o.out);have a:=lowN_take (N:=Zj G) o.out;have U:=Ztr (Zj G) (l.take q);have V:(l.take q).length<=q:=by rw[BU];omega
  generalize Uy (Zj G) (l.take q)=c at *;by_cases h0:0<=s
  ·have b:Xg (Zj G) s=false:=by unfold Xg;rw[BV AA];rfl
   rw[b] at a;have d:=LH a;clear a b;go_wp2_with fail;go_roundw
   case rel=>exact⟨q+1,AA,AF,by rw[d.out];go_num⟩
   simp[intOf];omega
  obtain⟨j,B,D,Y⟩:=Vy (s:=s) (n:=n2) AA F r;have P:=m.out.at (i:=j) (by rw[g.out];exact B);have b:Xg (Zj G) s=(Zj G).getD j false:=by unfold Xg;rw[DV (AA:s<0),Bool.true_and,D]
  rw[b] at a;have d:=LH a;clear a b;generalize (Zj G).getD j false=z at *;rcases (by cases z <;> simp:z=false\/z=true) with rfl | rfl;all_goals
   go_wp2_with fail;go_roundw
   case rel=>exact⟨q+1,AA,AF,by rw[d.out];go_num⟩
   simp[intOf];omega
 obtain rfl:q=(Q l):=AA
 have x:Hid (Uy (Zj G) (l.take (Q l))=Uy (Zj G) l):=LH (by rw[List.take_length]);generalize Uy (Zj G) (l.take (Q l))=c at *;go_wp2_with fail;go_ret;exact⟨by rw[<-x.out];rfl,rfl⟩
def MidC(a:World)(k:CH)(h:GH)(G:Gr)(S:Nat->Prop)(b X:World):Prop:=Yo a k h G S X/\Off k.maps b X
def Cy(w:World)(a c f:TypeId)(b d g:Array Value):Below w w (((w.alloc (aC b a)).alloc (aC d c)).alloc (aC g f))/\Blk (((w.alloc (aC b a)).alloc (aC d c)).alloc (aC g f)) w a b /\
 Blk (((w.alloc (aC b a)).alloc (aC d c)).alloc (aC g f)) (w.heap.size+1) c d/\Blk (((w.alloc (aC b a)).alloc (aC d c)).alloc (aC g f)) (w.heap.size+2) f g:=by
 have p:=Zy w (aC b a);have m:=Zy (w.alloc (aC b a)) (aC d c);have h:=Zy ((w.alloc (aC b a)).alloc (aC d c)) (aC g f);have h1:=Blk.new w a b;have o:=Blk.new (w.alloc (aC b a)) c d;have l:=Blk.new ((w.alloc (aC b a)).alloc (aC d c)) f g;have j:(w.alloc (aC b a)).heap.size=w.heap.size+1:=Zl _ _;have n:((w.alloc (aC b a)).alloc (aC d c)).heap.size=w.heap.size+2:=by rw[Zl,j]
 have k:=Blk.ext o h;rw[j] at k;rw[n] at l;exact⟨Zz (Zz p m) h,Blk.ext (Blk.ext h1 m) h,k,l⟩
def ForC(a:World)(k:CH)(h:GH)(G:Gr)(Al:Option Addr)(n0 d:Nat)(l:List Int)(n:Nat):Prop:=∀(S:Nat->Prop) (w:World),Yo a k h G S w->(∀b,S b->b<w.heap.size)->
 Calls Tryz.prog 100 #[aP (some ⟨k.c,0,none⟩),K Al n0 d,aI aJ (n:Int)] w (CRet a k h G S w (Zx (Zv G) l n))
def RetStart(h:GH)(G:Gr)(w:World)(e:Ending)(w':World):Prop:=Below w.heap.size w w'/\∃k:CH,e = aR (aP (some ⟨k.c,0,none⟩))/\Yo w k h G (λ_=>False) w'
def cnt_new{b w:World}{k:CH}{h:GH}{G:Gr}(q:Below b b w)(h1:Blk w k.c 211 #[K h.a1 h.n1 h.c1,K h.a2 h.n2 h.c2,K h.a3 h.n3 h.c3,aI aJ G.zt,K (some ⟨k.n,0,aN⟩) h.n2 h.n2,.map (some k.t),.map (some k.f)])(d:Z8 w k.n (Zj G))(g:Vv prog 257 w k.t [])(j:Vv prog 261 w k.f [])(l:k.t≠k.f)(m:b.heap.size<=k.t)(o:b.heap.size<=k.f):Yo b k h G (λ_=>False) w :=
 ⟨q,h1,d,⟨m,o⟩,l,⟨[],⟨g,λp a=>(by cases a),λp a=>(by cases a)⟩⟩,⟨[],⟨j,λp a=>(by cases a),λp a=>(by cases a)⟩⟩⟩
def tr_EqualT(k:Option Addr)(n c1:Nat)(xs:List (Trm))(l:Option Addr)(m c2:Nat)(ys:List (Trm))(w:World)(h1:N8 w k n c1 xs)(c:N8 w l m c2 ys):
 Calls prog 194 #[K k n c1,K l m c2] w λe w'=>∃b,e = aR (aB b)/\(b=true↔xs=ys)/\Below w w w':=by
 have g:=h1.len;have j:=c.len;have N:=h1.cap;have O:=c.cap;have z:=LH h1;have A:=LH c;clear h1 c;by_cases s:n=m
 case neg =>
  have hi:((n:Int) != (m:Int))=true:=by rw[BK];omega
  have v:xs≠ys:=by rintro rfl;omega
  have D:=LH v;clear v s g j;go_enter func194,ntmps194;go_wp2_with fail;go_ret;exact⟨false,rfl,⟨λh=>(by cases h),λh=>absurd h D.out⟩,AP _ _⟩
 have hi:((n:Int) != (m:Int))=false:=by rw[BR];omega
 obtain rfl:n=m:=s;have E:=LH g;have F:=LH j;clear g j;go_enter func194,ntmps194;go_wp2_with fail;clear hi;go_loopw [13] (λi wr=>∃q:Nat,q<=n/\i = aI aJ (q:Int)/\Hid (xs.take q=ys.take q)/\Hid (Below w w wr)) (λi _=>n-(intOf i).toNat)
 case atStart=>exact⟨0,AV _,rfl,LH rfl,LH (AP _ _)⟩
 obtain⟨q,J,rfl,o,a⟩:=hrel;by_cases y:q<n
 case pos =>
  obtain⟨V,W,t,rfl,L,p,p0,P,R⟩:=(z.out.below a.out).get y;obtain⟨X,Y,u,rfl,M,r,S,T,U⟩:=(A.out.below a.out).get y;have I:=Yt wr;by_cases d:t=u
  case neg =>
   have C:Hid (xs≠ys):=LH (λe=>by
    have h1:=p.out;rw[e,r.out] at h1;exact d (by simpa using h1.symm))
   have f:=eq_trm t u;have H:trmB t u=false:=by
    cases h:trmB t u
    ·rfl
    exact absurd (Bf.1 h) d
   rw[H] at f;have G:=Tryz.guardTerm;clear d;go_wp2_with fail;refine Zs AB AB ?_;repeat (go_big_quiet_step (fail))
   refine BJ ?_;rintro _⟨x,rfl⟩;go_wp2_with fail;go_ret;exact⟨false,rfl,⟨λh=>(by cases h),λh=>absurd h C.out⟩,Zz a.out (Zr wr x)⟩
  subst d;have f:=eq_trm t t;rw[Bf.2 rfl] at f;have G:=Tryz.guardTerm;go_wp2_with fail;refine Zs AB AB ?_;repeat (go_big_quiet_step (fail))
  refine BJ ?_;rintro _⟨x,rfl⟩;go_wp2_with fail;go_roundw
  case rel=>exact⟨q+1,AA,AF,LH (Qc o.out p.out r.out),LH (Zz a.out (Zr wr x))⟩
  simp[intOf];omega
 obtain rfl:q=n:=AA
 have B:Hid (xs=ys):=LH (by have:=o.out;rwa [AQ (by rw[E.out];exact AJ _),AQ (by rw[F.out];exact AJ _)] at this);go_wp2_with fail;go_ret;exact⟨true,rfl,⟨λ_=>B.out,λ_=>rfl⟩,a.out⟩
def tr_EqualS(k:Option Addr)(n c1:Nat)(xs:List (ByteArray))(l:Option Addr)(m c2:Nat)(ys:List (ByteArray))(w:World)(h1:Js w k n c1 xs)(c:Js w l m c2 ys):
 Calls prog 195 #[K k n c1,K l m c2] w λe w'=>∃b,e = aR (aB b)/\(b=true↔xs=ys)/\Below w w w':=by
 have g:=h1.len;have j:=c.len;have M:=h1.cap;have N:=c.cap;have z:=LH h1;have A:=LH c;clear h1 c;by_cases s:n=m
 case neg =>
  have hi:((n:Int) != (m:Int))=true:=by rw[BK];omega
  have v:xs≠ys:=by rintro rfl;omega
  have D:=LH v;clear v s g j;go_enter func195,ntmps195;go_wp2_with fail;go_ret;exact⟨false,rfl,⟨λh=>(by cases h),λh=>absurd h D.out⟩,AP _ _⟩
 have hi:((n:Int) != (m:Int))=false:=by rw[BR];omega
 obtain rfl:n=m:=s;have E:=LH g;have F:=LH j;clear g j;go_enter func195,ntmps195;go_wp2_with fail;clear hi;go_loopw [13] (λi wr=>∃q:Nat,q<=n/\i = aI aJ (q:Int)/\Hid (xs.take q=ys.take q)/\Hid (Below w w wr)) (λi _=>n-(intOf i).toNat)
 case atStart=>exact⟨0,AV _,rfl,LH rfl,LH (AP _ _)⟩
 obtain⟨q,I,rfl,o,a⟩:=hrel;by_cases y:q<n
 case pos =>
  obtain⟨P,R,t,rfl,J,p,p0⟩:=(z.out.below a.out).get y;obtain⟨S,T,u,rfl,L,r,O⟩:=(A.out.below a.out).get y;have H:=Yt wr;by_cases d:t=u
  case neg =>
   have C:Hid (xs≠ys):=LH (λe=>by
    have h1:=p.out;rw[e,r.out] at h1;exact d (by simpa using h1.symm))
   have f:(t==u)=false:=by
    cases h:t==u
    ·rfl
    exact absurd (Zx5.1 h) d
   have G:(t.toList==u.toList)=false:=by rw[<-beq_toListBytes];exact f
   clear d;go_wp2_with fail;refine Zs AB AB ?_;repeat (go_big_quiet_step (fail))
   refine BJ ?_;rintro _⟨x,rfl⟩;go_wp2_with fail;go_ret;exact⟨false,rfl,⟨λh=>(by cases h),λh=>absurd h C.out⟩,Zz a.out (Zr wr x)⟩
  subst d;have f:(t==t)=true:=Zx5.2 rfl;have G:(t.toList==t.toList)=true:=by rw[<-beq_toListBytes];exact f
  go_wp2_with fail;refine Zs AB AB ?_;repeat (go_big_quiet_step (fail))
  refine BJ ?_;rintro _⟨x,rfl⟩;go_wp2_with fail;go_roundw
  case rel=>exact⟨q+1,AA,AF,LH (Qc o.out p.out r.out),LH (Zz a.out (Zr wr x))⟩
  simp[intOf];omega
 obtain rfl:q=n:=AA
 have B:Hid (xs=ys):=LH (by have:=o.out;rwa [AQ (by rw[E.out];exact AJ _),AQ (by rw[F.out];exact AJ _)] at this);go_wp2_with fail;go_ret;exact⟨true,rfl,⟨λ_=>B.out,λ_=>rfl⟩,a.out⟩
def tr_EqualI(j:Option Addr)(n c1:Nat)(xs:List (Int))(k:Option Addr)(m c2:Nat)(ys:List (Int))(w:World)(h1:Za .i64 w j n c1 xs)(c:Za .i64 w k m c2 ys):
 Calls prog 217 #[K j n c1,K k m c2] w λe w'=>∃b,e = aR (aB b)/\(b=true↔xs=ys)/\Below w w w':=by
 have f:=h1.len;have g:=c.len;have L:=h1.cap;have M:=c.cap;have y:=LH h1;have z:=LH c;clear h1 c;by_cases r:n=m
 case neg =>
  have hi:((n:Int) != (m:Int))=true:=by rw[BK];omega
  have s:xs≠ys:=by rintro rfl;omega
  have C:=LH s;clear s r f g;go_enter func217,ntmps217;go_wp2_with fail;go_ret;exact⟨false,rfl,⟨λh=>(by cases h),λh=>absurd h C.out⟩,AP _ _⟩
 have hi:((n:Int) != (m:Int))=false:=by rw[BR];omega
 obtain rfl:n=m:=r;have D:=LH f;have E:=LH g;clear f g;go_enter func217,ntmps217;go_wp2_with fail;clear hi;go_loopw [13] (λi wr=>∃q:Nat,q<=n/\i = aI aJ (q:Int)/\Hid (xs.take q=ys.take q)/\Hid (Below w w wr)) (λi _=>n-(intOf i).toNat)
 case atStart=>exact⟨0,AV _,rfl,LH rfl,LH (AP _ _)⟩
 obtain⟨q,H,rfl,l,a⟩:=hrel;by_cases v:q<n
 case pos =>
  obtain⟨O,P,t,rfl,I,o,p0⟩:=(y.out.below a.out).get v;obtain⟨R,S,u,rfl,J,p,N⟩:=(z.out.below a.out).get v;have G:=Yt wr;by_cases d:t=u
  case neg =>
   have B:Hid (xs≠ys):=LH (λe=>by
    have h1:=o.out;rw[e,p.out] at h1;exact d (by simpa using h1.symm))
   have F:(t != u)=true:=by rw[BK];exact d
   clear d;go_wp2_with fail;refine Zs AB AB ?_;repeat (go_big_quiet_step (fail))
   refine BJ ?_;rintro _⟨x,rfl⟩;go_wp2_with fail;go_ret;exact⟨false,rfl,⟨λh=>(by cases h),λh=>absurd h B.out⟩,Zz a.out (Zr wr x)⟩
  subst d;have F:(t != t)=false:=AE
  go_wp2_with fail;refine Zs AB AB ?_;repeat (go_big_quiet_step (fail))
  refine BJ ?_;rintro _⟨x,rfl⟩;go_wp2_with fail;go_roundw
  case rel=>exact⟨q+1,AA,AF,LH (Qc l.out o.out p.out),LH (Zz a.out (Zr wr x))⟩
  simp[intOf];omega
 obtain rfl:q=n:=AA
 have A:Hid (xs=ys):=LH (by have:=l.out;rwa [AQ (by rw[D.out];exact AJ _),AQ (by rw[E.out];exact AJ _)] at this);go_wp2_with fail;go_ret;exact⟨true,rfl,⟨λ_=>A.out,λ_=>rfl⟩,a.out⟩
def two_new(w:World)(t:TypeId)(c1 c2:Array Value):Below w w ((w.alloc (aC c1 t)).alloc (aC c2 t))/\Blk ((w.alloc (aC c1 t)).alloc (aC c2 t)) w t c1/\Blk ((w.alloc (aC c1 t)).alloc (aC c2 t)) (w.heap.size+1) t c2:=by
 have h1:=Blk.new w t c1;have b:=Blk.new (w.alloc (aC c1 t)) t c2;have c:=Zy w (aC c1 t);have a:=Zy (w.alloc (aC c1 t)) (aC c2 t);rw[Zl] at b;exact⟨Zz c a,h1.ext a,b⟩
def tr_rules(At:Option Addr)(d:Nat)(t:Rul)(c:Option Addr)(f:Nat)(u:Rul)(w:World)(h1:Za .i64 w At (Q t.rt) d t.rt)(o:Za .i64 w c (Q u.rt) f u.rt):
 Calls prog 197 #[aG #[aI aJ t.L,K At (Q t.rt) d,aI aJ t.P],aG #[aI aJ u.L,K c (Q u.rt) f,aI aJ u.P]] w λe w'=>∃b,e = aR (aB b)/\(b=true↔t=u)/\Below w w w':=by
 obtain⟨l,j,k⟩:=two_new w 60 #[aI aJ t.L,K At (Q t.rt) d,aI aJ t.P] #[aI aJ u.L,K c (Q u.rt) f,aI aJ u.P];have q:=LH (tr_EqualI At (Q t.rt) d t.rt c (Q u.rt) f u.rt _ (h1.below l) (o.below l));clear h1 o;go_enter func197,ntmps197;go_upto_region 1 with fail;generalize (w.alloc (aC #[aI aJ t.L,K At (Q t.rt) d,aI aJ t.P] 60)).alloc (aC #[aI aJ u.L,K c (Q u.rt) f,aI aJ u.P] 60)=W at *;have m:=LH l;have A:=j.cell 0;have a1:=j.cell 1;have a2:=j.cell 2;have b0:=k.cell 0;have C:=k.cell 1;have D:=k.cell 2;have B:=j.lt;have E:=k.lt;clear j k l;by_cases a:t.L=u.L
 case neg =>
  have y:(t.L==u.L)=false:=by rw[AR];exact a
  have n:Hid (t≠u):=LH λe=>a (by rw[e]);clear a;go_wp2_with fail;go_ret;exact⟨false,rfl,⟨λh=>(by cases h),λh=>absurd h n.out⟩,m.out⟩
 have y:(t.L==u.L)=true:=by rw[BS];exact a
 by_cases g:t.P=u.P
 case neg =>
  have z:(t.P==u.P)=false:=by rw[AR];exact g
  have n:Hid (t≠u):=LH λe=>g (by rw[e]);clear a g;go_wp2_with fail;go_ret;exact⟨false,rfl,⟨λh=>(by cases h),λh=>absurd h n.out⟩,m.out⟩
 have z:(t.P==u.P)=true:=by rw[BS];exact g
 have r:=LH a;have s:=LH g;clear a g;go_wp2_with (go_at_call 217;(with_reducible refine q.out.mono ?_);rintro e F⟨v,rfl,p,x⟩);go_ret;refine⟨v,AE,⟨λh=>Zwu.1 (by unfold rulB;rw[r.out,s.out,p.1 h];simp),λh=>p.2 (by rw[h])⟩,Zz m.out x⟩
def tr_EqualF(z:Option Addr)(n c1:Nat)(xs:List Rul)(A:Option Addr)(m c2:Nat)(ys:List Rul)(w:World)(h1:Dv w z n c1 xs)(c:Dv w A m c2 ys):
 Calls prog 196 #[K z n c1,K A m c2,.func (.func 197) #[] #[]] w λe w'=>∃b,e = aR (aB b)/\(b=true↔xs=ys)/\Below w w w':=by
 have v:=h1.len;have x:=c.len;have k1:=h1.cap;have k2:=c.cap;have T:=LH h1;have U:=LH c;clear h1 c;by_cases I:n=m
 case neg =>
  have hi:((n:Int) != (m:Int))=true:=by rw[BK];omega
  have J:xs≠ys:=by rintro rfl;omega
  have Z:=LH J;clear J I v x;go_enter func196,ntmps196;go_wp2_with fail;go_ret;exact⟨false,rfl,⟨λh=>(by cases h),λh=>absurd h Z.out⟩,AP _ _⟩
 have hi:((n:Int) != (m:Int))=false:=by rw[BR];omega
 obtain rfl:n=m:=I;have L1:=LH v;have L2:=LH x;clear v x;go_enter func196,ntmps196;go_wp2_with fail;clear hi;go_loopw [17] (λi wr=>∃q:Nat,q<=n/\i = aI aJ (q:Int)/\Hid (xs.take q=ys.take q)/\Hid (Below w w wr)) (λi _=>n-(intOf i).toNat)
 case atStart=>exact⟨0,AV _,rfl,LH rfl,LH (AP _ _)⟩
 obtain⟨q,hq,rfl,D,k⟩:=hrel;by_cases L:q<n
 case pos =>
  obtain⟨tb,ax,t,At,a,rfl,ar,E,p0,p1,p2,M⟩:=(T.out.below k.out).get L;obtain⟨s,y,u,j,l,rfl,r,F,O,P,R,N⟩:=(U.out.below k.out).get L;obtain⟨o,f,g⟩:=two_new wr 60 #[aI aJ t.L,K At (Q t.rt) a,aI aJ t.P] #[aI aJ u.L,K j (Q u.rt) l,aI aJ u.P];have d:=Zy wr (aC #[aI aJ t.L,K At (Q t.rt) a,aI aJ t.P] 60);have S:=LH (tr_rules At a t j l u _ (M.below o) (N.below o));have V:=LH (Zz k.out o);have s0:=(d.cell (p:=⟨s,y+q*3,aN⟩) r).trans O;have s1:=(d.cell (p:=⟨s,y+q*3+1,aN⟩) r).trans P;have s2:=(d.cell (p:=⟨s,y+q*3+2,aN⟩) r).trans R;have af:s<(wr.alloc (aC #[aI aJ t.L,K At (Q t.rt) a,aI aJ t.P] 60)).heap.size:=AK r d.size;clear M N;go_upto_region 7 with fail;generalize (wr.alloc (aC #[aI aJ t.L,K At (Q t.rt) a,aI aJ t.P] 60)).alloc (aC #[aI aJ u.L,K j (Q u.rt) l,aI aJ u.P] 60)=W at *;have a0:=f.cell 0;have a1:=f.cell 1;have a2:=f.cell 2;have b0:=g.cell 0;have b1:=g.cell 1;have b2:=g.cell 2;have al:=f.lt;have ap:=g.lt;clear f g o d p0 p1 p2 O P R s0 s1 s2 af;go_wp2_with fail;(with_reducible refine S.out.mono ?_);rintro e w6⟨bq,rfl,H,G⟩;have B:=LH (Zz V.out G);have C:=LH H;clear H G;cases bq
  case false =>
   have Y:Hid (xs≠ys):=LH (λe=>by
    have h1:=E.out;rw[e,F.out] at h1;have c:t=u:=by simpa using h1.symm
    have:=C.out.2 c;cases this)
   go_wp2_with fail;go_ret;exact⟨false,rfl,⟨λh=>(by cases h),λh=>absurd h Y.out⟩,B.out⟩
  have aa:Hid (t=u):=C.out.1 rfl;go_wp2_with fail;go_roundw
  case rel=>exact⟨q+1,AA,AF,LH (Qc D.out E.out (by rw[F.out,aa.out])),B⟩
  simp[intOf];omega
 obtain rfl:q=n:=AA
 have X:Hid (xs=ys):=LH (by have:=D.out;rwa [AQ (by rw[L1.out];exact AJ _),AQ (by rw[L2.out];exact AJ _)] at this);go_wp2_with fail;go_ret;exact⟨true,rfl,⟨λ_=>X.out,λ_=>rfl⟩,k.out⟩
def tr_Same(h k:GH)(A B:Gr)(w:World)(T:Yf w h A)(U:Yf w k B):
 Calls prog 152 #[GV h A.zt,GV k B.zt] w λe w'=>e = aR (aB (eqG A B))/\Below w w w':=by
 obtain⟨a1,n1,c1,a2,n2,c2,a3,n3,c3⟩:=h;obtain⟨j,u,n,l,v,o,m,x,p⟩:=k;have y:=LH T;have z:=LH U;have ad:=Y1.new w 26 ⟨a1,n1,c1,a2,n2,c2,a3,n3,c3⟩ A.zt;have t:=Y1.new (w.alloc (aC #[K a1 n1 c1,K a2 n2 c2,K a3 n3 c3,aI aJ A.zt] 26)) 26 ⟨j,u,n,l,v,o,m,x,p⟩ B.zt;have X:=Zy w (aC #[K a1 n1 c1,K a2 n2 c2,K a3 n3 c3,aI aJ A.zt] 26);have M:=Zy (w.alloc (aC #[K a1 n1 c1,K a2 n2 c2,K a3 n3 c3,aI aJ A.zt] 26)) (aC #[K j u n,K l v o,K m x p,aI aJ B.zt] 26);have ab:(w.alloc (aC #[K a1 n1 c1,K a2 n2 c2,K a3 n3 c3,aI aJ A.zt] 26)).heap.size=w.heap.size+1:=Zl _ _;have L:=ad.below M;have V:=Zz X M;clear T U ad X M;go_enter func152,ntmps152;go_upto_region 1 with fail;generalize (w.alloc (aC #[K a1 n1 c1,K a2 n2 c2,K a3 n3 c3,aI aJ A.zt] 26)).alloc (aC #[K j u n,K l v o,K m x p,aI aJ B.zt] 26)=W at *;rw[ab] at t;have R:=LH L;have S:=LH t;have f:=LH V;have⟨y5,y0,y1,y2,y3⟩:=L;simp only[] at y0 y1 y2 y3;have⟨z5,z0,z1,z2,z3⟩:=t;simp only[] at z0 z1 z2 z3;clear L t ab V;have g:Hid (A≠B->eqG A B=false):=LH λh=>eqG_no h;have N:=LH (tr_EqualT a1 n1 c1 A.T j u n B.T W (y.out.below f.out).T (z.out.below f.out).T);go_wp2_with fail;(with_reducible refine N.out.mono ?_);rintro e W2⟨q1,rfl,Y,q⟩;have H:=LH Y;have c:=LH (Zz f.out q);have D:=LH (R.out.below q);have F:=LH (S.out.below q);clear y0 y1 y2 y3 y5 z0 z1 z2 z3 z5 Y q N R S f;have⟨y5,y0,y1,y2,y3⟩:=D.out;simp only[] at y0 y1 y2 y3;have⟨z5,z0,z1,z2,z3⟩:=F.out;simp only[] at z0 z1 z2 z3;cases q1
 case false =>
  have a:Hid (eqG A B=false):=LH (g.out λe=>by have:=H.out.2 (by rw[e]);cases this);go_wp2_with fail;go_ret;exact⟨by rw[a.out];rfl,c.out⟩
 have H1:Hid (A.T=B.T):=H.out.1 rfl;have O:=LH (tr_EqualS a2 n2 c2 A.O l v o B.O W2 (y.out.below c.out).O (z.out.below c.out).O);clear H;go_wp2_with fail;(with_reducible refine O.out.mono ?_);rintro e W3⟨q2,rfl,Z,r⟩;have I:=LH Z;have d:=LH (Zz c.out r);have E:=LH (D.out.below r);have G:=LH (F.out.below r);clear y0 y1 y2 y3 y5 z0 z1 z2 z3 z5 Z r O D F c;have⟨y5,y0,y1,y2,y3⟩:=E.out;simp only[] at y0 y1 y2 y3;have⟨z5,z0,z1,z2,z3⟩:=G.out;simp only[] at z0 z1 z2 z3;cases q2
 case false =>
  have a:Hid (eqG A B=false):=LH (g.out λe=>by have:=I.out.2 (by rw[e]);cases this);go_wp2_with fail;go_ret;exact⟨by rw[a.out];rfl,d.out⟩
 have H2:Hid (A.O=B.O):=I.out.1 rfl;have P:=LH (tr_EqualF a3 n3 c3 A.U m x p B.U W3 (y.out.below d.out).U (z.out.below d.out).U);clear I;go_wp2_with fail;(with_reducible refine P.out.mono ?_);rintro e W4⟨q3,rfl,aa,s⟩;have J:=LH aa;have C:=LH (Zz d.out s);have ah:=LH (E.out.below s);have ai:=LH (G.out.below s);clear y0 y1 y2 y3 y5 z0 z1 z2 z3 z5 aa s P E G d;have⟨y5,y0,y1,y2,y3⟩:=ah.out;simp only[] at y0 y1 y2 y3;have⟨z5,z0,z1,z2,z3⟩:=ai.out;simp only[] at z0 z1 z2 z3;cases q3
 case false =>
  have a:Hid (eqG A B=false):=LH (g.out λe=>by have:=J.out.2 (by rw[e]);cases this);go_wp2_with fail;go_ret;exact⟨by rw[a.out];rfl,C.out⟩
 have H3:Hid (A.U=B.U):=J.out.1 rfl;clear J;by_cases b:A.zt=B.zt
 case neg =>
  have i4:(A.zt==B.zt)=false:=by rw[AR];exact b
  have a:Hid (eqG A B=false):=g.out λe=>b (by rw[e]);clear b;go_wp2_with fail;go_ret;exact⟨by rw[a.out];rfl,C.out⟩
 have i4:(A.zt==B.zt)=true:=by rw[BS];exact b
 have a:Hid (eqG A B=true):=eqG_yes H1.out H2.out H3.out b;clear b;go_wp2_with fail;go_ret;exact⟨by rw[a.out];rfl,C.out⟩
def Jc.below{w:World}(h:Jc w B A n c N d tab)(b:Below w w w'):Jc w' B A n c N d tab :=
 ⟨B7 h.own b,λg a=>(h.noInt g a).same (b.block g (h.own.lt g a).2),h.nodup,λm g a=>⟨(h.row m g a).1,(h.row m g a).2.below b⟩⟩
def Jc.off{w:World}(h:Jc w B A n c N d tab)(f:Off S w w')(h1:∀b,(K A n c).ownBlock=some b->¬S b)(j:∀g∈d,¬S g)(k:Zf w w'):Jc w' B A n c N d tab :=
 ⟨f.row h.own h1,λg a=>(h.noInt g a).same (f.keep g (h.own.lt g a).2 (h1 g a)),h.nodup,λm g a=>⟨(h.row m g a).1,(h.row m g a).2.kept k (f.keep g (h.row m g a).2.lt (j g (AM a)))⟩⟩
def Jc.snoc{w:World}{k:Option Addr}{l:Nat}{j:List Nat}(h:Jc w B A n c N j tab)(C:w'.ownsRow B 115 1 (K k (n+1) l) (n+1) ((j.map λg=>K (some ⟨g,0,aN⟩) N N)++[K (some ⟨g,0,aN⟩) N N]))(v:w.grownBy w' (K A n c).ownBlock)(z:∀b,(K k (n+1) l).ownBlock=some b->Qf w' b)(p:Vp w g 110 ((List.range N).map (tab n)))(s:B<=g)(y:g∉j):Jc w' B k (n+1) l N (j++[g]) tab:=by
 have o:=Off.of_grown v;have r:Zf w w':=Zf.of_off o λq f=>h.noInt q f;have x:=h.len;refine⟨by rw[DI];exact C,z,?_,λm q f=>?_⟩
 ·rw[List.nodup_append];exact⟨h.nodup,AE,λa t b u e=>y (by rw[<-BO.1 u,<-e];exact t)⟩
 rcases H4 f with ⟨F,f⟩ | ⟨rfl,rfl⟩
 ·obtain⟨h1,d⟩:=h.row m q f;exact⟨h1,d.kept r (o.keep q d.lt λe=>h.apart f e)⟩
 refine⟨s,?_⟩;rw[x];refine p.kept r (o.keep g p.lt λe=>?_);obtain⟨cs,E,h1⟩:=Mg h.own e;obtain⟨D,d,_⟩:=p;unfold Blk at d;rw[h1] at d;injection d with d;injection d with _ h3 _;exact absurd h3 AC
def markd_sl(w:World)(t:TypeId)(b:Nat × Nat)(a:List Value)(n:Nat)(arr:Array Value)(h:arr=a.toArray)(c:(Q a)=n)(f:n<=1000000):Sl (w.alloc (aC arr t b)) (some ⟨w,0,aN⟩) n n a:=by
 subst h;refine⟨c,AJ _,AA,λ_=>⟨_,_,rfl,?_,λj d=>?_⟩⟩
 ·show w.heap.size<(w.heap.push _).size;simp
 rw[BF,World.cell?_alloc_mark];simp
def run_make_cap{P:Program}(t e:TypeId)(k:IntKind)(bytes:Nat)(g:P.underlying t=some (.slice e))(hi:(P.info? e).map (λi=>(i.zero,i.size,i.bytes))=some (some (aI k 0),1,bytes))(n:Nat)(l:bytes*n<=281474976710656)(m:n<=9223372036854775807)(w:World):
 (Instr.makeSlice t (aI aJ 0) (aI aJ (n:Int))).run P w = .ok (K (some ⟨w,0,aN⟩) 0 n) (w.alloc (aC (nums k (List.replicate n 0)).toArray e)):=by
 obtain⟨i,d,j,f,c⟩:=info_parts hi;have b:(i.bytes:Int)*(n:Int)<=281474976710656:=by
  rw[c];have h:((bytes*n:Nat):Int)<=281474976710656:=AA
  rwa [Int.natCast_mul] at h
 have a:=run_make (P:=P) w t e i (aI k 0) g d j .i64 .i64 0 n AA AA b AA;simp only[DH] at a;have h0:Int.toNat 0=0:=rfl;rw[a,f,Eh,h0];simp only[Value.cells,Zui]
def own_cap(w:World)(e:TypeId)(k:IntKind)(n:Nat)(a:List Nat)(c:(Q a)=n)(b:n<=9223372036854775807):
 (w.alloc (aC (nums k a).toArray e)).ownsRow w e 1 (K (some ⟨w,0,aN⟩) 0 n) 0 [] :=
 World.ownsRow_made w _ n (AJ _) (by simpa [maxLen] using b) (by simp[nums,c])
def Zqr(w:World):Zq .u32 (w.alloc (aC #[aI .u32 1] 41)) (some ⟨w,0,aN⟩) 1 1 [1] :=
 (Own.new w 41 .u32 [1]).nums (n:=1) (c:=1) rfl (AJ _) AA
def Tryz.infoVal:(prog.info? 110).map (λi=>(i.zero,i.size,i.bytes))=some (some (aG #[K aN 0 0,aB false]),2,32):=AB
def Zzv(n:Nat)(h:n<=1000)(w:World):
 (Instr.makeSlice 115 (aI aJ (n:Int)) (aI aJ (n:Int))).run prog w = .ok (K (some ⟨w,0,aN⟩) n n) (w.alloc (aC (zeroCells n) 110)):=by
 obtain⟨i,d,g,f,c⟩:=info_parts Tryz.infoVal;have b:(i.bytes:Int)*(n:Int)<=281474976710656:=by rw[c];omega
 have a:=run_make (P:=prog) w 115 110 i (aG #[K aN 0 0,aB false]) underlying115 d g .i64 .i64 n n AA AA b AA;simp only[DH] at a;rw[a,f];simp only[Value.cells,made_vals]
def Tryz.infoI64R:(prog.info? 3).map (λi=>(i.zero,i.size,i.bytes))=some (some (aI aJ 0),1,8):=AB
section
variable {P:Program}
def G5{w:World}{a:Nat × Nat}(c:w.heap[g]? = some (aC cs e a))(h:∀u∈cs.toList,∀k z,u≠aI k z):Qf w g:=by
 intro o k z b;rw[cell_of_row w g o cs e a c] at b;have d:aI k z∈cs.toList:=by
  refine AM (i:=o) ?_;simpa using b
 exact h _ d k z rfl
def noInt_mem{w:World}{a:Nat × Nat}(c:w.heap[g]? = some (aC cs e a))(h:Qf w g):∀u∈cs.toList,∀k z,u≠aI k z:=by
 intro u f k z b;subst b;obtain⟨o,d⟩:=BQ f;refine h o k z ?_;rw[cell_of_row w g o cs e a c];simpa using d
def Zxt{z:Value}(f:∀u∈z.cells.toList,∀k x,u≠aI k x)(q:Nat):∀u∈(Builtin.zeroCells z.cells q).toList,∀k x,u≠aI k x:=by
 intro u b k x a;subst a;unfold Builtin.zeroCells at b;simp only[Array.toList_map,CX,Array.toList_range,BP] at b;obtain⟨i,hi,a⟩:=b;have d:0<z.cells.size:=by
  rcases BW z.cells.size with h | h
  ·rw[h] at hi;omega
  exact h
 have c:=Nat.mod_lt i d;rw[getElem!_pos z.cells (i % z.cells.size) c] at a;exact f _ AE k x a
def Zr7(w:World)(base:Nat)(t ty e:TypeId)(i:TypeInfo)(z:Value)(B:P.underlying t=some (.slice e))(hi:P.info? e=some i)(G:i.zero=some z)(A:Option Addr)(n c:Nat)(xs:List Value)(y:w.ownsRow base e i.size (K A n c) n xs)(a:Addr)(m c2:Nat)(M:0<m)(f:List Value)(q:(Q f)=m*i.size)(v:∀j u,f[j]? = some u->w.cell? (a.add j)=some u)(h1:∀u∈f,u.oneCell'=true)(R:n+m<=9223372036854775807)(D:(n+m)*i.bytes<=140737488355328)(N:∀g,(K A n c).ownBlock=some g->Qf w g)(s:∀u∈f,∀k x,u≠aI k x)(O:∀u∈xs,∀k x,u≠aI k x)(H:∀u∈z.cells.toList,∀k x,u≠aI k x){I:Value}(h:(Builtin.append_ #[t,t] ty #[K A n c,K (some a) m c2]).run P w = .ok I w'):∀g,I.ownBlock=some g->Qf w' g:=by
 rcases y.2 with ⟨C,U⟩ | ⟨g,cap,r,C,S,o,V,T,J,W⟩
 ·injection C with e1 e2 e3;subst e1 e2 e3;have p:=run_append_nil (P:=P) w t ty e i z B hi G a m c2 f q v M AA (by have l:=D;simp only[BF] at l;omega);rw[p] at h;injection h with r1 r2;subst r1 r2;intro g o;have:w.heap.size=g:=by simpa [Value.ownBlock] using o
  subst this;refine G5 (heap_alloc_new w.drew _) λu d=>?_;rw[Array.toList_append,DB] at d;rcases d with d | d
  ·exact s u (by simpa using d)
  exact Zxt H _ u d
 injection C with e1 e2 e3;subst e1 e3;by_cases F:n+m<=c
 ·have L:n*i.size+(Q f)<=r.size:=by rw[q,J,<-Nat.add_mul];exact Es _ F
  have p:=run_append_room (P:=P) w t ty e i B hi g n c r o a m c2 f q v h1 F L;rw[p] at h;injection h with r1 r2;subst r1 r2;intro b l;have:g=b:=by simpa [Value.ownBlock] using l
  subst this;have E:=noInt_mem o (N g rfl);refine G5 (setRow_heap w g r _ e _ o) λu d=>?_;rw[List.toList_toArray,DB,DB] at d;rcases d with (d | d) | d
  ·exact E u (List.mem_of_mem_take d)
  ·exact s u d
  exact E u (List.mem_of_mem_drop d)
 have holds:=y.cells (g:=g) rfl;have p:=run_append_grow (P:=P) w t ty e i z B hi G ⟨g,0,aN⟩ n c xs y.1 holds a m c2 f q v AA AA (growslice_fits AA D);rw[p] at h;injection h with r1 r2;subst r1 r2;intro b l;have:w.heap.size=b:=by simpa [Value.ownBlock] using l
 subst this;refine G5 (heap_alloc_new w.drew _) λu d=>?_;rw[Array.toList_append,Array.toList_append,DB,DB] at d;rcases d with (d | d) | d
 ·exact O u (by simpa using d)
 ·exact s u (by simpa using d)
 exact Zxt H _ u d
end
section
open Ieee
variable {P:Program} {w:World}
def Zqw(base:Nat)(t ty e:TypeId)(z:Value)(bytes:Nat)(v:P.underlying t=some (.slice e))(hi:(P.info? e).map (λi=>(i.zero,i.size,i.bytes))=some (some z,1,bytes))(O:z.cells.size=1)(A:Option Addr)(n c:Nat)(xs:List Value)(p:w.ownsRow base e 1 (K A n c) n xs)(o:Option Addr)(m c2:Nat)(a:List Value)(l:Sl w o m c2 a)(h1:∀u∈a,u.oneCell'=true)(B:n+m<=9223372036854775807)(E:(n+m)*bytes<=140737488355328)(C:base<=w.heap.size):
 ∃f g w',(Builtin.append_ #[t,t] ty #[K A n c,K o m c2]).run P w = .ok (K f (n+m) g) w'/\w'.ownsRow base e 1 (K f (n+m) g) (n+m) (xs++a)/\w.grownBy w' (K A n c).ownBlock /\
  (∀b,(K f (n+m) g).ownBlock=some b->b<w.heap.size->(K A n c).ownBlock=some b):=by
 obtain⟨i,s,N,M,D⟩:=info_parts hi;rcases o with _ | q
 ·have I:m=0:=by
   rcases BW m with h0 | h0
   ·exact h0
   obtain⟨b,R,k,_⟩:=l.2.2.2 (by rw[l.1];exact h0);cases k
  subst I;have J:=BH l.1;subst J;exact⟨A,c,w,Gz base t ty e i v s A n c xs p c2,by simpa using p,⟨rfl,rfl,rfl,AJ _,λ_ _ _=>rfl⟩,λb d _=>d⟩
 have G:∀j u,a[j]? = some u->w.cell? (q.add j)=some u:=by
  intro j u x;have H:j<(Q a):=(AN.1 x).1;obtain⟨b,R,k,_,F⟩:=l.2.2.2 AA;injection k with k;subst k;have:=F j H;rw[x] at this;unfold Addr.add;split
  ·rename_i h0;subst h0;simpa using this
  exact this
 obtain⟨T,w',L,r,y,_,h⟩:=run_append_own_at (P:=P) w base t ty e i z 1 bytes v s N M D O AC _ n xs p q m c2 a (by rw[l.1,Eh]) G h1 (by simpa [maxLen] using B) E C;obtain⟨f,g,rfl⟩:=M3 r;refine⟨f,g,w',L,r,y,λb d S=>?_⟩;rcases h with h | h
 ·rw[<-h];exact d
 rw[h] at d;injection d with d;omega
end
section
open Ieee
open Go.Maps (Keyed IsMap Tidy)
def Zs6{l:List Int}(h1:(Q l)<=100)(j:n<=1000):∃q,keyOf prog 220 (kB l n)=some q:=by
 have a:prog.keyType 220=true:=AB
 have b:prog.cellsOf 220=2:=AB
 have c:prog.cellsOf 3=1:=AB
 have d:prog.cellsOf 9=1:=AB
 have w1:(str (Vr l)).size<=100:=by rw[Zs1];unfold Vr;rw[BI];exact h1
 have g:(Lit.int .i64 (n:Int)).wf=true:=Mb AA AA;have h:(str (Vr l)).size<=maxLen:=by unfold maxLen;omega
 obtain⟨m,f⟩:=Zy5 Tryz.rowKB AC;unfold keyOf kB;rw[f];simp[underlying220,a,Value.formed,b,Program.keyLits,Value.cells,c,d,underlying3,underlying9,g,h]
def Fx.lt{w:World}{b x:Nat}(h:Fx w b x):b<w.heap.size:=by
 obtain⟨A,n,c,d,h1,_⟩:=h;exact h1.lt
end
section
open Go.Maps (Keyed IsMap Tidy)
def Cel.lt{f:Nat}{X:World}{j:Bool}{l:Value}(h:Cel S f X (aP (some ⟨g,0,aN⟩)) j l):g<X.heap.size:=by
 obtain⟨m,A,n,c,d,e,h1,o,a,p⟩:=h;injection e with e;injection e with e;injection e with e _ _;subst e;exact a.lt
end
section
open Go.Maps (Keyed IsMap Tidy)
variable {W0:World} {k:BkH} {h:GH} {G:Gr} {S':Nat->Prop} {w:World} {gR:Nat} {b:Nat->Bool} {u:Nat->Value} {X:World}
variable {P:Program} {w:World}
def run_appendR(base:Nat)(t ty:TypeId)(bytes:Nat)(L:P.underlying t=some (.slice 3))(hi:(P.info? 3).map (λi=>(i.zero,i.size,i.bytes))=some (some (aI aJ 0),1,bytes))(A:Option Addr)(n c:Nat)(xs:List Int)(s:M4 w base A n c xs)(a:Addr)(m c2:Nat)(k:List Int)(hl:(Q k)=m)(hm:0<m)(I:∀j u,(ints .i64 k)[j]? = some u->w.cell? (a.add j)=some u)(V:n+m<=maxLen)(S:(n+m)*bytes<=140737488355328)(aa:base<=w.heap.size):
 ∃M N w',(Builtin.append_ #[t,t] ty #[K A n c,K (some a) m c2]).run P w = .ok (K M (n+m) N) w'/\M4 w' base M (n+m) N (xs++k)/\w.grownBy w' (K A n c).ownBlock /\
  (∀b,(K M (n+m) N).ownBlock=some b->b<w.heap.size->(K A n c).ownBlock=some b):=by
 obtain⟨i,J,T,y,R⟩:=info_parts hi;have D:(ints .i64 k).length=m*1:=by rw[Y9,hl,Eh]
 have h1:∀u∈ints .i64 k,u.oneCell'=true:=Gu _ _;have am:n+m<=9223372036854775807:=by simp only[maxLen] at V;omega
 have H:ints .i64 (xs++k)=ints .i64 xs++ints .i64 k:=by simp[ints]
 obtain⟨v',w',x,G,O,ai⟩:=run_append_own (P:=P) w base t ty 3 i (aI aJ 0) 1 bytes L J T y R rfl AC _ n _ s.1 a m c2 _ D I h1 V S aa;have Y:∀(U:List Int) (q:Nat) (o:Nat) (v:Value),((ints .i64 U).toArray++Builtin.zeroCells (aI aJ 0).cells q)[o]? = some v->∃z,v = aI aJ z:=by
  intro U q o v h;rw[Array.getElem?_append] at h;split at h
  ·rw[DQ] at h;exact Zsj h
  have d:=Array.mem_of_getElem? h;have:v = aI aJ 0:=by
   simp[Builtin.zeroCells,Value.cells] at d;obtain⟨p,_,e⟩:=d;rw[Nat.mod_one] at e;exact e.symm
  exact⟨0,this⟩
 rcases s.1.2 with ⟨e,rfl⟩ | ⟨g,cap,F,e,aj,r,al,ak,ab,an⟩
 ·injection e with e1 _ e2;subst e1 e2;have hx:xs=[]:=BH (by have:=s.1.1;rw[Y9] at this;omega);subst hx;have l:=run_append_nil (P:=P) w t ty 3 i (aI aJ 0) L J T a m c2 _ (by rw[D,y]) I hm AA (by rw[R];rw[BF] at S;omega);rw[l] at x;injection x with hv hw;subst hv hw;simp only[BF] at G ⊢;refine⟨_,_,_,l,⟨by rw[H];exact G,λg r o v f=>?_⟩,O,λb B af=>?_⟩
  ·simp[Value.ownBlock] at r;subst r;rw[cell_of_row _ w _ _ _ _ (heap_alloc_new w.drew _)] at f;exact Y _ _ _ _ f
  simp[Value.ownBlock] at B;omega
 injection e with e1 _ e2;subst e1 e2;have W:∀(o:Nat) (v:Value),F[o]? = some v->∃z,v = aI aJ z:=λo v h=>s.2 g rfl o v (by rw[cell_of_row _ _ _ _ _ _ r];exact h);by_cases X:n+m<=c
 ·have ad:n*i.size+(ints .i64 k).length<=F.size:=by rw[D,ab,y,<-Nat.add_mul];exact Es _ X
  have l:=run_append_room (P:=P) w t ty 3 i L J g n c F r a m c2 _ (by rw[D,y]) I h1 X ad;rw[l] at x;injection x with hv hw;subst hv hw;refine⟨_,_,_,l,⟨by rw[H];exact G,λZ C o v f=>?_⟩,O,λb B _=>B⟩;simp[Value.ownBlock] at C;subst C;rw[cell_of_row _ _ _ _ _ _ (setRow_heap w g F _ _ _ r)] at f;rw[DQ] at f;have d:=AM f;rw[DB,DB] at d;rcases d with (d | d) | d
  ·obtain⟨q,E⟩:=List.mem_iff_getElem?.1 (List.mem_of_mem_take d);exact W q v (by simpa using E)
  ·obtain⟨q,E⟩:=List.mem_iff_getElem?.1 d;exact Zsj E
  obtain⟨q,E⟩:=List.mem_iff_getElem?.1 (List.mem_of_mem_drop d);exact W q v (by simpa using E)
 have holds:∀j u,(ints .i64 xs)[j]? = some u->w.cell? ((⟨g,0,aN⟩:Addr).add j)=some u:=s.1.cells (g:=g) rfl;have l:=run_append_grow (P:=P) w t ty 3 i (aI aJ 0) L J T ⟨g,0,aN⟩ n c _ (by rw[y];exact s.1.1) holds a m c2 _ (by rw[D,y]) I AA AA (by rw[R];exact growslice_fits AA S);rw[l] at x;injection x with hv hw;subst hv hw;refine⟨_,_,_,l,⟨by rw[H];exact G,λZ C o v f=>?_⟩,O,λb B af=>?_⟩
 ·simp[Value.ownBlock] at C;subst C;rw[cell_of_row _ w _ _ _ _ (heap_alloc_new w.drew _)] at f;refine Y (xs++k) (grownCap w (n+m) c 3-(n+m)) o v ?_;rw[H];simpa using f
 simp[Value.ownBlock] at B;omega
end
section
open Go.RowKit Go.Shelf
attribute [local go_sem] Oper.semAt_some
def chunk_in(A:Option Addr)(L cap N:Nat)(a:0<N)(w:World):
 Calls prog 44 #[K A L cap,aI aJ (N:Int)] w λe w' =>
  e = aR (.func (.func 101) #[] #[aP (some ⟨w,0,aN⟩),aP (some ⟨w+1,0,aN⟩)]) /\
  w'=(w.alloc (aC #[K A L cap] 27)).alloc (aC #[aI aJ (N:Int)] 3):=by
 go_enter func44,ntmps44;go_wp2;go_ret;exact⟨rfl,rfl⟩
end
section
open Go.RowKit Go.Shelf
attribute [local go_sem] Oper.semAt_some
open Go.RowKit Go.Shelf
def Zrt(w:World)(v:Value):Below w w ((((w.alloc (aC #[v] 44)).alloc (aC #[K aN 0 0] 44)).alloc (aC #[aI aJ 0] 3)).alloc (aC #[aI aJ 0] 31)) :=
 (((((AP _ _).alloc (AJ _) _).alloc AE _).alloc AG _).alloc AG _)
def Zr4(w:World)(v:Value):((((w.alloc (aC #[v] 44)).alloc (aC #[K aN 0 0] 44)).alloc (aC #[aI aJ 0] 3)).alloc (aC #[aI aJ 0] 31)).heap.size=w.heap.size+1+1+1+1:=AE
end
section
open Go.RowKit Go.Shelf
attribute [local go_sem] Oper.semAt_some
open Go.RowKit Go.Shelf
open Go.RowKit Go.Shelf
attribute [local go_sem] Oper.semAt_some
def Zru{W:World}(h:Below W W a):KeepsOthers W a:=⟨h.size,λk o b _=>(h.block k (Array.getElem?_eq_some_iff.1 b).1).trans b⟩
def Zra{a b:Nat}{W c:World}(h:Below W W c)(d:a<W.heap.size)(f:b<W.heap.size):Zrq a b W c:=⟨h.block a d,h.block b f⟩
end
end
section
variable{G:Gr}{s:Int}{n a b x c g i:Nat}{r:List (Value × Nat)}{w:World}{A:Option Addr}{cs:Array Value}{v:Value}{ops:Array Oper}{rest l:List Oper}{o:Oper}{F:(Nat->Value)->Act}{D:Nat->Value->World->Prop}{fin:(Nat->Value)->World->Prop}{f:WSt->Int->Option (WSt × Nat)}
def F7(left:Int)(Ar:Option Addr)(cr g n:Nat)(ss:List Int)(a:Int)(N:List Bool)(w:World)(v:Za .i64 w Ar (Q ss) cr ss)(l:Z8 w g N)(t:(Q N)=n)(u:n<=1000)(x:∀s∈ss,-(n:Int)<=s/\s<=1000):
 Calls prog 91 #[aG #[aI aJ left,K Ar (Q ss) cr,aI aJ a],K (some ⟨g,0,aN⟩) n n] w λe w'=>e = aR (aB (!ss.any (Cf N)))/\Below w w w':=by
 have d:=Zy w (aC #[aI aJ left,K Ar (Q ss) cr,aI aJ a] 60);have p:=Fl.new w 60 left Ar (Q ss) cr a;go_enter func91,ntmps91;have b:=d.alloc d.size (aC #[K (some ⟨g,0,aN⟩) n n] 103);have q:=p.below (Zy _ (aC #[K (some ⟨g,0,aN⟩) n n] 103));have j:=Blk.new (w.alloc (aC #[aI aJ left,K Ar (Q ss) cr,aI aJ a] 60)) 103 #[K (some ⟨g,0,aN⟩) n n];have k:=Zl w (aC #[aI aJ left,K Ar (Q ss) cr,aI aJ a] 60);rw[k] at j;have⟨z5,z0,z1,z2⟩:=q;clear k;go_wp2_with fail;generalize (w.alloc (aC #[aI aJ left,K Ar (Q ss) cr,aI aJ a] 60)).alloc (aC #[K (some ⟨g,0,aN⟩) n n] 103)=c at *;have m:Zyw 151 #[aP (some ⟨w+1,0,aN⟩)] (aI aJ) c ss (Cf N):=λs y w' f=>by
  have r:w'.cell? ⟨w+1,0,aN⟩=some (K (some ⟨g,0,aN⟩) n n):=by
   have:=Blk.cell (Blk.ext j f) 0;simpa using this
  exact (tr_within1 s (w.heap.size+1) g n N w' r (Blk.ext (Blk.ext l b) f) t u (x s y)).mono λe A h=>⟨h.1,by rw[<-h.2];exact AP _ _⟩
 refine (U1 Ar (Q ss) cr ss 151 _ (Cf N) c enters_within1 (v.below b) m).mono ?_;rintro e z⟨rfl,o⟩;go_wp2_with fail;go_ret;exact⟨rfl,Zz b o⟩
def Zte(h:GH)(G:Gr)(gf:FuncId)(ag:Array Value)(eg:∀args w,(callFunc gf args).run prog w = .ok (.enter gf args) w)(ids:Rul->List Bool->List Int)(g n:Nat)(d:List Bool)(z w:World)(J:Yf z h G)(al:Below z z w)(b3:z.heap.size<=g)(hn:n<=1000)(O:Z8 w g d)(V:(Q d)=n)(h3:h.n3<=1000)(ax:∀r∈G.U,∀N,(Q N)=n->∀s∈ids r N,0<=s/\s<(n:Int))(a4:∀r∈G.U,∀Ar cr N w',w.grownBy w' (some g)->Za .i64 w' Ar (Q r.rt) cr r.rt->Z8 w' g N->(Q N)=n->
   Calls prog gf (#[aG #[aI aJ r.L,K Ar (Q r.rt) cr,aI aJ r.P],K (some ⟨g,0,aN⟩) n n]++ag) w' λe bf=>Below w' w' bf/\∃A m c,e = aR (K A m c)/\Za .i64 bf A m c (ids r N)/\Apart A g):
 Calls prog 148 #[GV h G.zt,K (some ⟨g,0,aN⟩) n n,.func (.func gf) #[] ag] w λe w' =>
  e = aR (K (some ⟨g,0,aN⟩) n n)/\w.grownBy w' (some g)/\Z8 w' g (Z3 (Yy ids G.U) n d):=by
 obtain⟨a1,n1,c1,a2,n2,c2,a3,n3,c3⟩:=h;have e3:(Q G.U)=n3:=J.U.len;have k3:=J.U.cap;simp only[] at h3 k3;have Hg:=LH J;have bs:=LH ax;have bv:=LH a4;have Z:=LH al;have av:=Xz (some g) (Zy w (aC #[K a1 n1 c1,K a2 n2 c2,K a3 n3 c3,aI aJ G.zt] 26));have ar:=Y1.new w 26 ⟨a1,n1,c1,a2,n2,c2,a3,n3,c3⟩ G.zt;have am:=Blk.new w 26 #[K a1 n1 c1,K a2 n2 c2,K a3 n3 c3,aI aJ G.zt];have ak:Z8 (w.alloc (aC #[K a1 n1 c1,K a2 n2 c2,K a3 n3 c3,aI aJ G.zt] 26)) g d:=Blk.ext O (Zy _ _);have cm:g<w.heap.size:=O.lt;go_enter func148,ntmps148;have⟨z5,z0,z1,z2,z3⟩:=ar;simp only[] at z0 z1 z2 z3;go_wp2_with fail;generalize w.alloc (aC #[K a1 n1 c1,K a2 n2 c2,K a3 n3 c3,aI aJ G.zt] 26)=W0 at *;go_loopg [7] (n+2) (λq v wr=>∃(m:Nat) (b:Bool),v = aB b/\q+m=n+2/\Hid (b=true->m<=n)/\w.grownBy wr (some g)/\Blk wr w 26 #[K a1 n1 c1,K a2 n2 c2,K a3 n3 c3,aI aJ G.zt]/\Z8 wr g (Z3 (Yy ids G.U) m d) /\
  Hid (b=false->Yy ids G.U (Z3 (Yy ids G.U) m d)=Z3 (Yy ids G.U) m d))
 case atStart=>exact⟨0,true,rfl,AA,LH λ_=>AA,av,am,ak,LH λh=>by cases h⟩
 obtain⟨m,b,rfl,hq,Hm,k,l,a,aa⟩:=hrel;have x2:=Blk.cell l 2;simp only[DQ,List.getElem?_cons_zero,List.getElem?_cons_succ] at x2;rcases (by cases b <;> simp:b=false\/b=true) with rfl | rfl
 ·have au:=aa rfl;have B:=(Wn ids G.U).fix d;rw[V] at B;rw[iter_done B au] at a;have HT:=LH a;go_wp2_with fail;go_ret;exact⟨rfl,k,HT⟩
 have cp:=Hm rfl;go_wp2_with fail;have b0:(Z3 (Yy ids G.U) m d).length=n:=by rw[Dw];exact V
 have ab:Hid (Yy ids G.U (Z3 (Yy ids G.U) m d)=Z3 (Yy ids G.U) (m+1) d):=rfl;have bu:Hid (Yy ids G.U (Z3 (Yy ids G.U) m d)≠Z3 (Yy ids G.U) m d->m<n):=LH λW=>by
  have B:=(Wn ids G.U).fix d;rw[V] at B;exact iter_more B W
 generalize Z3 (Yy ids G.U) m d=N at *;go_loopw [7,9,16] (λv _ i u=>∃(j:Nat),j<=n3/\i = aI aJ (j:Int)/\v = aB (L6 N (Yy ids (G.U.take j) N))/\w.grownBy u (some g)/\Blk u w 26 #[K a1 n1 c1,K a2 n2 c2,K a3 n3 c3,aI aJ G.zt]/\Z8 u g (Yy ids (G.U.take j) N)) (λ_ _ i _=>n3-(intOf i).toNat)
 case atStart=>exact⟨0,AV _,rfl,by rw[show Yy ids (G.U.take 0) N=N from rfl,Zwk],k,l,a⟩
 obtain⟨j,hj,rfl,rfl,k,l,a⟩:=hrel;by_cases b6:j<n3
 ·obtain⟨bb,ca,r,Ar,cr,rfl,hb,Hr,q0,q1,q2,a6⟩:=Hg.U.get b6;have ah:Below z z wr:=Z.trans (Zn k Z.size b3);rw[<-ah.cell (by exact hb)] at q0 q1 q2;have a0:=AM Hr;have T:(Yy ids (G.U.take j) N).length=n:=by rw[Zzs];exact b0
  have C:Yy ids (G.U.take (j+1)) N=Jz (Yy ids (G.U.take j) N) (ids r (Yy ids (G.U.take j) N)):=by rw[Ya Hr,Zwt];rfl
  have ay:LeB N (Yy ids (G.U.take j) N):=passI_le ids _ N;have E:=LH C;have bt:=LH ay;generalize Yy ids (G.U.take j) N=f at *;have F:=Zy wr (aC #[aI aJ r.L,K Ar (Q r.rt) cr,aI aJ r.P] 60);have U:=Zc k (Xz (some g) F);have an:=Blk.ext l F;have P:Z8 (wr.alloc (aC #[aI aJ r.L,K Ar (Q r.rt) cr,aI aJ r.P] 60)) g f:=Blk.ext a F;have a7:=(a6.below ah).below F;have a8:=Fl.new wr 60 r.L Ar (Q r.rt) cr r.P;have⟨u5,u0,u1,u2⟩:=a8;have hC:=bv r a0 Ar cr f _ U a7 P T;have hL:=bs r a0 f T;generalize ids r f=L at *;have Y:=LH hC;have HL:=LH hL;go_wp2_with (go_at_fn gf;refine Y.mono ?_;rintro e X⟨S,Ai,D,ci,rfl,H,aq⟩);generalize wr.alloc (aC #[aI aJ r.L,K Ar (Q r.rt) cr,aI aJ r.P] 60)=W1 at *;have b4:=Zc U (Xz (some g) S);have ao:=Blk.ext an S;have R:Z8 X g f:=Blk.ext P S;have cj:(Q L)=D:=H.len;have ch:=H.cap;have HI:=LH H;have bl:=LH aq;have bq:=LH b4;have cn:g<X.heap.size:=R.lt;go_loopw [7,11,25] (λv _ i u=>∃(p:Nat),p<=D/\i = aI aJ (p:Int)/\v = aB (L6 N (Jz f (L.take p)))/\X.grownBy u (some g)/\Blk u w 26 #[K a1 n1 c1,K a2 n2 c2,K (some ⟨bb,ca,aN⟩) n3 c3,aI aJ G.zt]/\Z8 u g (Jz f (L.take p))) (λ_ _ i _=>D-(intOf i).toNat)
  case atStart=>exact⟨0,AV _,rfl,rfl,Jl _ _,ao,R⟩
  obtain⟨p,hp,rfl,rfl,k,l,a⟩:=hrel;by_cases b7:p<D
  ·obtain⟨ib,io,s,rfl,b5,Hs,b8⟩:=HI.get b7;have W:=bl ib io rfl;have q3:=(Zrj k (b:=ib) (o:=io+p) b5 W).trans b8;obtain⟨s1,s2⟩:=HL s (AM Hs);obtain⟨t,rfl⟩:∃t:Nat,s=(t:Int):=⟨s.toNat,AA⟩;have C:Jz f (L.take (p+1))=(Jz f (L.take p)).set t true:=by rw[Ya Hs,Zw9];simp
   have b2:(Jz f (L.take p)).length=n:=by rw[Zwc];exact T
   have az:LeB N (Jz f (L.take p)):=bt.trans (F5 f _);have aw:=grew_set az (i:=t) AA;have ck:=a.at (i:=t) AA;have a5:=a.put t true;have cl:=Blk.frozen a t;have ap:=l.other g t (aB true) AA;have E:=LH C;have br:=LH aw;have bw:=LH a5;have bk:=LH ap;have bp:=LH k;have cu:t<n:=AA
   generalize (Jz f (L.take p)).getD t false=x at *;generalize L6 N (Jz f (L.take p))=y at *;rcases (by cases y <;> simp:y=false\/y=true) with rfl | rfl;all_goals
    go_wp2_with fail;go_roundw
    case rel=>exact⟨p+1,AA,AF,by rw[E,br];simp,Zc bp (Zd _ _ _ _),bk,by rw[E];exact bw⟩
    simp[intOf];omega
  obtain rfl:p=D:=AA
  rw[AQ AA] at a ⊢;rw[<-E] at a ⊢;go_wp2_with fail;go_roundw
  case rel=>exact⟨j+1,AA,AF,rfl,Zc bq k,l,a⟩
  simp[intOf];omega
 obtain rfl:j=n3:=AA
 rw[AQ AA] at a ⊢;have bn:Hid (L6 N (Yy ids G.U N)=true->m+1<=n):=LH λM=>by
  have:m<n:=bu (by intro I;rw[I,Zwk] at M;cases M);omega
 have bo:Hid (L6 N (Yy ids G.U N)=false->Yy ids G.U (Z3 (Yy ids G.U) (m+1) d)=Z3 (Yy ids G.U) (m+1) d):=LH λM=>by
  have I:Yy ids G.U N=N:=by simpa [L6] using M
  rw[<-ab,I,I]
 generalize L6 N (Yy ids G.U N)=y at *;rw[ab] at a;go_wp2_with fail;go_roundg (n+1-m)
 case rel=>exact⟨m+1,y,rfl,AA,bn,k,l,a,bo⟩
 omega
def tr_prod1(r:Rul)(Ar:Option Addr)(cr g n:Nat)(N:List Bool)(w:World)(D:Za .i64 w Ar (Q r.rt) cr r.rt)(p:Z8 w g N)(B:(Q N)=n)(C:n<=1000)(E:∀s∈r.rt,-(n:Int)<=s/\s<=1000):
 Calls prog 149 #[aG #[aI aJ r.L,K Ar (Q r.rt) cr,aI aJ r.P],K (some ⟨g,0,aN⟩) n n] w λe w'=>Below w w w'/\∃A m c,e = aR (K A m c)/\Za .i64 w' A m c (Bn r N)/\Apart A g:=by
 have F:g<w.heap.size:=p.lt;have l:=Zy w (aC #[aI aJ r.L,K Ar (Q r.rt) cr,aI aJ r.P] 60);have y:=Fl.new w 60 r.L Ar (Q r.rt) cr r.P;have t:=Zty N r.rt;go_enter func149,ntmps149;have⟨z5,z0,z1,z2⟩:=y;have a:=λw' (q:Below w w w')=>F7 r.L Ar cr g n r.rt r.P N w' (D.below q) (Blk.ext p q) B C E;generalize (!r.rt.any (Cf N))=f at *;have k:Hid (Bn r N=if f then [r.L] else []):=LH (by unfold Bn;rw[t]);have u:=LH a;clear a t;go_wp2_with fail;generalize w.alloc (aC #[aI aJ r.L,K Ar (Q r.rt) cr,aI aJ r.P] 60)=x at *;have a:=(u x l).mono λe w' j=>And.intro j.1 (And.intro (Jd j.2).1 (LH (Zz l j.2)));have v:=LH a;clear a;refine v.out.mono ?_;rintro e G⟨rfl,z,d⟩;have H:=(z _ 0 z5).trans z0;rcases (by cases f <;> simp:f=false\/f=true) with rfl | rfl
 ·go_wp2_with fail;go_ret;exact⟨d,aN,0,0,rfl,by rw[k];exact Za.nil _ _ _ _ AA,λb o h=>by cases h⟩
 go_wp2_with fail;go_ret;refine⟨d.alloc d.size _,_,1,1,rfl,by rw[k];exact Ztd _ _ _,λb o h=>?_⟩;injection h with h;injection h with h _;have:=d.size;omega
def tr_reach1(r:Rul)(Ar:Option Addr)(cr g x d n:Nat)(N P:List Bool)(w:World)(I:Za .i64 w Ar (Q r.rt) cr r.rt)(D:Z8 w g N)(V:Z8 w x P)(H:w.cell? ⟨d,0,aN⟩=some (K (some ⟨x,0,aN⟩) n n))(hn:(Q N)=n)(ax:(Q P)=n)(aw:n<=1000)(hl:0<=r.L/\r.L<(n:Int))(J:∀s∈r.rt,-(n:Int)<=s/\s<=1000)(a3:(Q r.rt)<=1000):
 Calls prog 150 #[aG #[aI aJ r.L,K Ar (Q r.rt) cr,aI aJ r.P],K (some ⟨g,0,aN⟩) n n,aP (some ⟨d,0,aN⟩)] w λe w'=>Below w w w'/\∃A m c,e = aR (K A m c)/\Za .i64 w' A m c (Yp P r N)/\Apart A g:=by
 have a1:g<w.heap.size:=D.lt;have ap:d<w.heap.size:=World.block_lt_of_cell? w ⟨d,0,aN⟩ H;have j:=Zy w (aC #[aI aJ r.L,K Ar (Q r.rt) cr,aI aJ r.P] 60);have E:=Fl.new w 60 r.L Ar (Q r.rt) cr r.P;have ae:=Zty P r.rt;obtain⟨a,Z⟩:∃a:Nat,r.L=(a:Int):=⟨r.L.toNat,AA⟩;have aq:a<n:=AA
 have W:(w.alloc (aC #[aI aJ r.L,K Ar (Q r.rt) cr,aI aJ r.P] 60)).cell? ⟨g,a,aN⟩=some (aB (N.getD a false)):=Z8.at (Blk.ext D j) (by rw[hn];exact aq);have ab:(w.alloc (aC #[aI aJ r.L,K Ar (Q r.rt) cr,aI aJ r.P] 60)).cell? ⟨d,0,aN⟩=some (K (some ⟨x,0,aN⟩) n n):=(j.cell (p:=⟨d,0,aN⟩) ap).trans H;have f:=λw' (X:Below w w w')=>F7 r.L Ar cr x n r.rt r.P P w' (I.below X) (Blk.ext V X) ax aw J;have ad:Yp P r N=if N.getD a false&&Xj true P r.rt then Uq r.rt else []:=by unfold Yp Dr;rw[show r.L.toNat=a by omega]
 rw[ae] at f;have C:=LH ad;have S:=LH I;have z:=LH f;have Hs:=LH J;rw[Z] at W ab j E z;clear ad f ae I J D V H hl;rw[Z];go_enter func150,ntmps150;have⟨z5,z0,z1,z2⟩:=E;go_upto_region 1 with fail;generalize w.alloc (aC #[aI aJ (a:Int),K Ar (Q r.rt) cr,aI aJ r.P] 60)=W0 at *;have O:=LH j;have f:=(z W0 j).mono λe w' G=>And.intro G.1 (And.intro (Jd G.2).1 (LH (Zz O G.2)));have M:=LH f;have a0:=S.cap;clear f z j E;generalize N.getD a false=y at *;generalize Xj true P r.rt=L at *;rcases (by cases y <;> cases L <;> simp:y=false\/(y=true/\L=false)\/(y=true/\L=true)) with rfl | ⟨rfl,rfl⟩ | ⟨rfl,rfl⟩
 ·go_wp2_with fail;go_ret;exact⟨O,aN,0,0,rfl,by rw[C];exact Za.nil _ _ _ _ AA,λb o h=>by cases h⟩
 ·go_wp2_with (go_at_call 91;refine M.out.mono ?_;rintro e w2⟨rfl,F,B⟩);go_ret;exact⟨B,aN,0,0,rfl,by rw[C];exact Za.nil _ _ _ _ AA,λb o h=>by cases h⟩
 go_wp2_with (go_at_call 91;refine M.out.mono ?_;rintro e w2⟨rfl,F,B⟩;have x1:=(F _ 1 z5).trans z1);have ai:=LH Tryz.infoI64C;clear F x1 z0 z1 z2 z5 W ab;go_loopw [5,23] (λv i wr=>∃(k m c:Nat) (A:Option Addr),v = K A m c/\i = aI aJ (k:Int)/\k<=(Q r.rt)/\m<=k/\Hid (m=(Uq (r.rt.take k)).length)/\Hid (wr.ownsRow w 3 1 (K A m c) m (ints .i64 (Uq (r.rt.take k))))/\Hid (Below w w wr)) (λ_ i _=>(Q r.rt)-(intOf i).toNat)
 case atStart=>exact⟨0,0,0,aN,rfl,rfl,AV _,AJ _,LH rfl,LH (BL _ _ _ _),B⟩
 obtain⟨k,m,c,A,rfl,rfl,hk,hm,R,u,q⟩:=hrel;have ao:w.heap.size<=wr.heap.size:=q.size;by_cases ar:k<(Q r.rt)
 ·obtain⟨sb,so,s,rfl,a6,T,qs⟩:=(S.below q).get ar;have a5:=Hs s (AM T);have l:=Zxl T;by_cases U:s<0
  ·have a7:IntKind.i64.wrap (-1-s)=-1-s:=BZ _ AA;rw[if_pos U] at l;have t:=LH l;clear l;go_wp2_with (first
    | (at_builtin;refine Ye rfl _ _ 30 rfl w 3 _ 1 8 underlying30 ai AC AC A m c (ints .i64 (Uq (r.rt.take k))) rfl u [aI aJ (-1-s)] rfl rfl (by simp[Value.oneCell']) AA AA AA ?_;intro A4 c4 w4 ho Y ha
       have aj:=LH ho;have ag:=LH (X6 q Y u ao);clear ho Y ha))
   go_roundw
   case rel=>exact⟨k+1,m+1,c4,A4,rfl,AF,AA,AA,LH (by rw[t,R];simp),LH (by rw[t,Gj];exact aj),ag⟩
   simp[intOf];omega
  rw[if_neg U] at l;have t:=LH l;clear l;go_wp2_with fail;go_roundw
  case rel=>exact⟨k+1,m,c,A,rfl,AF,AA,AA,LH (by rw[t];exact R),LH (by rw[t];exact u),q⟩
  simp[intOf];omega
 have Hf:Hid (Za .i64 wr A m c (Yp P r N)):=LH (by
  have:=Yl u;rw[AQ AA] at this;rw[C];exact this)
 go_wp2_with fail;go_ret;refine⟨q,A,m,c,rfl,Hf,λb o h=>?_⟩;have:=u.lt b (by rw[h];rfl);omega
def Jw(a:Xq G)(h:Zv G s 0≠0):Xg (Zj G) s=true:=Ms a.fits _ h
def Ym(n:Nat)(h:n<big):Zm (Zq3 n)=true:=by
 have h1:(Zq3 n).length<=32:=(Vt n 32).2 (by rw[<-Zwf];exact h);simp only[Zm,h1,decide_true,Bool.true_and,Cs,decide_eq_true_eq,BK,ne_eq];rcases List.eq_nil_or_concat (Zq3 n) with h0 | ⟨ys,x,a⟩
 ·simp[h0]
 rw[List.concat_eq_append] at a;right;rw[a];simpa using Fk n ys x a
def Nw(a b:Nat)(c:a<big)(d:b<big):N9 (Zq3 a) (Zq3 b)=Xm (a*b):=by
 simp[N9,Ym a c,Ym b d,Yd]
def Nz(a b:Nat)(c:a<big)(d:b<big):Mu (Zq3 a) (Zq3 b)=Xm (a+b):=by
 simp[Mu,Ym a c,Ym b d,Yd]
def Zxn(xs ys:List Nat)(i:Nat):Lim (V4 xs ys i).1:=by
 induction i with
 | zero=>exact Lim.nil
 | succ i a=>exact a.append (Lim.mk (Nat.mod_lt _ AC) Lim.nil)
def Lq:(Zq3 n).length=0↔n=0:=by
 constructor
 ·intro h;have h1:=BH h;have a:=Yd n;rw[h1] at a;exact a.symm
 rintro rfl;rfl
def rule_next(c:Xq G){r:Rul}{q:Int}(f:r.rt[a]? = some q){m k:Nat}(o:m<=n)(l:k<=m)(d:m=n->∀(p:Nat) s,p<a->r.rt[p]? = some s->Xg (Zj G) s=true)(g:Zv G q k≠0):m-k=n->∀(p:Nat) s,p<a+1->r.rt[p]? = some s->Xg (Zj G) s=true:=by
 intro j p s t b;rcases (AA:p<a\/p=a) with h | rfl
 ·exact d AA p s h b
 rw[f] at b;obtain rfl:=BM b;obtain rfl:k=0:=AA
 exact Jw c g
def Z1.over(w:World){z:Nat}(h:¬z<big):Z1 w aN 0 0 true z:=by
 unfold Z1;rw[Wl h];exact⟨rfl,Zq.nil _ _ _ _ AA⟩
def Wx(x:Nat):Lim (Vk x).1:=by
 unfold Vk;split
 ·exact Z9 x
 exact λy a=>by cases a
def Zvu(c:a<big)(d:b<big):Vq (Zq3 a) (Zq3 b)=Vm a b:=by
 simp[Vq,Ym a c,Ym b d,Yd]
def Zw6(c:a<big)(d:b<=a):Mw (Zq3 a) (Zq3 b)=(Zq3 (a-b),0):=by
 have h:¬a<b:=AA
 simp[Mw,Ym a c,Ym b (En d c),Yd,h]
def Zv2(c:a<big)(d:b<big)(h0:0<b):M2 (Zq3 a) (Zq3 b)=(Zq3 (a / b),Zq3 (a % b),0):=by
 have f:Zq3 b≠[]:=λe=>by have:=Lq.1 (by rw[e];rfl:(Zq3 b).length=0);omega
 simp[M2,Ym a c,Ym b d,Yd,f]
def Bk{y:Nat}(m:x≠0)(o:y≠0):∃d g,N9 (Vk x).1 (Vk y).1=(d,g)/\∀(w:World) (A:Option Addr) (c:Nat),Zq .u32 w A (Q d) c d->Z1 w A (Q d) c ((Vk x).2 || ((Vk y).2 || ((g:Int) != 0))) (x*y):=by
 have n:x<=x*y:=Nat.le_mul_of_pos_right x AA;have p:y<=x*y:=Nat.le_mul_of_pos_left y AA;have f:Zm ([]:List Nat)=true:=AC
 have k:val ([]:List Nat)=0:=rfl;have l:0<big:=Zsx;have j:Xm 0=([],0):=by unfold Xm;rw[if_pos l,BH (Lq.2 rfl)]
 by_cases h1:x<big
 ·by_cases b:y<big
  ·rw[Z7 h1,Z7 b,Nw x y h1 b];rcases F8 (x*y) with ⟨a,e⟩ | ⟨a,e⟩
   ·exact⟨_,_,e,λw A c h=>⟨by rw[Z7 a];rfl,by rw[Z7 a];exact h⟩⟩
   exact⟨_,_,e,λw A c h=>⟨by rw[Wl a];rfl,by rw[Wl a];exact h⟩⟩
  have a:¬x*y<big:=AA
  rw[Z7 h1,Wl b];refine⟨[],0,by simp[N9,f,k,j,Ym x h1],λw A c h=>⟨by rw[Wl a];rfl,by rw[Wl a];exact h⟩⟩
 have a:¬x*y<big:=AA
 rw[Wl h1];refine⟨[],0,?_,λw A c h=>⟨by rw[Wl a];rfl,by rw[Wl a];exact h⟩⟩;have:Zm (Vk y).1=true:=by
  by_cases b:y<big
  ·rw[Z7 b];exact Ym y b
  rw[Wl b];exact f
 simp[N9,f,k,j,this]
def bitLen_big(v:Nat)(h:v<big):bitLen v<=1024:=by
 rcases BD 1024 (bitLen v) with h1 | h1
 ·have a:=bit_in (Zq3 v) (Z9 v) 1024 (by rw[Yd];exact h1);have b:=Ut _ (Ym v h);omega
 exact h1
def one_cmp(xs:List Nat)(r:Zm xs=true)(t:Nat)(a:t<big):decide (Vq (Zq3 t) xs<0)=decide (t<val xs):=by
 rw[decide_eq_decide];simp only[Vq,r,Ym t a,Bool.and_self,if_true,Yd,Vm];split
 ·simp[*]
 split <;> simp[*]
def limbs0:Zq3 0=[]:=List.length_eq_zero_iff.1 (Lq.2 rfl)
section
open Go.RowKit Go.Maps
def cf_terms(A:Option Addr)(n c:Nat)(l:List Trm)(w:World)(h:N8 w A n c l)(hn:n<=1000)(V:∀t∈l,t.name.size<=maxLen):
 Calls prog 81 #[K A n c] w λe w'=>e = aR (aB (H0 l))/\Below w w w':=by
 obtain rfl:=h.len;have a3:=h.cap;have Hs:=LH V;have Hh:=LH h;clear V;go_enter func81,ntmps81;go_wp2_with fail;go_loopw [4,7] (λ_ i wr=>∃(k:Nat),k<=(Q l)/\i = aI aJ (k:Int)/\Below w w wr/\Hid (∀j,j<k->∀y,l[j]? = some y->(!Up y)=false)) (λ_ i _=>(Q l)-(intOf i).toNat)
 case atStart=>exact⟨0,AV _,rfl,AP _ _,LH λj hj=>AA⟩
 obtain⟨k,hk,rfl,f,N⟩:=hrel;by_cases ar:k<(Q l)
 ·obtain⟨b,a6,t,rfl,hb,C,q0,q1,q2⟩:=h.get ar;rw[<-f.cell (by exact hb)] at q0 q1 q2;have W:=Hs.out t (AM C.out);have G:=f.alloc f.size (aC #[aS t.name,aI aJ t.V,aI aJ t.S] 140);have p0:=Wg wr 140 #[aS t.name,aI aJ t.V,aI aJ t.S] 0;have v:=Wg wr 140 #[aS t.name,aI aJ t.V,aI aJ t.S] 1;have J:=Wg wr 140 #[aS t.name,aI aJ t.V,aI aJ t.S] 2;have p5:=Zl wr (aC #[aS t.name,aI aJ t.V,aI aJ t.S] 140);simp only[DQ,List.getElem?_cons_zero,List.getElem?_cons_succ] at p0 v J;go_wp2_with fail;generalize wr.alloc (aC #[aS t.name,aI aJ t.V,aI aJ t.S] 140)=O at *;have m:wr.heap.size<O.heap.size:=AA
  clear p5 q0 q1 q2;generalize wr.heap.size=gt at *;have q:=LH ((cf_named t.name O W).mono λe w' I=>And.intro I.1 (And.intro (Jd I.2).1 (LH (G.trans (I.2.mono G.size)))));have P:=λw=>Jx t.V 0 24 w;have R:=λw=>Jx t.S 0 3 w;have U:Up t=(Q7 t.name&&Yb t.V 0 24&&Yb t.S 0 3&&(decide (t.V=0)==decide (t.S=0))):=rfl;have X:Yb t.V 0 24=true->0<=t.V/\t.V<=24:=Ud;have Y:Yb t.S 0 3=true->0<=t.S/\t.S<=3:=Ud;have s:=LH U;clear U;generalize Q7 t.name=g at *;generalize Yb t.V 0 24=u at *;generalize Yb t.S 0 3=D at *;have z:=LH P;have L:=LH R;have ak:=LH X;have a0:=LH Y;clear P R W G X Y;have aw:g=false\/(g=true/\u=false)\/(g=true/\u=true/\D=false)\/(g=true/\u=true/\D=true):=by cases g <;> cases u <;> cases D <;> simp
  have T:Up t=false->H0 l=false:=λhf=>by
   have:=Jy (p:=Up) C.out hf;unfold H0;rw[this];rfl
  have r:=LH T;clear T;rcases aw with rfl | ⟨rfl,rfl⟩ | ⟨rfl,rfl,rfl⟩ | ⟨rfl,rfl,rfl⟩
  ·go_wp2_with (go_at_call 139;(with_reducible refine q.out.mono ?_);rintro e x⟨rfl,d,a⟩);go_ret;exact⟨by rw[r.out (by rw[s.out];rfl)];rfl,a.out⟩
  ·go_wp2_with (first
    | (go_at_call 139;(with_reducible refine q.out.mono ?_);rintro e x⟨rfl,d,a⟩;have aa:=(d _ 1 m).trans v)
    | (go_at_call 82;(with_reducible refine (z.out _).mono ?_);rintro e w4⟨rfl,rfl⟩))
   go_ret;exact⟨by rw[r.out (by rw[s.out];rfl)];rfl,a.out⟩
  ·have Hy:=ak.out rfl;go_wp2_with (first
    | (go_at_call 139;(with_reducible refine q.out.mono ?_);rintro e x⟨rfl,d,a⟩;have aa:=(d _ 1 m).trans v;have ax:=(d _ 2 m).trans J)
    | (go_at_call 82;(with_reducible refine (z.out _).mono ?_);rintro e w4⟨rfl,rfl⟩)
    | (go_at_call 82;(with_reducible refine (L.out _).mono ?_);rintro e w5⟨rfl,rfl⟩))
   go_ret;exact⟨by rw[r.out (by rw[s.out];rfl)];rfl,a.out⟩
  have ap:((t.V==0)=true/\(t.S==0)=true/\Up t=true)\/((t.V==0)=false/\(t.S==0)=false/\Up t=true)\/((t.V==0)=true/\(t.S==0)=false/\Up t=false)\/((t.V==0)=false/\(t.S==0)=true/\Up t=false):=by
   rw[BS,BS,AR,AR,s.out];by_cases g1:t.V=0 <;> by_cases g2:t.S=0 <;> simp[g1,g2]
  rcases ap with ⟨E,F,o⟩ | ⟨E,F,o⟩ | ⟨E,F,o⟩ | ⟨E,F,o⟩;all_goals
   have Hx:=LH o;clear o;go_wp2_with (first
    | (go_at_call 139;(with_reducible refine q.out.mono ?_);rintro e x⟨rfl,d,a⟩;have aa:=(d _ 1 m).trans v;have ax:=(d _ 2 m).trans J)
    | (go_at_call 82;(with_reducible refine (z.out _).mono ?_);rintro e w4⟨rfl,rfl⟩)
    | (go_at_call 82;(with_reducible refine (L.out _).mono ?_);rintro e w5⟨rfl,rfl⟩))
   first
    | (go_ret;exact⟨by rw[r.out Hx.out];rfl,a.out⟩)
    | (go_roundw
       case rel=>exact⟨k+1,AA,AF,a.out,LH (Vz N.out C.out (by rw[Hx.out];rfl))⟩
       simp[intOf];omega)
 obtain rfl:k=(Q l):=AA
 have H:l.all Up=true:=Cv λj y Z=>by
  have:=N.out j (AN.1 Z).1 y Z;simpa using this
 have ah:=LH H;have M:Hid (H0 l=(decide ((Q l)<=24)&&Jh l)):=LH (by unfold H0;rw[H];rfl);clear H;by_cases S:(Q l)<=24
 ·have CL:=LH (cf_levels A (Q l) c l wr (Hh.out.below f) hn λt ht=>by
   have:=Kp ((BG.1 ah.out) t ht);exact⟨this.2.1,this.2.2.1,this.2.2.2.1,this.2.2.2.2.1⟩)
  have B:Hid (H0 l=Jh l):=LH (by rw[M.out,DV S];rfl);go_wp2_with (go_at_call 140;(with_reducible refine CL.out.mono ?_);rintro e x⟨rfl,ao⟩);go_ret;exact⟨by rw[B.out];rfl,Zz f ao⟩
 have B:Hid (H0 l=false):=LH (by rw[M.out,BV S];rfl);go_wp2_with fail;go_ret;exact⟨by rw[B.out];rfl,f⟩
def J4(h:GH)(G:Gr)(w:World)(u:Yf w h G)(hs:∀t∈G.T,t.name.size<=maxLen)(h1:h.n1<=100)(h2:h.n2<=100):
 Calls prog 38 #[GV h G.zt] w λe w'=>e = aR (aB G.rt)/\Below w.heap.size w w':=by
 rw[<-right_same];obtain⟨a1,n1,c1,a2,n2,c2,a3,n3,c3⟩:=h;have e1:(Q G.T)=n1:=u.T.len;have e2:(Q G.O)=n2:=u.O.len;have e3:(Q G.U)=n3:=u.U.len;have k1:=u.T.cap;have g:=u.U.cap;simp only[] at h1 h2 k1 g;have L:=LH u;have Hs:=LH hs;have a4:Hid (G.rightP=(G.aheadP&&!(G.O.any λs=>!Xi (Zh s))&&decide (G.leftsGo G.U (-1)=some ((n2:Int)-1)))):=LH (by unfold Gr.rightP;rw[e2]);have aw:Hid (G.aheadP=(H0 G.T&&Yb n2 1 16&&Yb n3 1 40&&decide G.names.Nodup&&Yb G.zt 0 ((n2:Int)-1))):=LH (by unfold Gr.aheadP;rw[e2,e3]);clear hs;have ai:=Zy w (aC #[K a1 n1 c1,K a2 n2 c2,K a3 n3 c3,aI aJ G.zt] 26);have ak:=Y1.new w 26 ⟨a1,n1,c1,a2,n2,c2,a3,n3,c3⟩ G.zt;go_enter func38,ntmps38;have⟨z5,z0,z1,z2,z3⟩:=ak;simp only[] at z0 z1 z2 z3;go_wp2_with fail;generalize w.alloc (aC #[K a1 n1 c1,K a2 n2 c2,K a3 n3 c3,aI aJ G.zt] 26)=o at *;have P:=L.out.below ai;(with_reducible refine (clone_strs a2 n2 c2 G.O o P.O AA).mono ?_);rintro e w2⟨A2,C2,rfl,x,m⟩;have bf:=ak.below m;have⟨y5,y0,y1,y2,y3⟩:=bf;simp only[] at y0 y1 y2 y3;clear z0 z1 z2 z3;go_wp2_with fail;go_loopw [3,5,15] (λv _ i wr=>∃(k:Nat) (A:Option Addr) (c:Nat),k<=n1/\i = aI aJ (k:Int)/\v = K A (n2+k) c/\wr.ownsRow o.heap.size 9 1 (K A (n2+k) c) (n2+k) ((G.O++(G.T.take k).map Trm.name).map aS)/\Below o.heap.size o wr) (λ_ _ i _=>n1-(intOf i).toNat)
 case atStart=>exact⟨0,A2,C2,AV _,rfl,rfl,by simpa using x,m⟩
 clear x m bf y0 y1 y2 y3 y5;obtain⟨k,A,c,hk,rfl,rfl,x,m⟩:=hrel;by_cases R:k<n1
 ·obtain⟨b,bu,t,rfl,l,Ht,S,U,V⟩:=P.T.get R;rw[<-m.cell (by exact l)] at S U V;have cu:o.heap.size<=wr.heap.size:=m.size;have z:=m.alloc cu (aC #[aS t.name,aI aJ t.V,aI aJ t.S] 140);have bm:=x.alloc (aC #[aS t.name,aI aJ t.V,aI aJ t.S] 140);have p0:=Wg wr 140 #[aS t.name,aI aJ t.V,aI aJ t.S] 0;have p5:=Zl wr (aC #[aS t.name,aI aJ t.V,aI aJ t.S] 140);simp only[DQ,List.getElem?_cons_zero,List.getElem?_cons_succ] at p0;have cv:o.heap.size<=(wr.alloc (aC #[aS t.name,aI aJ t.V,aI aJ t.S] 140)).heap.size:=AA
  go_wp2_with (at_builtin;refine Vc (w:=wr.alloc (aC #[aS t.name,aI aJ t.V,aI aJ t.S] 140)) rfl _ _ 23 rfl o.heap.size 9 (aS ByteArray.empty) 16 underlying23 Tryz.infoStr rfl _ (n2+k) _ _ rfl bm (aS t.name) (by rw[p5];rfl) rfl AA AA AA ?_;intro A4 c4 w4 ho cw);go_roundw
  case rel=>exact⟨k+1,A4,c4,AA,AF,by rw[DY],by rw[names_take G Ht.out];exact ho,X6 z cw bm cv⟩
  simp[intOf];omega
 obtain rfl:k=n1:=AA
 rw[AQ AA] at x;have bl:=Yl x;have bd:=ai.trans (m.mono ai.size);have q:=ak.below m;have⟨x5,x0,x1,x2,x3⟩:=q;simp only[] at x0 x1 x2 x3;have bg:∀j,Below wr.heap.size wr j->Y1 j w.heap.size ⟨a1,k,c1,a2,n2,c2,a3,n3,c3⟩ G.zt:=λj l=>q.below l;have CT:=LH ((cf_terms a1 k c1 G.T wr (P.T.below m) AA Hs.out).mono λe w' a=>And.intro a.1 (And.intro (Jd a.2).1 (LH a.2)));have cA:=λj (l:Below wr.heap.size wr j)=>(cf_alone A (n2+k) c G.names j (bl.below l) AA).mono λe w' a=>And.intro a.1 (And.intro (Jd a.2).1 (LH (Zz l a.2)));have a8:=λw=>Jx (n2:Int) 1 16 w;have a9:=λw=>Jx (n3:Int) 1 40 w;have ba:=λw=>Jx G.zt 0 ((n2:Int)-1) w;have br:Yb (n2:Int) 1 16=true->1<=(n2:Int)/\(n2:Int)<=16:=Ud;have bs:Yb (n3:Int) 1 40=true->1<=(n3:Int)/\(n3:Int)<=40:=Ud;have dh:IntKind.i64.wrap ((n2:Int)-1)=(n2:Int)-1:=BZ _ AA;have ci:=LH P;generalize H0 G.T=p at *;generalize Yb (n2:Int) 1 16=y at *;generalize Yb (n3:Int) 1 40=F at *;generalize decide G.names.Nodup=M at *;generalize Yb G.zt 0 ((n2:Int)-1)=b5 at *;have CA:=LH cA;have X:=LH a8;have Y:=LH a9;have Z:=LH ba;have cm:=LH br;have cn:=LH bs;have ay:=LH bg;have I:=LH bd;clear cA a8 a9 ba br bs bg bd x u bl q R hk;have cz:((p=false)\/(p=true/\y=false)\/(p=true/\y=true/\F=false)\/(p=true/\y=true/\F=true/\M=false)\/(p=true/\y=true/\F=true/\M=true/\b5=false))\/(p=true/\y=true/\F=true/\M=true/\b5=true):=by cases p <;> cases y <;> cases F <;> cases M <;> cases b5 <;> simp
 rcases cz with H | ⟨rfl,rfl,rfl,rfl,rfl⟩
 ·have az:Hid (G.rightP=false):=LH (by
   rw[a4.out,aw.out];rcases H with rfl | ⟨rfl,rfl⟩ | ⟨rfl,rfl,rfl⟩ | ⟨rfl,rfl,rfl,rfl⟩ | ⟨rfl,rfl,rfl,rfl,rfl⟩ <;> simp)
  rcases H with rfl | ⟨rfl,rfl⟩ | ⟨rfl,rfl,rfl⟩ | ⟨rfl,rfl,rfl,rfl⟩ | ⟨rfl,rfl,rfl,rfl,rfl⟩;all_goals
   go_wp2_with (first
    | (go_at_call 81;(with_reducible refine CT.out.mono ?_);rintro e j⟨rfl,f,d⟩;have B:=(f _ 1 x5).trans x1;have p2:=(f _ 2 x5).trans x2;have C:=(f _ 3 x5).trans x3)
    | (go_at_call 82;(with_reducible refine (X.out _).mono ?_);rintro e w4⟨rfl,rfl⟩)
    | (go_at_call 82;(with_reducible refine (Y.out _).mono ?_);rintro e w5⟨rfl,rfl⟩)
    | (go_at_call 82;(with_reducible refine (Z.out _).mono ?_);rintro e w6⟨rfl,rfl⟩)
    | (go_at_call 83;(with_reducible refine (CA.out _ d.out).mono ?_);rintro e w7⟨rfl,n,D⟩;have r1:=(n _ 1 (AK x5 d.out.size)).trans B;have r3:=(n _ 3 (AK x5 d.out.size)).trans C))
   go_ret
   first
    | exact⟨by rw[az.out];rfl,Zz I.out D.out⟩
    | exact⟨by rw[az.out];rfl,Zz I.out d.out⟩
 have a0:Hid (G.rightP=(!(G.O.any λs=>!Xi (Zh s))&&decide (G.leftsGo G.U (-1)=some ((n2:Int)-1)))):=LH (by rw[a4.out,aw.out];simp);have df:=cm.out rfl;have dg:=cn.out rfl;have hC:=λj (l:Below wr.heap.size wr j)=>(sl_contains_strs a2 n2 c2 G.O 85 #[] (λs=>!Xi (Zh s)) j enters_right1 ((ci.out.O.below m).below l) (λs _ w' _=>(cf_right1 s w').mono λe w' a=>⟨a.1,by rw[<-a.2];exact AP _ _⟩)).mono λe w' a=>And.intro a.1 (And.intro (Jd a.2).1 (LH (Zz l a.2)));generalize (G.O.any λs=>!Xi (Zh s))=b6 at *;have HC:=LH hC;clear hC;rcases (by cases b6 <;> simp:b6=true\/b6=false) with rfl | rfl
 ·go_wp2_with (first
   | (go_at_call 81;(with_reducible refine CT.out.mono ?_);rintro e j⟨rfl,f,d⟩;have B:=(f _ 1 x5).trans x1;have p2:=(f _ 2 x5).trans x2;have C:=(f _ 3 x5).trans x3)
   | (go_at_call 82;(with_reducible refine (X.out _).mono ?_);rintro e w4⟨rfl,rfl⟩)
   | (go_at_call 82;(with_reducible refine (Y.out _).mono ?_);rintro e w5⟨rfl,rfl⟩)
   | (go_at_call 82;(with_reducible refine (Z.out _).mono ?_);rintro e w6⟨rfl,rfl⟩)
   | (go_at_call 83;(with_reducible refine (CA.out _ d.out).mono ?_);rintro e w7⟨rfl,n,D⟩;have r1:=(n _ 1 (AK x5 d.out.size)).trans B;have r3:=(n _ 3 (AK x5 d.out.size)).trans C)
   | (go_at_call 84;(with_reducible refine (HC.out _ D.out).mono ?_);rintro e w8⟨rfl,bj,E⟩))
  go_ret;exact⟨by rw[a0.out];rfl,Zz I.out E.out⟩
 have ce:Hid (G.rightP=decide (G.leftsGo G.U (-1)=some ((n2:Int)-1))):=LH (by rw[a0.out];simp);go_wp2_with (first
  | (go_at_call 81;(with_reducible refine CT.out.mono ?_);rintro e j⟨rfl,f,d⟩;have B:=(f _ 1 x5).trans x1;have p2:=(f _ 2 x5).trans x2;have C:=(f _ 3 x5).trans x3)
  | (go_at_call 82;(with_reducible refine (X.out _).mono ?_);rintro e w4⟨rfl,rfl⟩)
  | (go_at_call 82;(with_reducible refine (Y.out _).mono ?_);rintro e w5⟨rfl,rfl⟩)
  | (go_at_call 82;(with_reducible refine (Z.out _).mono ?_);rintro e w6⟨rfl,rfl⟩)
  | (go_at_call 83;(with_reducible refine (CA.out _ d.out).mono ?_);rintro e w7⟨rfl,n,D⟩;have r1:=(n _ 1 (AK x5 d.out.size)).trans B;have r3:=(n _ 3 (AK x5 d.out.size)).trans C)
  | (go_at_call 84;(with_reducible refine (HC.out _ D.out).mono ?_);rintro e w8⟨rfl,bj,E⟩;have⟨v5,v0,v1,v2,v3⟩:=ay.out w8 E.out;simp only[] at v0 v1 v2 v3))
 have bh:=ay.out w8 E.out;have bc:=Zz I.out E.out;clear v5 v0 v1 v2 v3 B p2 C r1 r3 f n bj x5 x0 x1 x2 x3;go_loopw [6,8,64] (λnx _ i wz=>∃(g:Nat) (T:Int),g<=n3/\i = aI aJ (g:Int)/\nx = aI aJ (T+1)/\-1<=T/\T<=1000/\Hid (G.leftsGo (G.U.take g) (-1)=some T)/\Below w.heap.size w wz/\Y1 wz w.heap.size ⟨a1,k,c1,a2,n2,c2,a3,n3,c3⟩ G.zt) (λ_ _ i _=>n3-(intOf i).toNat)
 case atStart=>exact⟨0,-1,AV _,rfl,rfl,AA,AA,LH rfl,bc,bh⟩
 clear bh bc;obtain⟨g,T,dc,rfl,rfl,c9,da,HT,O,q⟩:=hrel;have⟨z5',z0,z1,z2,z3⟩:=q;simp only[] at z0 z1 z2 z3;by_cases R:g<n3
 ·obtain⟨b,bu,r,Ar,cr,rfl,l,Hr,S,U,V,bn⟩:=L.out.U.get R;rw[<-O.cell (by exact l)] at S U V;have bo:=L.out.wf r (AM Hr.out);have z:=O.alloc O.size (aC #[aI aJ r.L,K Ar (Q r.rt) cr,aI aJ r.P] 60);have al:=q.below (Zy wr (aC #[aI aJ r.L,K Ar (Q r.rt) cr,aI aJ r.P] 60));have bt:=Fl.new wr 60 r.L Ar (Q r.rt) cr r.P;have p5:=Zl wr (aC #[aI aJ r.L,K Ar (Q r.rt) cr,aI aJ r.P] 60);go_wp2_with fail;generalize wr.alloc (aC #[aI aJ r.L,K Ar (Q r.rt) cr,aI aJ r.P] 60)=W1 at *;have⟨s5,s0,s1,s2,s3⟩:=al;have⟨u5,u0,u1,u2⟩:=bt;simp only[] at s0 s1 s2 s3 u0 u1 u2;clear S U V z0 z1 z2 z3 q;generalize wr.heap.size=gr at *;have cR:=cf_rule ⟨a1,k,c1,a2,n2,c2,some ⟨b,bu,aN⟩,n3,c3⟩ G r Ar cr W1 (L.out.below z) (bn.below z) bo (by simp only[];omega) (by simp only[];omega);have cW:=λw=>Jx r.L 0 (T+1) w;have H:=@leftsP_bad G g r T Hr.out HT.out;have bk:=@leftsP_good G g r T Hr.out HT.out;have bq:Yb r.L 0 (T+1)=true->0<=r.L/\r.L<=T+1:=Ud;generalize Yb r.L 0 (T+1)=N at *;generalize G.ruleOK r=b8 at *;have CR:=LH (cR.mono λe w' a=>And.intro a.1 (And.intro (Jd a.2).1 (LH a.2)));have W:=LH cW;have ax:=LH H;have cg:=LH bk;have ck:=LH bq;have aa:=LH z;have cl:=LH al;clear cR cW H bk bq bo bn z al bt;rcases (by cases N <;> cases b8 <;> simp:(N=false)\/(N=true/\b8=false)\/(N=true/\b8=true)) with rfl | ⟨rfl,rfl⟩ | ⟨rfl,rfl⟩
  ·go_wp2_with (go_at_call 82;(with_reducible refine (W.out _).mono ?_);rintro e w9⟨rfl,rfl⟩);go_ret;exact⟨by rw[ax.out rfl];rfl,aa.out⟩
  ·go_wp2_with (first
    | (go_at_call 82;(with_reducible refine (W.out _).mono ?_);rintro e w9⟨rfl,rfl⟩)
    | (go_at_call 87;(with_reducible refine CR.out.mono ?_);rintro e c6⟨rfl,bi,J⟩))
   go_ret;exact⟨by rw[ax.out rfl];rfl,Zz aa.out J.out⟩
  have di:=ck.out rfl;have aj:=cg.out rfl rfl;have db:=G.leftsGo_bd _ _ _ AA aj;have dd:(G.U.take (g+1)).length<=40:=by rw[BU];omega
  have cd:=LH aj;clear aj;have de:max (T+1) (r.L+1)=max T r.L+1:=AA
  go_wp2_with (first
   | (go_at_call 82;(with_reducible refine (W.out _).mono ?_);rintro e w9⟨rfl,rfl⟩)
   | (go_at_call 87;(with_reducible refine CR.out.mono ?_);rintro e c6⟨rfl,bi,J⟩;have v0:=(bi _ 0 u5).trans u0))
  go_roundw
  case rel=>exact⟨g+1,max T r.L,AA,AF,rfl,AA,AA,cd,Zz aa.out J.out,cl.out.below J.out⟩
  simp[intOf];omega
 obtain rfl:g=n3:=AA
 have ad:=HT.out;rw[AQ AA] at ad;have cf:Hid (G.rightP=(T+1==(n2:Int))):=LH (by
  rw[ce.out,ad,Cc,BA,BS];constructor
  ·intro h;injection h with h;omega
  intro h;congr 1;omega)
 clear ad;go_wp2_with fail;go_ret;exact⟨by rw[cf.out];rfl,O⟩
end
def N4(h:GH)(G:Gr)(w:World)(d:Yf w h G)(S:∀t∈G.T,t.name.size<=maxLen)(F:h.n1<=100)(H:h.n2<=100)(I:h.n3<=100):
 Calls prog 88 #[GV h G.zt] w λe w'=>Below w w w' /\
  ((G.rt=false/\e = aR (K aN 0 0))\/(G.rt=true/\∃g,w.heap.size<=g/\e = aR (K (some ⟨g,0,aN⟩) h.n2 h.n2)/\Z8 w' g (Zt G))):=by
 obtain⟨a1,n1,c1,a2,n2,c2,a3,n3,c3⟩:=h;have m:(Q G.O)=n2:=d.O.len;have T:=d.O.cap;simp only[] at F H I T;have p:=Zy w (aC #[K a1 n1 c1,K a2 n2 c2,K a3 n3 c3,aI aJ G.zt] 26);have x:=Y1.new w 26 ⟨a1,n1,c1,a2,n2,c2,a3,n3,c3⟩ G.zt;have P:=Nt n2 AA;go_enter func88,ntmps88;have⟨z5,z0,z1,z2,z3⟩:=x;simp only[] at z0 z1 z2 z3;go_wp2_with fail;generalize w.alloc (aC #[K a1 n1 c1,K a2 n2 c2,K a3 n3 c3,aI aJ G.zt] 26)=E at *;(refine (J4 ⟨a1,n1,c1,a2,n2,c2,a3,n3,c3⟩ G E (d.below p) S (by simp only[];omega) (by simp only[];omega)).mono ?_);rintro e b⟨rfl,v⟩;have j:=Zz p v;have M:=x.below v;have⟨y5,y0,y1,y2,y3⟩:=M;simp only[] at y0 y1 y2 y3;rcases l:G.rt with _ | _
 ·go_wp2_with fail;go_ret;exact⟨j,.inl ⟨l,rfl⟩⟩
 have k:=Gr.fits l;have D:=LH l;have V:=LH k;have u:=Z8.new b (List.replicate n2 false);have a:=Zy b (aC (Qk (List.replicate n2 false)).toArray 4);have z:=d.below j;have B:=λW c J=>Zte ⟨a1,n1,c1,a2,n2,c2,a3,n3,c3⟩ G 149 #[] enters_prod1 Bn b n2 (List.replicate n2 false) b W z J (AJ _) AA c AE (by simp only[];omega)
  (λr n N q s f=>by
    unfold Bn at f;split at f
    ·rw[BO] at f;subst f;have:=k.L r n;rw[m] at this;exact this
    cases f)
  (λr n Ar cr N w' _ R q O=>tr_prod1 r Ar cr b n2 N w' R q O AA (by have:=k.symB n;rwa [m] at this))
 have o:=LH B;clear l k B d z;go_wp2_with fail;go_region_with (go_at_call 148;refine (o.out _ ?_ ?_).mono ?_;exact u;exact⟨a.os,a.tape,a.output,a.size,a.block⟩;rintro e U⟨rfl,A,c⟩)
 all_goals
  have L:Below b b U:=by
   refine Below.trans ?_ (Zn A a.size (AJ _));exact⟨a.os,a.tape,a.output,a.size,a.block⟩
  have y:Zt G=Z3 (Yy Bn G.U) n2 (List.replicate n2 false):=by rw[Zy0];unfold Zt U5;rw[m]
  rw[<-y] at c;have C:=LH c;clear c y A o u a P y0 y1 y2 y3 z0 z1 z2 z3;go_wp2_with fail;go_ret;exact⟨Zz j L,.inr ⟨D,b.heap.size,j.size,rfl,C⟩⟩
section
open Go.Maps (Keyed IsMap Tidy)
def Z1.none_iff{b:Bool}(h:Z1 w A n c b x):(b=false/\n=0)↔x=0:=by
 obtain⟨rfl,f⟩:=h;have a:=f.len;by_cases d:x<big
 ·rw[Z7 d] at a ⊢;simp only[true_and] at a ⊢;rw[<-a];exact Lq
 rw[Wl d];have g:0<big:=by unfold big;generalize 1024=k;exact Nat.two_pow_pos k
 constructor
 ·rintro⟨h,_⟩;cases h
 rintro rfl;exact absurd g d
def mulP_lim(x:Nat)(ys b:List Nat)(k:Nat):Lim (Vn x ys b k).1:=by
 induction k with
 | zero=>exact Lim.nil
 | succ k a=>exact a.append (Lim.mk (Nat.mod_lt _ AC) Lim.nil)
def Zx0(x:Nat)(ys a:List Nat)(i k:Nat)(h:Lim a):Lim (Us x ys a i k) :=
 ((h.take _).append (mulP_lim _ _ _ _)).append (h.drop _)
end
section
open Go.Maps (Keyed IsMap Tidy)
variable {P:Program} {k:TypeId}
def Vv.ne_blk{t:TypeId}(h:Vv P k w g r)(a:Blk w b t cs):b≠g:=by
 rintro rfl;obtain⟨d,clock,c,_⟩:=h.own;unfold Blk at a;rw[c] at a;cases a
theorem Vv.put{t e:Nat}(h:Vv P k w g r)(K:Keyed P k)(n:P.underlying t=some (.map k e))(j:Maps.size (Np P k r)<maxLen)(c:U4 P k v):
 ∃w',(Instr.mapUpdate t (.map (some g)) v (.pointer (some ⟨b,0,none⟩))).run P w = .ok () w'/\Vv P k w' g ((v,b)::r)/\w.grownBy w' (some g):=by
 obtain⟨w',m,l,f⟩:=h.own.update K n j c.lit (val := .pointer (some ⟨b,0,none⟩)) (d := .lit (.int .i64 (b:Int))) (ps:=[]) rfl;refine⟨w',m,⟨own_tight l,λp a=>?_⟩,f⟩;rcases BY.1 a with e | a
 ·rw[e];exact c
 exact h.good p a
def D7(w:World){a:Act}{Q:Exit->Act->World->Prop}(l:o.guard=aN)(m x y:Operand)(t:TypeId)(p:o.op=Op.mapUpdate t m x y)(e g b:Nat)(K:Keyed P k)(s:P.underlying t=some (.map k e))(h:Vv P k w g r)(n:Maps.size (Np P k r)<maxLen)(v:Value)(u:U4 P k v)(h1:a.eval m = .map (some g))(c:a.eval x=v)(d:a.eval y = aP (some ⟨b,0,aN⟩))(f:∀w',Vv P k w' g ((v,b)::r)->w.grownBy w' (some g)->wpList P ops Q rest (a.put o.dst undef) w'):wpList P ops Q (o::rest) a w:=by
 refine wpList_plain l λB j=>?_;obtain⟨w',q,z,A⟩:=h.put (b:=b) K s n u;unfold Oper.wp;simp[execOp,p,h1,c,d,q,Result.andThen];exact j _ _ (f w' z A)
end
section
open Go.Maps (Keyed IsMap Tidy)
open Go.Maps (Keyed IsMap Tidy)
def Za.tail1{d:Nat}{a:List Int}(h:Za .i64 w (some ⟨b,d,aN⟩) n c (s::a)):
 Za .i64 w (if c=1 then some ⟨b,d,aN⟩ else some ⟨b,d+1,aN⟩) (n-1) (c-1) a:=by
 have g:=h.len;have l:=h.cap;rw[AY] at g;by_cases f:c=1
 ·rw[if_pos f];have j:a=[]:=BH AA;subst j;rw[show n-1=0 by omega];exact Za.nil _ _ _ _ AA
 rw[if_neg f];have:=h.part 1 (n-1) (c-1) AA AA AA;have e:((s::a).drop 1).take (n-1)=a:=by
  show a.take (n-1)=a;exact AQ AA
 rw[e] at this;exact this
end
def Ztk(A:Option Addr)(n c:Nat)(b:Bool)(x:Nat)(w:World)(h:Z1 w A n c b x):
 Calls prog 206 #[aG #[K A n c,aB b]] w λe w'=>e = aR (aB (decide (x=0)))/\Below w w w':=by
 have f:=Zy w (aC #[K A n c,aB b] 154);have d:=h.none_iff;have j:=h.2.cap;go_enter func206,ntmps206;clear h;cases b
 case true =>
  have a:decide (x=0)=false:=by rw[AZ];intro e;have:=d.2 e;cases this.1
  have Hx:=LH a;clear d a;go_wp2_with fail;go_ret;exact⟨by rw[Hx];rfl,f⟩
 by_cases g:n=0
 ·subst g;have a:decide (x=0)=true:=by rw[BA];exact d.1 ⟨rfl,rfl⟩
  have Hx:=LH a;clear d a;go_wp2_with fail;go_ret;exact⟨by rw[Hx];rfl,f⟩
 have a:decide (x=0)=false:=by rw[AZ];intro e;exact g (d.2 e).2
 have k:((n:Int)==0)=false:=by rw[AR];omega
 have Hx:=LH a;clear d a g;go_wp2_with fail;go_ret;exact⟨by rw[Hx];rfl,f⟩
def Zs5{b:Bool}(h:Z1 w A n c b x):(x=0/\n=0/\b=false)\/(x≠0/\((n:Int)==0)=false/\b=false)\/(x≠0/\n=0/\b=true):=by
 have h0:=h.none_iff;have h1:=h.1;have a:=h.2.len;by_cases f:x<big
 ·rw[Z7 f] at h1 a;simp only at h1 a;subst h1;by_cases d:n=0
  ·exact .inl ⟨h0.1 ⟨rfl,d⟩,d,rfl⟩
  exact .inr (.inl ⟨λe=>d (h0.2 e).2,by simpa using d,rfl⟩)
 rw[Wl f] at h1 a;have:=Zsx;exact .inr (.inr ⟨AA,a.symm,h1⟩)
section
variable {P:Program} {M:World->Prop} {R:World->World->Prop}
def Zk(P:Program)(M:World->Prop)(R:World->World->Prop)(F:(Nat->Value)->Act)(D:Nat->Value->World->Prop):Nat->List Oper->Prop
 | _,[]=>True
 | i,o::rest=>(o.guard=none/\(∀u v,(F u).put o.dst v=F (upd u i v))/\∀(Q:Exit->Act->World->Prop) (u:Nat->Value) (X:World),M X->(∀p,onB o p=true->D p (u p) X)->
    ∀K:Act->World->Prop,(∀v a,M a->R X a->D i v a->K ((F u).put o.dst v) a)->o.wp P (F u) X K Q)/\Zk P M R F D (i+1) rest
def Zk.nil:Zk P M R F D i []:=trivial
def Zk.cons(b:o.guard=aN)(c:∀u v,(F u).put o.dst v=F (upd u i v))(h:∀(Q:Exit->Act->World->Prop) (u:Nat->Value) (X:World),M X->(∀p,onB o p=true->D p (u p) X)->∀K:Act->World->Prop,(∀v a,M a->R X a->D i v a->K ((F u).put o.dst v) a)->o.wp P (F u) X K Q)(t:Zk P M R F D (i+1) rest):Zk P M R F D i (o::rest):=⟨⟨b,c,h⟩,t⟩
def Zk.con(h:∀(Q:Exit->Act->World->Prop) (u:Nat->Value) (X:World),M X->(∀p,onB o p=true->D p (u p) X)->∀K:Act->World->Prop,(∀v a,M a->R X a->D i v a->K ((F u).put o.dst v) a)->o.wp P (F u) X K Q)(t:Zk P M R F D (i+1) rest)(b:o.guard=aN:=by rfl)(c:∀u v,(F u).put o.dst v=F (upd u i v):=by exact λ_ _=>rfl):Zk P M R F D i (o::rest):=Zk.cons b c h t
def Zk.vf(hw:∀Q u X K,M X->(∀p,onB o p=true->D p (u p) X)->K ((F u).put o.dst v) X->o.wp P (F u) X K Q)(t:Zk P M R F D (i+1) rest)(hd:∀X,D i v X:=by exact λ_=>rfl)(hR:∀X,R X X:=by first | exact λ_=>AP _ _ | exact λ_=>⟨AJ _,λ_ _ _=>rfl⟩)(b:o.guard=aN:=by rfl)(c:∀u v,(F u).put o.dst v=F (upd u i v):=by exact λ_ _=>rfl):Zk P M R F D i (o::rest) :=
 Zk.cons b c (λQ u X hM hp K hK=>hw Q u X K hM hp (hK v X hM (hR X) (hd X))) t
def Zk.v0(t:Zk P M R F D (i+1) rest)(hd:∀X,D i v X:=by exact λ_=>rfl)(hw:∀Q u X K,K ((F u).put o.dst v) X->o.wp P (F u) X K Q:=by exact λ_ _ _ _ h=>h)(hR:∀X,R X X:=by first | exact λ_=>AP _ _ | exact λ_=>⟨AJ _,λ_ _ _=>rfl⟩)(b:o.guard=aN:=by rfl)(c:∀u v,(F u).put o.dst v=F (upd u i v):=by exact λ_ _=>rfl):Zk P M R F D i (o::rest) :=
 Zk.vf (λQ u X K _ _ h=>hw Q u X K h) t hd hR b c
def Zk.v1{vp:Value}(p:Nat)(t:Zk P M R F D (i+1) rest)(hpp:∀x X,D p x X->x=vp:=by exact λ_ _ h=>h)(hd:∀X,D i v X:=by exact λ_=>rfl)(hw:∀Q u X K,K ((F (upd u p vp)).put o.dst v) X->o.wp P (F (upd u p vp)) X K Q:=by exact λ_ _ _ _ h=>h)(ho:onB o p=true:=by rfl)(hR:∀X,R X X:=by first | exact λ_=>AP _ _ | exact λ_=>⟨AJ _,λ_ _ _=>rfl⟩)(b:o.guard=aN:=by rfl)(c:∀u v,(F u).put o.dst v=F (upd u i v):=by exact λ_ _=>rfl):Zk P M R F D i (o::rest) :=
 Zk.vf (λQ u X K _ f h=>by
  have e:upd u p vp=u:=by
   funext j;unfold upd;split
   ·rename_i h2;rw[h2,hpp _ _ (f p ho)]
   rfl
  have h2:=hw Q u X K;rw[e] at h2;exact h2 h) t hd hR b c
def Zk.steps(y:∀i v X g,D i v X->R X g->D i v g)(k:Zti l n=true)(N:n<=(aQ l)):
 ∀(m:List Oper) (i:Nat),(∀j,j<(aQ m)->m[j]? = l[i+j]?)->i+(aQ m)=n->Zk P M R F D i m->∀rest,Xc P (JF l n M F D fin) n rest->Xc P (JF l n M F D fin) i (m++rest)
 | [],i,_,hl,_,rest,hr=>by
   have:i=n:=by simpa using hl
   subst this;exact hr
 | o::m,i,hm,hl,hs,rest,hr=>by
   have I:i<n:=by simp only[AY] at hl;omega
   have O:l[i]? = some o:=by simpa using (hm 0 AE).symm
   refine Xc.cons hs.1.1 (λQ listed a X C T S K E=>?_) (Zk.steps y k N m (i+1) (λj b=>by have:=hm (j+1) AG;simpa [DY,Em 1 j] using this) (by simp only[AY] at hl;omega) hs.2 rest hr);obtain⟨u,rfl,B,z,hd,V,Y⟩:=C;obtain⟨r,H⟩:=Zu4 T;have f:listed.getD n false=false:=by
    cases x:listed.getD n false with
    | false=>rfl
    | true =>
      unfold Zti at k;rw[Cs,BA] at k;rcases k with h | h
      ·subst h;rw[<-B] at x;simp[Array.getD] at x
      have:=D9 z _ _ _ (BG.1 h i (BP.2 I)) x;rw[H] at this;cases this
   have t:∀p,onB o p=true->listed.getD p false=true:=λp c=>by
    obtain⟨e,G,q,rfl⟩:=Zyf.1 c;exact S e G q
   refine hs.1.2.2 Q u X (V f) (λp c=>hd p (λh=>by subst h;have:=t p c;rw[f] at this;cases this) (t p c) f) K λv g L q U=>?_;refine E _ _ ⟨upd u i v,hs.1.2.1 u v,by simpa using B,λj W s b p c=>?_,λj J b _=>?_,λ_=>L,λh=>?_⟩
   ·rw[Uj r] at b ⊢;by_cases A:p=i
    ·rw[if_pos A]
    rw[if_neg A];by_cases d:j=i
    ·subst d;rw[O] at s;obtain rfl:=BM s;exact t p c
    rw[if_neg d] at b;exact z j W s b p c
   ·rw[Uj r] at b;unfold upd;by_cases d:j=i
    ·subst d;rw[if_pos rfl];exact U
    rw[if_neg d] at b ⊢;exact y j _ X g (hd j J b f) q
   rw[Uj r,if_neg AA,f] at h;cases h
def Xh{id:Nat}{Q:Exit->Act->World->Prop}{a:Act}{t:Oper}(M:World->Prop)(R:World->World->Prop)(F:(Nat->Value)->Act)(u0:List Value)(D:List (Value->World->Prop))(fin:(Nat->Value)->World->Prop)(N:P.follows .mixedOrders=true)(r:Zvw (l++[t]).toArray=true)(f:Zti (l++[t]) (aQ l)=true)(V:t.guard=aN)(I:a=F λi=>u0.getD i undef)(H:M w.drew)(E:Zwm R D)(T:Zk P M R F (atL D) 0 l)(U:∀(Q:Exit->Act->World->Prop) u X,M X->(∀i,i<(aQ l)->atL D i (u i) X)->∀K:Act->World->Prop,(∀g k,fin g k->K (F g) k)->t.wp P (F u) X K Q)(s:∀u X,fin u X->Q .normal (F u) X):(Code.region id (l++[t]).toArray true).wp P Q a w:=by
 have ab:(l++[t]).length=(aQ l)+1:=AE
 refine H6 (JF (l++[t]) (aQ l) M F (atL D) fin) N r ⟨_,I,AE,λi o _ h=>?_,λi _ h _=>?_,λ_=>H,λh=>?_⟩ ?_ λlisted a X m q=>?_
 ·simp[Array.getD] at h
 ·simp[Array.getD] at h
 ·simp[Array.getD] at h
 ·refine Zk.steps (l:=l++[t]) (n:=(aQ l)) (fin:=fin) E.at f AA l 0 (λj c=>by rw[BF,DF c]) (BF _) T [t] ?_;refine Xc.cons V (λQ listed a X m Y S K G=>?_) Xc.nil;obtain⟨u,rfl,C,J,hd,Z,y⟩:=m;obtain⟨b,z⟩:=Zu4 Y;have O:∀p,onB t p=true->listed.getD p false=true:=λp d=>by
   obtain⟨e,s,r,rfl⟩:=Zyf.1 d;exact S e s r
  have W:(l++[t])[(aQ l)]? = some t:=by rw[BX (AJ _),Nat.sub_self];rfl
  have x:∀i o,(l++[t])[i]? = some o->(listed.setIfInBounds (aQ l) true).getD i false=true->∀p,onB o p=true->(listed.setIfInBounds (aQ l) true).getD p false=true:=λj oj v c p d=>by
   rw[Uj b] at c ⊢;by_cases B:p=(aQ l)
   ·rw[if_pos B]
   rw[if_neg B];by_cases A:j=(aQ l)
   ·subst A;rw[W] at v;obtain rfl:=BM v;exact O p d
   rw[if_neg A] at c;exact J j oj v c p d
  have q:∀i,i<(aQ l)->listed.getD i false=true:=λi hi=>by
   unfold Zti at f;rw[Cs,BA] at f;rcases f with h | h
   ·omega
   have:=D9 x _ _ _ (BG.1 h i (BP.2 hi)) (by rw[Uj b,if_pos rfl]);rwa [Uj b,if_neg AA] at this
  refine U Q u X (Z z) (λi hi=>hd i AA (q i hi) z) K λg k L=>?_;refine G _ _ ⟨g,rfl,by simpa using C,x,λj _ _ h=>?_,λh=>?_,λ_=>L⟩
  ·rw[Uj b,if_pos rfl] at h;cases h
  rw[Uj b,if_pos rfl] at h;cases h
 obtain⟨u,rfl,C,_,_,_,y⟩:=m;refine s u X (y ?_);have h1:=q (aQ l) AA;have b:(aQ l)<listed.size:=AA
 simp only[Array.getD,dif_pos b] at h1 ⊢;exact h1
end
def D6{W:World}{d:List Int}(h:Za .i64 W A n c d)(hi:i<=n):∃At:Option Addr,
 (∀w:World,(Instr.sliceAt 30 (K A n c) (some (aI aJ (i:Int))) aN aN).run prog w = .ok (K At (n-i) (c-i)) w)/\Za .i64 W At (n-i) (c-i) (d.drop i):=by
 have g:=h.len;have r:=h.cap;rcases BW n with rfl | l
 ·obtain rfl:i=0:=AA
  have m:=BH g;subst m;refine⟨A,λw=>?_,Za.nil _ _ _ _ AA⟩;rcases A with _ | a
  ·go_simp
  by_cases p:c=0
  ·go_simp
  have q:¬((c:Int)<0):=AA
  go_simp
 obtain⟨b,k,s,rfl,o,_,_⟩:=h.get (j:=0) l;refine⟨if c=i then some ⟨b,k,aN⟩ else some ⟨b,k+i,aN⟩,λw=>?_,?_⟩
 ·have t:¬((n:Int)<(i:Int)):=AA
  go_simp
 by_cases f:c=i
 ·rw[if_pos f];obtain rfl:i=n:=AA
  rw[Nat.sub_self,<-g,List.drop_length];exact Za.nil _ _ _ _ AA
 rw[if_neg f];have:=h.part i (n-i) (c-i) AA AA AA;rwa [AQ (by rw[CJ];omega)] at this
def Gv(xs b:List Nat)(i:Nat):Lim (Xn xs b i).1:=by
 induction i with
 | zero=>exact Lim.nil
 | succ i a=>exact a.append (Lim.mk (Nat.mod_lt _ AC) Lim.nil)
def Zup(xs l:List Nat)(g:Lim xs)(b:Lim l)(i:Nat)(h1:(Q xs)<=i)(a:(Q l)<=i):
 (Xn xs l i).2=if val xs<val l then 1 else 0:=by
 have h:=Zt3 xs l g b i h1 a;have j:=Qi xs l i;have f:=Ui _ (Gv xs l i);rw[Mj] at f;have k:val l<4294967296 ^ i:=AK (Ui l b) (CV AC a);generalize (Xn xs l i).2=c at *;generalize (4294967296:Nat) ^ i=B at *;have d:c=0\/c=1:=AA
 rcases d with rfl | rfl
 ·rw[if_neg AA]
 rw[if_pos AA]
def Zyj(xs f:List Nat)(b:Lim xs)(c:Lim f)(i:Nat)(h1:(Q xs)<=i)(a:(Q f)<=i)(h:val f<=val xs):
 val (Xn xs f i).1=val xs-val f:=by
 have d:=Zt3 xs f b c i h1 a;rw[Zup xs f b c i h1 a,if_neg AA] at d;omega
def twP_lim(xs:List Nat)(b k:Nat):Lim (twP xs b k).1:=by
 induction k with
 | zero=>exact Lim.nil
 | succ k a=>exact a.append (Lim.mk (Nat.mod_lt _ AC) Lim.nil)
section
open Ieee
def symsP_sound(u:∀a non b n,f a non=some (b,n)->Stp G a non b n):
 ∀(ss:List Int) (a:WSt) (top:Nat) (b:WSt) (n:Nat),Wt f ss a top=some (b,n)->
  ∃ps c wd m,Fs G ss ps c wd m/\n=max top m/\a.rest=ps++b.rest/\b.word=a.word++wd/\b.posts=a.posts++c:=by
 intro ss
 induction ss with
 | nil =>
   intro a top b n h;simp only[Wt,BT,DM] at h;obtain⟨rfl,rfl⟩:=h;exact⟨[],[],[],0,.nil,AA,AE,AE,AE⟩
 | cons s ss l =>
   intro a top b n h;unfold Wt at h;split at h
   ·rename_i h0;obtain⟨ps,c,wd,m,h1,k,d,g,j⟩:=l _ _ _ _ h;exact⟨ps,c,s::wd,m,.term h0 h1,k,d,by rw[g];simp,j⟩
   rename_i h0;split at h
   ·cases h
   rename_i A n1 t;obtain⟨i,r,y,z,w1,x,a1,a2,a3,v,o,p,q⟩:=u _ _ _ _ t;obtain⟨ps,c,wd,m,h1,k,d,g,j⟩:=l _ _ _ _ h;exact⟨_,_,_,_,.non AA a1 a2 a3 h1,AA,by rw[o,d];simp,by rw[g,p];simp,by rw[j,q];simp⟩
def Zz3:∀(q:Nat) (a:WSt) (non:Int) (b:WSt) (n:Nat),Y0 G q a non=some (b,n)->Stp G a non b n:=by
 intro q
 induction q with
 | zero=>intro a non b n h;cases h
 | succ q l =>
   intro a non b n h;unfold Y0 at h;split at h
   ·cases h
   rename_i i rest k;split at h
   ·cases h
   rename_i r hi;split at h
   ·rename_i j;cases c:Wt (Y0 G q) r.rt { a with rest:=rest } 0 with
    | none=>rw[c] at h;cases h
    | some x =>
      obtain⟨s,t⟩:=x;rw[c] at h;simp only[Ei,BT,DM] at h;obtain⟨rfl,rfl⟩:=h;obtain⟨ps,o,wd,m,h1,p,d,f,g⟩:=symsP_sound (λa non b n=>l a non b n) _ _ _ _ _ c;exact⟨i,r,ps,o,wd,m,hi,j,h1,AA,by rw[k];simp only[] at d;rw[d],f,by simp only[g,DW]⟩
   cases h
def Zz4{t wd ps:List Int}{k:Nat}(h:Xl G t=some (wd,ps,k)):G.rt=true/\(Q t)<=300/\Fs G [-1-G.zt] t ps wd k:=by
 unfold Xl at h;split at h
 ·rename_i b;rw[AS,BA] at b;split at h
  ·cases h
  rename_i q n j;split at h
  ·rename_i g;simp only[BT,DM] at h;obtain⟨rfl,rfl,rfl⟩:=h;obtain⟨i,r,o,p,w1,m,a1,a2,a3,f,a,c,d⟩:=Zz3 _ _ _ _ _ j;have l:=(Gr.fits b.1).st;have:=Fs.non (s:=-1-G.zt) (ss:=[]) AA a1 AA a3 .nil;simp only[DJ] at this;rw[g,DJ] at a;simp only[DA] at c d;simp only[] at a;rw[a,c,d,f];refine⟨b.1,by rw[<-a];exact b.2,?_⟩;rw[show max (m+1) 0=m+1 by omega] at this;exact this
  cases h
 cases h
end
section
open Ieee
open Go.Maps (Keyed IsMap Tidy)
def kB_inj{l b:List Int}(d:Zwx l)(f:Zwx b)(h:kB l n=kB b g):l=b/\n=g:=by
 unfold kB at h;simp only[Value.agg.injEq,Array.mk.injEq,List.cons.injEq,Value.string.injEq,Value.int.injEq,true_and,and_true] at h;have h1:=congrArg Zh h.1;rw[Vd _ λc a=>by have:=Dy d c a;omega,Vd _ λc a=>by have:=Dy f c a;omega] at h1;exact⟨Zwi d f h1,AA⟩
end
section
open Go.RowKit Go.Shelf
attribute [local go_sem] Oper.semAt_some
open Go.RowKit Go.Shelf
open Go.RowKit Go.Shelf
attribute [local go_sem] Oper.semAt_some
def size_of_limbs(n:Nat)(h1:1<=n)(a:n<big):Zrs (Zq3 n)=bitLen (n-1):=by
 have r:=Ym n a;have c:Zm (Zq3 1)=true:=Ym 1 (Zrf 1 AC);have b:Mw (Zq3 n) (Zq3 1)=(Zq3 (n-1),0):=by
  simp[Mw,r,c,Yd];omega
 unfold Zrs;rw[b];have d:=Ym (n-1) AA;simp only[Zz9,d,if_true,Yd]
def below_even(n K w:Nat)(m:2<=n)(q:n<=600)(o:2 ^ K<2*n)(a:n<=2 ^ K)(l:w<2 ^ K):
 X5 (Zq3 n) [w]=if w<n then (Zq3 w,1,0) else ([],0,12):=by
 have c:n<big:=Zrf n AA;have r:=Ym n c;have j:(Zq3 n).length≠0:=by
  intro h;have:=Yd n;rw[BH h] at this;simp[val] at this;omega
 have d:=size_of_limbs n AA c;have g:bitLen (n-1)=K:=by
  simp only[bitLen];rw[if_neg AA];have h1:K-1=(n-1).log2:=by
   symm
   have b:0<K:=by
    rcases BW K with h | h
    ·rw[h] at a;simp at a;omega
    exact h
   have e:2 ^ K=2*2 ^ (K-1):=by rw[<-Nat.pow_succ'];congr 1;omega
   have f:2 ^ (K-1+1)=2*2 ^ (K-1):=by rw[Nat.pow_succ']
   exact (Nat.log2_eq_iff AA).2 ⟨AA,by rw[f];omega⟩
  have b:0<K:=by
   rcases BW K with h | h
   ·rw[h] at a;simp at a;omega
   exact h
  omega
 rw[g] at d;have p:K<=11:=by
  rcases BD 11 K with h | h
  ·have:=CV (n:=2) AC (show 12<=K by omega);omega
  exact h
 have b:0<K:=by
  rcases BW K with h | h
  ·rw[h] at a;simp at a;omega
  exact h
 have k:B9 (Zq3 n)=1:=by unfold B9;omega
 unfold X5;rw[if_neg (λh=>h ⟨r,j⟩),if_neg AE,k,if_neg AC,d,Yd,Zrr,if_pos AE];have e:val ([w].take 1) % 2 ^ K=w:=by simp[val,Ec l]
 rw[e];split
 ·rfl
 simp[Zrr]
end
end
end Go.Proofs.YtaagompdgiobeaaGreatDoor
