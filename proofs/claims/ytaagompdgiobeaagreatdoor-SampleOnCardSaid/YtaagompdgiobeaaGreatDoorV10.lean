/- Words for slices that read as lists: no program in sight. -/
import Derived.Test.YtaagompdgiobeaaGreatDoorV04
import Derived.Test.YtaagompdgiobeaaGreatDoorV05
import Derived.Test.YtaagompdgiobeaaGreatDoorV06
import Derived.Test.YtaagompdgiobeaaGreatDoorV07
set_option linter.all false
set_option maxHeartbeats 1500000
set_option maxRecDepth 100000
namespace Go.Proofs.YtaagompdgiobeaaGreatDoor
open Go.RowKit Go.Proofs.Tryz
variable{N M:List Bool}{ss rs:List ByteArray}{s:Int}{r x:Rul}{a F xs:List Nat}{use n c p B q i f m g d:Nat}{A Ar o At:Option Addr}{cs:List Value}{ps:List Prd}{w' w1:World}{ts:List Tk}{L:ByteArray}{ops:Array Oper}{K:Act->World->Prop}{Q:Exit->Act->World->Prop}{l:List Int}{T:Int->Nat->Nat}{rest:List Oper}{listed:Array Bool}{row:Option Nat}
theorem set_members(s:Nat)(w:World)(E:s<4294967296)(z:Q2 w):
 Calls prog 200 #[.int .u32 (s:Int)] w (RetInts .i64 w (Z6 (Wy s))):=by
 have u:=LH (Zt7 s);go_enter func200,ntmps200;go_wp2;go_loopw [0,3] (λt o wr=>∃(r:Nat) (A:Option Addr) (b:Nat) (a:List Nat),t = .int .u32 (r:Int)/\r<4294967296/\Hid (Wy s=a++Wy r)/\o = .slice A a.length b /\
  wr.ownsRow w 3 1 (.slice A a.length b) a.length (ints .i64 (Z6 a))/\Below w w wr) (λt _ _=>(intOf t).toNat)
 case atStart=>exact⟨s,none,0,[],rfl,E,LH rfl,rfl,BN _ _ _ _,AL _ _⟩
 obtain⟨r,A,b,a,rfl,f,g,rfl,h,d⟩:=hrel;have B:=d.size;by_cases c:r=0
 ·subst c;have n:Wy s=a:=by rw[g,mems_zero,DK]
  have v:=LH n;go_wp2;go_ret;have e:Z6 (Wy s)=Z6 a:=by rw[v]
  rw[e];refine⟨A,b,by rw[Mv];rfl,?_,d⟩;rw[Mv];exact Yl h
 have j:=mems_step r c f;obtain⟨H,_,_,_,I⟩:=Zt1 r c f;have M:((r:Int) != 0)=true:=by rw[BK];omega
 have m:=tz32 r wr c f (z.below d);have G:bits .and .u32 (r:Int) ((r:Int)-1)=((r &&& (r-1):Nat):Int):=by
  rw[show (r:Int)-1=((r-1:Nat):Int) from by omega];exact and32 r (r-1) f AA
 have L:0<r:=AA
 have J:a.length<32:=by
  have:=u.out;rw[g,j,AV,AY] at this;omega
 have x:=LH j;have q:=LH m;generalize Lib.ctz 32 r=k at *;generalize r &&& (r-1)=F at *;go_wp2_with (first
  | (go_at_call 218;refine q.out.mono ?_;rintro e w'⟨rfl,rfl⟩)
  | (at_builtin;refine Vc (w:=wr) rfl _ _ 30 rfl w 3 (.int .i64 0) 8 underlying30 Tryz.infoInt rfl _ a.length _ _ rfl h (.int .i64 ((k:Int))) rfl rfl AA AA AA ?_;intro p y N D C))
 go_roundw
 case rel =>
  have e:ints .i64 (Z6 (a++[k]))=ints .i64 (Z6 a)++[.int .i64 (k:Int)]:=by simp[ints,Z6]
  have l:(a++[k]).length=a.length+1:=AE
  refine⟨F,p,y,a++[k],rfl,AA,LH (by rw[g,x];simp),by rw[l],?_,X6 d C h B⟩;rw[e,l];exact D
 simp[intOf];omega
theorem Wn(ids:Rul->List Bool->List Int):∀a,Qv (Yy ids a)
 | []=>Qv.id
 | r::a=>Qv.comp (f:=Ce ids r) ⟨λN=>((F5 N (ids r N)).1).symm,λN i h=>(F5 N (ids r N)).2 i h⟩ (Wn ids a)
theorem Zzs(ids:Rul->List Bool->List Int)(a:List Rul)(N:List Bool):(Yy ids a N).length=N.length:=(Wn ids a).len N
theorem passI_le(ids:Rul->List Bool->List Int)(a:List Rul)(N:List Bool):LeB N (Yy ids a N):=⟨(Zzs ids a N).symm,λi h=>(Wn ids a).up N i h⟩
theorem Dw(ids:Rul->List Bool->List Int)(a:List Rul)(N:List Bool):∀k,(Z3 (Yy ids a) k N).length=N.length
 | 0=>rfl
 | k+1=>by rw[Z3,Zzs,Dw ids a N k]
theorem passI_null(a:List Rul)(N:List Bool):Yy Bd a N=Xs (Xo false) a N:=by
 unfold Yy Xs;congr 1;funext N r;unfold Ce Bd Qa Xo Jz;split <;> simp
theorem Zx9(a:List Rul)(N:List Bool):∀k,Z3 (Yy Bd a) k N=Z3 (Xs (Xo false) a) k N
 | 0=>rfl
 | k+1=>by rw[Z3,Z3,Zx9 a N k,passI_null]
theorem Mr(o:Option Addr)(n c1:Nat)(xs:List Int)(p:Option Addr)(m c2:Nat)(ys:List Int)(w:World)(g:Za .i64 w o n c1 xs)(l:Za .i64 w p m c2 ys):
 Calls prog 11 #[.slice o n c1,.slice p m c2] w λe w'=>e = .returned (.bool (xs==ys))/\Uz w w':=by
 obtain rfl:=g.len;obtain rfl:=l.len;have E:=g.cap;have F:=l.cap;by_cases b:xs.length=ys.length
 case neg =>
  have e:(xs==ys)=false:=by rw[AQ];intro h;exact b (by rw[h])
  have hi:((xs.length:Int) != (ys.length:Int))=true:=by rw[BK];omega
  rw[e];clear e b;go_enter func11,ntmps11;go_wp2;go_ret;exact⟨rfl,Uz.refl _⟩
 have hi:((xs.length:Int) != (ys.length:Int))=false:=by rw[BM];omega
 have f:=LH b;clear b;go_enter func11,ntmps11;go_wp2;go_loopw [5] (λi wr=>∃k:Nat,k<=xs.length/\i = .int .i64 (k:Int)/\Hid (xs.take k=ys.take k)/\Uz w wr) (λi _=>xs.length-(intOf i).toNat)
 case atStart=>exact⟨0,AS _,rfl,LH rfl,Uz.refl _⟩
 obtain⟨k,G,rfl,q,a⟩:=hrel;by_cases s:k<xs.length
 ·obtain⟨t,H,x,rfl,A,Hx,C⟩:=(g.same a).get (j:=k) s;obtain⟨u,I,y,rfl,B,r,D⟩:=(l.same a).get (j:=k) (by have:=f.out;omega);have g0:(0:Int)<=(k:Int):=AA
  have v:(k:Int)<(xs.length:Int):=AA
  have z:(k:Int)<(ys.length:Int):=by have:=f.out;omega
  by_cases c:x=y
  ·subst c;go_wp2;go_quiet (fail)
   go_wp2;go_roundw
   case rel=>exact⟨k+1,AA,AF,LH (by rw[Du,Du,q,Hx,r]),a.drewN _⟩
   simp[intOf];omega
  have e:(xs==ys)=false:=by
   rw[AQ];rintro rfl;have:=Hx.symm.trans r;exact c (by simpa using this)
  have hd:(x != y)=true:=by rw[BK];exact c
  have d:=LH e;clear e c;go_wp2;go_quiet (fail)
  go_wp2;go_ret;exact⟨by rw[d];rfl,a.drewN _⟩
 have e:(xs==ys)=true:=by
  have:=q.out;have:=f.out;rw[AR AA,AR AA] at *;simpa using ‹_=_›
 have d:=LH e;clear e;go_wp2;go_ret;exact⟨by rw[d];rfl,a⟩
theorem passI_prod(a:List Rul)(N:List Bool):Yy Bn a N=Xs (Xo true) a N:=by
 unfold Yy Xs;congr 1;funext N r;unfold Ce Bn Qa Xo Jz;split <;> simp
theorem Zy0(a:List Rul)(N:List Bool):∀k,Z3 (Yy Bn a) k N=Z3 (Xs (Xo true) a) k N
 | 0=>rfl
 | k+1=>by rw[Z3,Z3,Zy0 a N k,passI_prod]
theorem passI_len'(ids:Rul->List Bool->List Int)(a:List Rul)(N:List Bool):(Yy ids a N).length=N.length:=(Wn ids a).len N
theorem stands_eq{P:List Bool}(o:∀i,N.getD i false=true->P.getD i false=true){ss:List Int}{k:Nat}(j:ss[k]? = some s):Zyn N P ss s=Xk N P ss k s:=by
 by_cases n:s<0
 case neg=>unfold Zyn Xk;simp[n]
 have e:Vo N ss=Vo N (ss.take k)++(Vo N [s]++Vo N (ss.drop (k+1))):=by
  have r:=(AO.1 j).1;have b:ss.drop k=s::ss.drop (k+1):=by
   rw[Ec r];congr 1;exact (AO.1 j).2
  have e:ss=ss.take k++([s]++ss.drop (k+1)):=by rw[List.singleton_append,<-b,List.take_append_drop]
  conv=>lhs;rw[e]
  unfold Vo;rw[List.filter_append,List.filter_append]
 have t:Xj true P [s]=P.getD (Zp s) false:=by unfold Xj;simp <;> omega
 rw[Cs];unfold Zyn Xk J6;rw[allP_split j,t];simp only[AU,CJ,decide_eq_true_eq,n,true_and];have g:=λl=>@bareL_nil N l;constructor
 ·rintro⟨m,a⟩;have q:Vo N (ss.take k)=[]/\Vo N (ss.drop (k+1))=[]:=by
   rw[e] at a;by_cases d:Xg N s=true
   ·have h:Vo N [s]=[]:=by unfold Vo;simp[d]
    rw[h,DA] at a;rcases a with a | ⟨a,p⟩
    ·rw[List.length_eq_zero_iff,List.append_eq_nil_iff] at a;exact a
    exfalso;have c:=AN p;rcases DD.1 c with c | c;all_goals
     unfold Vo at c;rw[List.mem_filter] at c;simp[d] at c
   have h:Vo N [s]=[s]:=by unfold Vo;simp[d]
   rw[h] at a;simp only[AV,AY,DE] at a;rcases a with a | ⟨a,p⟩
   ·omega
   exact⟨List.length_eq_zero_iff.1 AA,List.length_eq_zero_iff.1 AA⟩
  have b:=(g _).1 q.1;have f:=(g _).1 q.2;exact⟨⟨b,f⟩,Zuh o b,m,Zuh o f⟩
 rintro⟨⟨b,f⟩,u,m,v⟩;refine⟨m,?_⟩;rw[e,(g _).2 b,(g _).2 f,DA,DK];by_cases d:Xg N s=true
 ·left;unfold Vo;simp[d]
 right;unfold Vo;simp[d]
theorem growN_le(h:Le' N M):Le' (Qa (Xo false) r N) (Qa (Xo true) r M):=by
 refine⟨by rw[(N2 _ r).len,(N2 _ r).len];exact h.1,λi hi=>?_⟩;unfold Qa at hi ⊢;by_cases a:Xo false r N=true
 ·rw[if_pos a,Uh] at hi;have b:Xo true r M=true:=allP_mono h.2 a;rw[if_pos b,Uh];rcases hi with hi | ⟨hi,c⟩
  ·exact .inl (h.2 i hi)
  exact .inr ⟨hi,by rw[<-h.1];exact c⟩
 rw[if_neg a] at hi;split
 ·rw[Uh];exact .inl (h.2 i hi)
 exact h.2 i hi
theorem passN_le{a:List Rul}(h:Le' N M):Le' (Xs (Xo false) a N) (Xs (Xo true) a M):=by
 induction a generalizing N M with
 | nil=>exact h
 | cons r a b=>exact b (growN_le h)
theorem null_prod(G:Gr):∀i,(Zj G).getD i false=true->(Zt G).getD i false=true:=by
 rw[Qe];unfold Zt U5;generalize G.nons.length=n;have:∀k,Le' (Z3 (Xs (Xo false) G.rules) k (List.replicate n false)) (Z3 (Xs (Xo true) G.rules) k (List.replicate n false)):=λk=>by
  induction k with
  | zero=>exact⟨rfl,λ_ h=>h⟩
  | succ k a=>exact passN_le a
 exact (this n).2
theorem growSt_small(N P:List Bool)(r:Rul)(k:Nat)(h:We F):We (Um N P r k F):=by
 unfold Um;split
 ·exact h
 split
 ·exact h.addAt _ (Ua _)
 exact h
theorem N1(N P:List Bool)(r:Rul)(h:We F):∀k,We (Y2 N P r k F)
 | 0=>h
 | k+1=>by rw[Uk];exact growSt_small N P r k (N1 N P r h k)
theorem Lm(N P:List Bool)(a:List Rul)(h:We F):We (Wo N P a F):=by
 induction a generalizing F with
 | nil=>exact h
 | cons r a b=>exact b (N1 N P r h _)
theorem Ks(G:Gr):We (Yz G):=Lm _ _ _ (We.zero _)
theorem orderS_end(S:List Nat)(n:Nat)(k:use<4294967296):Qx (U2 S use (Y4 S use n n).2) n=none:=by
 cases d:Qx (U2 S use (Y4 S use n n).2) n with
 | none=>rfl
 | some i =>
   exfalso;have a:=(Zzg S use n).fix (List.replicate n false);rw[Eg] at a;have f:=B8 S use n (List.replicate n false) n;rw[Eg] at f;rw[Co] at d;generalize Z3 (Dn S use n) n (List.replicate n false)=b at *;unfold Dn at a;rw[d] at a;simp only[] at a;obtain⟨hi,c⟩:=Cj d;unfold U2 at c;simp only[AU] at c;have g:=Ztx k c.1.1;have h:b.getD i false=true:=by
    rw[<-a];exact (Uh b i i).2 (.inr ⟨rfl,AA⟩)
   have j:(Nm b).testBit i=true:=by
    unfold Nm;rw[J3,h];simp[g,f,hi]
   rw[j] at c;exact absurd c.1.2 AC
theorem F3(A:Option Addr)(n c i:Nat)(xs pat:List Nat)(w:World)(h:Zq .u8 w A n c xs)(f:∀x∈xs,x<256)(g:∀x∈pat,x<256)(z:n<=100000)(hi:i<=100000)(B:1<=pat.length/\pat.length<=100):
 Calls prog 176 #[.slice A n c,.int .i64 (i:Int),.string (str pat)] w λe w'=>e = .returned (.bool (Bz xs i pat))/\w=w':=by
 obtain rfl:=h.len;have v:=h.cap;have D:=Zs1 pat
 by_cases k:i+pat.length<=xs.length
 ·obtain⟨b,E,rfl,u,p⟩:=h.at_ AA;have j:=h.part i pat.length (c-i) AA AA AA;have l:((xs.drop i).take pat.length).length=pat.length:=by rw[BS,BT];omega
  have a:Bz xs i pat=((str ((xs.drop i).take pat.length)).toList==(str pat).toList):=by
   unfold Bz;rw[DW k,Bool.true_and,Cs,BA,BW];constructor
   ·intro h;rw[h]
   intro h;have m:str ((xs.drop i).take pat.length)=str pat:=by
    have:=Ql (str ((xs.drop i).take pat.length)) (str pat);rw[h,beq_self_eq_true] at this;simpa using this.symm
   have o:=congrArg Zh m;rwa [Vd _ λy r=>f y (List.mem_of_mem_drop (List.mem_of_mem_take r)),Vd _ g] at o
  generalize (xs.drop i).take pat.length=sub at *;rw[<-l] at j;have q:=Ux (P:=prog) w 57 5 9 underlying57 underlying5 underlying9 _ _ sub j;rw[l] at q;have d:=LH a;have s:IntKind.i64.wrap ((i:Int)+(pat.length:Int))=((i+pat.length:Nat):Int):=by rw[Cc _ AA];omega
  have F:((i+pat.length:Nat):Int)<=(xs.length:Int):=AA
  clear a j p h f g;go_enter func176,ntmps176;go_wp2_with fail;go_ret;exact⟨by rw[d];rfl,rfl⟩
 have a:Bz xs i pat=false:=by unfold Bz;rw[BR k];rfl
 have s:IntKind.i64.wrap ((i:Int)+(pat.length:Int))=((i+pat.length:Nat):Int):=by rw[Cc _ AA];omega
 have d:=LH a;have t:decide (((i+pat.length:Nat):Int)<=(xs.length:Int))=false:=by rw[AZ];omega
 clear a h f g;go_enter func176,ntmps176;go_wp2_with fail;go_ret;exact⟨by rw[d];rfl,rfl⟩
theorem rf_skip7(A:Option Addr)(n c i:Nat)(xs:List Nat)(w:World)(h:Zq .u8 w A n c xs)(a:∀x∈xs,x<256)(k:n<=100000)(hi:i<n)(l:Ci xs i=true):
 Calls prog 128 #[.slice A n c,.int .i64 (i:Int)] w λe w'=>e = .returned (.tuple #[.int .i64 ((if Jv (xs.getD i 0) then i+1 else i:Nat):Int),.bool (Jv (xs.getD i 0))])/\w=w':=by
 obtain rfl:=h.len;have G:=h.cap;unfold Ci at l;simp only[AU,Bool.not_eq_true',BK,ne_eq] at l;obtain⟨⟨⟨⟨o,p⟩,q⟩,v⟩,y⟩:=l;have c1:=F3 A xs.length c i xs [47,42] w h a AC k AA AC;have c2:=F3 A xs.length c i xs [47,47] w h a AC k AA AC;have c3:=F3 A xs.length c i xs [37,123] w h a AC k AA AC;rw[o] at c1;rw[p] at c2;rw[q] at c3;rw[show str [47,42]=⟨#[47,42]⟩ from rfl] at c1;rw[show str [47,47]=⟨#[47,47]⟩ from rfl] at c2;rw[show str [37,123]=⟨#[37,123]⟩ from rfl] at c3;obtain⟨b,H,x,rfl,E,Hx,F⟩:=h.get hi;have r:xs.getD i 0=x:=by rw[AP,Hx.out];rfl
 rw[r] at v y ⊢;have s:=LH c1;have t:=LH c2;have u:=LH c3;clear c1 c2 c3 o p q h a r;have B:((x:Int)==60)=false:=by rw[AQ];omega
 have D:((x:Int)==123)=false:=by rw[AQ];omega
 have z:x=32\/x=9\/x=10\/x=13\/(((x:Int)==32)=false/\((x:Int)==9)=false/\((x:Int)==10)=false/\((x:Int)==13)=false/\Jv x=false):=by
  by_cases d:x=32
  ·exact .inl d
  by_cases f:x=9
  ·exact .inr (.inl f)
  by_cases g:x=10
  ·exact .inr (.inr (.inl g))
  by_cases j:x=13
  ·exact .inr (.inr (.inr (.inl j)))
  refine .inr (.inr (.inr (.inr ⟨?_,?_,?_,?_,by simp[Jv,d,f,g,j]⟩))) <;> (rw[AQ];omega)
 rcases z with rfl | rfl | rfl | rfl | ⟨d,f,g,j,m⟩;all_goals
  first
   | rw[m,if_neg DG]
   | rw[show Jv 32=true from rfl,if_pos rfl]
   | rw[show Jv 9=true from rfl,if_pos rfl]
   | rw[show Jv 10=true from rfl,if_pos rfl]
   | rw[show Jv 13=true from rfl,if_pos rfl]
  go_enter func128,ntmps128;go_wp2_with (first
   | (go_at_call 176;(with_reducible refine s.out.mono ?_);rintro e I⟨rfl,rfl⟩)
   | (go_at_call 176;(with_reducible refine t.out.mono ?_);rintro e J⟨rfl,rfl⟩)
   | (go_at_call 176;(with_reducible refine u.out.mono ?_);rintro e L⟨rfl,rfl⟩))
  refine AW (results_tmp2 rfl _ _ _) rfl ?_;exact⟨by first | rfl | (simp[Jv];done) | (simp[m];done),rfl⟩
theorem own_prds{w:World}{base e:Nat}{r:Nat->Prop}(h:w.ownsRow base e 5 (.slice A n c) n cs)(o:Vu w r cs ps):Prds w A n c ps:=by
 have k:ps.length=n:=by have:=h.1;have:=o.1;omega
 rcases h.2 with ⟨m,rfl⟩ | ⟨g,cap,E,m,F,p,B,v,G,J⟩
 ·injection m with a f b;subst a;subst b;exact⟨k,AJ _,AA,λd=>absurd d AA⟩
 injection m with a f b;subst a;subst b;have l:g<w.heap.size:=by
  rcases BD g w with l | z
  ·exact l
  rw[CZ z] at p;cases p
 refine⟨k,B,by simpa [maxLen] using v,λI=>⟨g,0,rfl,l,λj t q=>?_⟩⟩;have H:j<n:=by rw[<-k];exact (AO.1 q).1
 obtain⟨Ar,cr,x,y,C,D,d,a,f,b,s,u,_⟩:=o.2 j t q;refine⟨Ar,cr,x,y,C,D,?_,?_,?_,?_,?_,u⟩
 ·rw[BF,h.cellAt (j*5) AA];exact d
 ·rw[BF,h.cellAt (j*5+1) AA];exact a
 ·rw[BF,h.cellAt (j*5+2) AA];exact f
 ·rw[BF,h.cellAt (j*5+3) AA];exact b
 rw[BF,h.cellAt (j*5+4) AA];exact s
theorem Wk.grAt{w:World}{h:GH}{G:Gr}(k:Wk w p B h G):Yf w h G:=by
 obtain⟨cs,a,b⟩:=k.r3;exact⟨Cr k.r1,Yl k.r2,Cn a b,k.wf⟩
theorem Wk.grAt_ahead{w:World}{h:GH}{G:Gr}(k:Wk w p B h G)(l:w.heap.size<=w'.heap.size)(d:∀b,b<w.heap.size->p<b->w'.heap[b]? = w.heap[b]?):Yf w' h G:=by
 obtain⟨cs,g,j⟩:=k.r3;exact⟨Cr (Yq k.r1 λb a _ c=>d b c a),Yl (Yq k.r2 λb a _ c=>d b c a),Cn (Yq g λb a _ c=>d b c a) (j.keep l λb a f=>⟨d b a f.2.2,f⟩),k.wf⟩
theorem Wc.parts{w:World}(h:Wc w p ts):∃A c x y b d,Kq w p A ts.length c ts/\p<w.heap.size/\Blk w p 186 #[.slice A ts.length c,.complex .f64 x y,.complex .f64 b d,.int .i64 0] /\
 w.cell? ⟨p,0,none⟩=some (.slice A ts.length c)/\w.cell? ⟨p,1,none⟩=some (.complex .f64 x y)/\w.cell? ⟨p,2,none⟩=some (.complex .f64 b d)/\w.cell? ⟨p,3,none⟩=some (.int .i64 0):=by
 obtain⟨g,A,c,x,y,b,d,a,f⟩:=h;exact⟨A,c,x,y,b,d,f,a.lt,a,by rw[a.cell];rfl,by rw[a.cell];rfl,by rw[a.cell];rfl,by rw[a.cell];rfl⟩
theorem Ztg(p:Nat)(ts:List Tk)(w:World)(h:Wc w p ts):
 Calls prog 134 #[.pointer (some ⟨p,0,none⟩)] w λe w'=>e = .returned (.int .i64 (Qy ts))/\w=w':=by
 have g:=h.len;obtain⟨A,c,x,y,G,I,a,u,f,l,z,B,C⟩:=h.parts;cases ts with
 | nil =>
   clear h a f;go_enter func134,ntmps134;go_wp2_with fail;go_ret;exact⟨rfl,rfl⟩
 | cons t ts =>
   obtain⟨b,v,H,J,rfl,m,q,D,E,F⟩:=a.head;show Calls _ _ _ _ λe w'=>e = .returned (.int .i64 t.1)/\w=w';obtain⟨n,d⟩:∃n,(t::ts).length=n:=⟨_,rfl⟩;have r:0<n:=by rw[<-d];simp
   have j:=a.2.1;have o:=a.2.2.1;rw[d] at l g j;generalize t.1=k at *;generalize t.2=s at *;clear h a f d;go_enter func134,ntmps134;go_wp2_with fail;go_ret;exact⟨rfl,rfl⟩
theorem rd_is(p:Nat)(a b:Int)(ts:List Tk)(w:World)(h:Wc w p ts):
 Calls prog 185 #[.pointer (some ⟨p,0,none⟩),.int .i64 a,.int .i64 b] w λe w'=>e = .returned (.bool (isP a b ts))/\w=w':=by
 have q:=h.len;have g:=LH (Ztg p ts w h);obtain⟨A,c,x,y,F,G,f,B,l,s,C,D,E⟩:=h.parts;cases ts with
 | nil =>
   clear h f l;go_enter func185,ntmps185;go_wp2_with fail;go_ret;exact⟨rfl,rfl⟩
 | cons t ts =>
   obtain⟨n,j⟩:∃n,(t::ts).length=n:=⟨_,rfl⟩;have z:0<n:=by rw[<-j];simp
   have r:=f.2.1;have v:=f.2.2.1;rw[j] at s q r;have hd:isP a b (t::ts)=(decide (t.1=a) || decide (t.1=b)):=rfl;have m:Qy (t::ts)=t.1:=rfl;rw[hd];rw[m] at g;generalize t.1=k at *;clear h f l j hd m;by_cases d:k=a
   ·have o:(k==a)=true:=by simp[d]
    rw[show (decide (k=a) || decide (k=b))=true by simp[d]];clear d;go_enter func185,ntmps185;go_wp2_with (go_at_call 134;refine g.out.mono ?_;rintro e u⟨rfl,rfl⟩);go_ret;exact⟨rfl,rfl⟩
   have o:(k==a)=false:=by rw[AQ];exact d
   rw[show (decide (k=a) || decide (k=b))=(k==b) by rw[Cs];simp[d]];clear d;go_enter func185,ntmps185;go_wp2_with (go_at_call 134;refine g.out.mono ?_;rintro e u⟨rfl,rfl⟩);go_ret;exact⟨rfl,rfl⟩
theorem Wc.rem{w:World}(h:Wc w p ts):Zyp w p=ts.length:=by
 obtain⟨A,c,x,y,l,m,f,d,b,a,g,j,k⟩:=h.parts;unfold Zyp;rw[a]
theorem rd_decls(p:Nat)(ts:List Tk)(w:World)(h:Wc w p ts)(a:Qy ts=9):
 Calls prog 131 #[.pointer (some ⟨p,0,none⟩)] w λe w'=>e = .returned (.slice none 0 0)/\w=w':=by
 have g:=h.len;have b:=LH (Ztg p ts w h);rw[a] at b;obtain⟨A,c,x,y,u,v,f,k,d,l,m,q,r⟩:=h.parts;have j:0<ts.length:=by
  cases ts with
  | nil=>cases a
  | cons t ts=>simp
 generalize ts.length=n at *;clear h f d a;go_enter func131,ntmps131;go_wp2_with fail;go_loopw [3] (λo wr=>o = .slice none 0 0/\wr=w) (λ_ _=>0)
 case atStart=>exact⟨rfl,rfl⟩
 obtain⟨rfl,rfl⟩:=hrel;go_wp2_with (go_at_call 134;refine b.out.mono ?_;rintro e s⟨rfl,rfl⟩);go_ret;exact⟨rfl,rfl⟩
theorem Zyt.early{wr c:World}{cr:Nat}{x y:Nat}{r:List Tk}{s:TypeId}{q:List Value}{o:Obj}(D:p<wr.heap.size)(f:(wr.alloc o).drew.grownBy c (some p))(n:c.ownsRow (wr.alloc o).drew.heap.size s 2 (.slice Ar rs.length cr) rs.length q)(B:Gi q rs)(A:Wc c p r)(u:Blk c wr 132 #[.string ⟨#[]⟩,.complex .f64 0 0,.slice none 0 0,.string ⟨#[]⟩,.complex .f64 0 0]):
 Zyt wr (((((c.setCell ⟨wr,0,none⟩ (.string L)).setCell ⟨wr,1,none⟩ (.complex .f64 x y)).setCell ⟨wr,2,none⟩ (.slice Ar rs.length cr)).setCell ⟨wr,3,none⟩ (.string ⟨#[]⟩)).setCell ⟨wr,4,none⟩ (.complex .f64 0 0)) p wr Ar cr L x y rs r:=by
 have a:c.grownBy (((((c.setCell ⟨wr,0,none⟩ (.string L)).setCell ⟨wr,1,none⟩ (.complex .f64 x y)).setCell ⟨wr,2,none⟩ (.slice Ar rs.length cr)).setCell ⟨wr,3,none⟩ (.string ⟨#[]⟩)).setCell ⟨wr,4,none⟩ (.complex .f64 0 0)) (some wr) :=
  Zc (Zc (Zc (Zc (Zd _ _ _ _) (Zd _ _ _ _)) (Zd _ _ _ _)) (Zd _ _ _ _)) (Zd _ _ _ _)
 have v:=(((((u.set 0 (.string L)).set 1 (.complex .f64 x y)).set 2 (.slice Ar rs.length cr)).set 3 (.string ⟨#[]⟩)).set 4 (.complex .f64 0 0));have l:(wr.alloc o).drew.heap.size=wr.heap.size+1:=Zl wr o;have C:wr.heap.size+1<=c.heap.size:=by rw[<-l];exact f.size
 have m:∀b d,Ar=some ⟨b,d,none⟩->wr.heap.size+1<=b/\b<c.heap.size:=λb d h=>by
  have h1:=n.lt b (by rw[h];rfl);rwa [l] at h1
 refine⟨AJ _,v,(own_rfs n B).keep a.size λb d h z=>a.block b z λe=>?_,λb d h=>?_,A.keep a.size λk h1 t=>a.block k t λe=>?_,?_⟩
 ·injection e with e;have:=(m b d h).1;omega
 ·have:=m b d h;exact⟨AA,AK this.2 a.size⟩
 ·injection e with e;omega
 have h1:wr.grownBy c (some p):=by
  refine⟨f.os,f.tape,f.output,AA,λk g j=>?_⟩;exact (f.block k (by rw[l];omega) j).trans ((Zy wr o).block k g)
 refine⟨a.os.trans h1.os,a.tape.trans h1.tape,a.output.trans h1.output,BC h1.size a.size,λk g j=>?_⟩;rw[a.block k AA (λe=>by injection e with e;omega),h1.block k g j]
theorem V5{P:Program}{o:Oper}{a:Act}{w:World}{E:Prop}(H:o.guard=none)(s x:Operand)(t:TypeId)(L:o.op = .call { callee := .builtin .append,args:=#[s,x],argTypes:=#[t,t] })(base:Nat)(e:TypeId)(z:Value)(size bytes:Nat)(T:P.underlying t=some (.slice e))(hi:(P.info? e).map (λi=>(i.zero,i.size,i.bytes))=some (some z,size,bytes))(X:z.cells.size=size)(S:0<size)(A:Option Addr)(n c:Nat)(xs:List Value)(O:a.eval s = .slice A n c)(M:w.ownsRow base e size (.slice A n c) n xs)(p:Addr)(m c2:Nat)(k:List Value)(J:k.length=m*size)(V:a.eval x = .slice (some p) m c2)(G:∀j u,k[j]? = some u->w.cell? (p.add j)=some u)(r:∀u∈k,u.oneCell'=true)(B:n+m<=9223372036854775807)(F:(n+m)*bytes<=140737488355328)(C:base<=w.heap.size)(h:∀d f w',w'.ownsRow base e size (.slice d (n+m) f) (n+m) (xs++k)->w.grownBy w' (Value.slice A n c).ownBlock->(∀b,(Value.slice d (n+m) f).ownBlock=some b->b<w.heap.size->(Value.slice A n c).ownBlock=some b)->
   K (a.put o.dst (.slice d (n+m) f)) w'):if Region.wanted o (yielded ops a.tmps)=true then Oper.wp P o a w K Q else E:=by
 have U:Region.wanted o (yielded ops a.tmps)=true:=by simp[Region.wanted,H]
 rw[if_pos U];obtain⟨i,I,W,R,D⟩:=info_parts hi;obtain⟨Z,w',N,q,v,_,g⟩:=run_append_own_at (P:=P) w base t o.type e i z size bytes T I W R D X S _ n xs M p m c2 k J G r (by simpa [maxLen] using B) F C;obtain⟨d,f,rfl⟩:=Zuk q;have y:∀b,(Value.slice d (n+m) f).ownBlock=some b->b<w.heap.size->(Value.slice A n c).ownBlock=some b:=by
  intro b l Y;rcases g with g | g
  ·rw[<-g];exact l
  rw[g] at l;injection l with l;omega
 unfold Oper.wp execOp;simp only[L,resolve,invoke,builtin,Sem.run_bind,Sem.run_pure,Result.andThen_ok,List.map_toArray,CU,List.map_nil,O,V,N];exact h d f w' q v y
theorem Bl(s k:Nat)(w:World)(a:s<4294967296):Calls prog 120 #[.int .u32 (s:Int),.int .i64 (k:Int)] w λe w'=>e = .returned (.bool (s.testBit k))/\w=w' :=
 (ref_has s k w a).mono λe w' h=>by rw[hasN_nat a] at h;exact h
theorem Ztq(G:Gr):Vh G<4294967296:=by
 unfold Vh cycS;split
 ·exact Jg _ _
 decide
theorem Ge(ids:Rul->List Bool->List Int):∀(a:List Rul) {N:List Bool},Yy ids a N=N->∀r∈a,Jz N (ids r N)=N
 | [],N,h,r,b=>by cases b
 | q::a,N,h,r,b=>by
   have c:Ce ids q N=N:=Qv.anti (f:=Ce ids q) (g:=Yy ids a) ⟨λN=>((F5 N (ids q N)).1).symm,λN i h=>(F5 N (ids q N)).2 i h⟩ (Wn ids a) h;rcases BZ.1 b with rfl | b
   ·exact c
   refine Ge ids a ?_ r b;have:Yy ids a (Ce ids q N)=N:=h;rwa [c] at this
theorem Gc(G:Gr)(i:Nat):(Xu (Yz G)).getD i 0<4294967296:=(Lv (Ks G)).get i
theorem Zv8{G:Gr}(c:Xq G){t:Nat}(hi:i<G.nons.length)(h:((Yz G).getD i 0).testBit t=true):(Xu (Yz G)).getD t 0<(Xu (Yz G)).getD i 0:=by
 have b:=Au G c.fits i t h;have j:t<G.nons.length:=by rw[Wh] at b;exact b
 have d:i<(Yz G).length:=by rw[Wh];exact hi
 have h1:Yw (Yz G) i t=true:=Ha d h;have a:=c.none t j;have k:(Xu (Yz G)).getD t 0<=(Xu (Yz G)).getD i 0:=Zyd λq g=>Lh d b h g;have l:(Xu (Yz G)).getD t 0≠(Xu (Yz G)).getD i 0:=λf=>by
  unfold Yw at h1 a;rw[f,h1] at a;cases a
 omega
theorem mu_lt(G:Gr)(n:Nat)(s:Int)(a:n*4294967296+4294967296<=f):mu G n s<f:=by
 have:=Gc G (Zp s);unfold mu;omega
theorem PreO.step{S:List Nat}{a:List Nat × Nat}(h:PreO S use n a):PreO S use n (Zza S use n a):=by
 cases b:Qx (U2 S use a.2) n with
 | none=>rw[Ln b];exact h
 | some j =>
   rw[Ly b];obtain⟨d,g⟩:=Cj b;refine⟨by show a.2 ||| Y6 (j:Int)=_;rw[Zzd,h.1],λp i hi=>?_⟩;simp only[] at hi ⊢;rcases Nat.lt_trichotomy p a.1.length with f | c | k
   ·rw[DB f] at hi;rw[Eh AA];exact h.2 p i hi
   ·subst c;rw[BV (AJ _),Nat.sub_self] at hi;have e:j=i:=by simpa using hi
    subst e;refine⟨d,?_⟩;rw[Eh (AJ _),List.take_length,<-h.1];exact g
   rw[BE AG] at hi;cases hi
theorem Zy3(S:List Nat)(use n:Nat):∀k,PreO S use n (Y4 S use n k)
 | 0=>⟨rfl,λp i h=>by simp[Y4,Z3] at h⟩
 | k+1=>by rw[Nf];exact (Zy3 S use n k).step
theorem Zvg{G:Gr}(b:Xq G)(d:r∈G.rules){a:Nat}{q:Int}(l:r.right[a]? = some q)(o:q<0){k:Nat}(z:m<=n)(j:m=n->∀(p:Nat) s,p<a->r.right[p]? = some s->Xg (Zj G) s=true)(x:k+Uy (Zj G) (r.right.drop (a+1))<=m)(t:Zp s=r.left.toNat):mu G k q<mu G n s:=by
 have h1:=Gc G (Zp q);have y:=b.fits.left r d;unfold mu;rcases BD k n with h | h
 ·omega
 obtain rfl:k=n:=AA
 obtain rfl:m=k:=AA
 have v:Uy (Zj G) (r.right.drop (a+1))=0:=AA
 have u:=D2 b d l o λp g A f=>by
  rcases BD p a with c | c
  ·exact j rfl p g c f
  refine low_zero v g (AN (i:=p-(a+1)) ?_);rw[DY,show a+1+(p-(a+1))=p by omega];exact f
 have:=Zv8 b (i:=r.left.toNat) AA u;rw[t];omega
def chkT(G:Gr)(a:List Nat)(tab:Nat->Nat->Nat)(n:Nat):Bool :=
 (List.range (n+1)).all λm=>(List.range a.length).all λp=>Nat.beq (Yc (Yk (B6 tab a m p)) G.rules (a.getD p 0) m) (tab m (a.getD p 0))
def chkO(G:Gr)(a:List Nat):Bool :=
 (List.range G.nons.length).all (λi=>a.contains i)&&a.all (λi=>decide (i<G.nons.length)) &&
   (List.range a.length).all λp=>(List.range G.nons.length).all λt=>!((Yz G).getD (a.getD p 0) 0).testBit t || (a.take p).contains t
theorem Bt{G:Gr}(g:G.Fits)(h:chkO G a=true):Ni G a:=by
 unfold chkO at h;simp only[AU,BG,BQ,decide_eq_true_eq,List.contains_iff_mem,CJ,Bool.not_eq_true'] at h;obtain⟨⟨h1,d⟩,f⟩:=h;refine⟨d,λp i hi t b=>?_,λi hi=>h1 i hi⟩;have j:p<a.length:=(AO.1 hi).1;have e:a.getD p 0=i:=by rw[AP,hi];rfl
 have c:=Au G g i t b;rw[Wh] at c;rcases f p j t c with h | h
 ·rw[e,b] at h;cases h
 exact h
theorem Red2.name{f:World}{C:Value}{G:Gr}{w:World}{p:Option Addr}{s:Nat}{v:List Nat}(r:Red2 f g d n C G w o q p s v a)(L:d<f.heap.size)(J:g<f.heap.size)(z:d≠g){l:Nat}(H:l∉a)(j:Option Addr)(m:Nat)(B:w1.ownsRow f 9 1 (.slice j (a.length+1) m) (a.length+1) ((a.map λi=>Value.string (Ws G i))++[.string (Ws G l)]))(F:(w.setCell ⟨d,l,none⟩ (.int .i64 (a.length:Int))).grownBy w1 (Value.slice p a.length s).ownBlock):
 Red2 f g d n C G (w1.setCell ⟨g,1,none⟩ (.slice j (a.length+1) m)) o q j m v (a++[l]):=by
 have t:=Off.of_grown F;have y:=Off.of_set w d l (.int .i64 (a.length:Int));have u:=Off.of_set w1 g 1 (.slice j (a.length+1) m);have x:∀b,(Value.slice p a.length s).ownBlock=some b->f.heap.size<=b:=λb c=>(r.nons.lt b c).1;have A:∀b,(Value.slice o v.length q).ownBlock=some b->f.heap.size<=b:=λb c=>(r.kept.lt b c).1;have E:∀b,(Value.slice o v.length q).ownBlock=some b->(Value.slice p a.length s).ownBlock=some b->False:=λb h1 D=>Fe r.kept r.nons AC h1 D;have I:Blk (w.setCell ⟨d,l,none⟩ (.int .i64 (a.length:Int))) d 3 (ints .i64 (toL n (a++[l]))).toArray:=by
  have:=Blk.set r.tos l (.int .i64 (a.length:Int));have e:(ints .i64 (toL n a)).toArray.setIfInBounds l (.int .i64 (a.length:Int))=(ints .i64 (toL n (a++[l]))).toArray:=by
   rw[<-toL_set H];simp[ints,List.map_set]
  rw[e] at this;exact this
 refine⟨((r.off.trans y λk _ h => .inl h).trans t λk M h=>?_).trans u λk _ h => .inr h,u.blk (t.blk I λh=>?_) z,?_,?_,?_⟩
 ·have:=x k h;omega
 ·have:=x d h;omega
 ·have h1:=t.blk (y.blk r.out λh=>z h.symm) λh=>by have:=x g h;omega
  have:=Blk.set h1 1 (.slice j (a.length+1) m);rw[AV,CX];exact this
 ·exact u.row (t.row (y.row r.kept λb c h=>by have:=A b c;omega) λb c h=>E b c h) λb c h=>by have:=A b c;omega
 rw[AV,CX,DJ];refine u.row B λb c h=>?_;have:=(B.lt b c).1;omega
theorem Wk.lens{w:World}{h:GH}{G:Gr}(k:Wk w p B h G):G.terms.length=h.n1/\G.nons.length=h.n2/\G.rules.length=h.n3:=⟨k.grAt.terms.len,k.grAt.nons.len,k.grAt.rules.len⟩
theorem Cm{b:Bool}{G a:Gr}{s:ByteArray}{i:Int}(h:Nl b G s=some (i,a))(h1:G.terms.length<=24)(c:G.nons.length<=16):a.nons=G.nons/\a.rules=G.rules/\a.start=G.start/\-17<=i/\i<=24:=by
 rcases Bu h with ⟨h0,_,rfl,rfl⟩ | ⟨_,h0,_⟩
 ·have d:=(U9 (λt=>decide (t=s)) a.nons).2;have f:a.non s=Y8 (λt=>decide (t=s)) a.nons:=rfl;exact⟨rfl,rfl,rfl,AA,AA⟩
 exact termP_keep h0 h1
theorem right_more{w d x l:World}{j t:Nat}{h k:GH}{y:Gr}{f s:Option Addr}{u:List Int}{C:Int}{P:Array Value}(A:Wk d p w k y)(n:V6 w d p h k)(I:d.ownsRow m 3 1 (.slice f j g) j (ints .i64 u))(B:∀b,(Value.slice f j g).ownBlock=some b->¬J8 p k b)(F:¬J8 p k q)(O:w.heap.size<q)(N:q<m)(M:m<=d.heap.size)(z:Blk d w 132 P)(J:x.ownsRow m 3 1 (.slice s (j+1) t) (j+1) (ints .i64 u++[.int .i64 C]))(r:d.grownBy x (Value.slice f j g).ownBlock)(E:∀b,(Value.slice s (j+1) t).ownBlock=some b->b<d.heap.size->(Value.slice f j g).ownBlock=some b)(o:x.grownBy l (some q)):
 Wk l p w k y/\V6 w l p h k/\l.ownsRow m 3 1 (.slice s (j+1) t) (j+1) (ints .i64 (u++[C]))/\(∀b,(Value.slice s (j+1) t).ownBlock=some b->¬J8 p k b)/\Blk l w 132 P/\d.heap.size<=l.heap.size:=by
 have R:=r.size;have S:=o.size;have T:=n.size;have L:∀b,(Value.slice f j g).ownBlock=some b->m<=b/\b<d.heap.size:=λb c=>I.lt b c;have key:∀b,b<d.heap.size->b≠q->(Value.slice f j g).ownBlock≠some b->l.heap[b]? = d.heap[b]? := λb c h1 D =>
  (o.block b AA (by intro e;injection e with e;exact h1 e)).trans (r.block b c λe=>D e.symm)
 have v:∀b,b<=w.heap.size->(Value.slice f j g).ownBlock≠some b:=λb c e=>by have:=(L b e).1;omega
 refine⟨A.away AA λb c a=>key b c ?_ ?_,⟨o.os.trans (r.os.trans n.os),o.tape.trans (r.tape.trans n.tape),o.output.trans (r.output.trans n.output),AA,λb c H=>?_,n.back⟩,?_,λb c a=>?_,?_,AA⟩
 ·rcases a with a | a
  ·intro e;rw[e] at a;exact F a
  omega
 ·rcases a with a | a
  ·intro e;exact B b e a
  exact v b AA
 ·rw[key b AA AA (v b AA),n.keep b c H]
 ·rw[Zzm];exact Yq J λb c _ G=>o.block b G (by intro e;injection e with e;omega)
 ·have:=A.foot_lt a;exact B b (E b c this) a
 exact (key _ z.lt AA (v _ (AJ _))).trans z
theorem Zwr.early{W a:World}{n:Int}{o:Obj}(c:Below (W.alloc o).drew.heap.size (W.alloc o).drew a)(b:Blk a W 60 #[.int .i64 0,.slice none 0 0,.int .i64 0]):
 Zwr W (((a.setCell ⟨W,0,none⟩ (.int .i64 n)).setCell ⟨W,1,none⟩ (.slice none 0 0)).setCell ⟨W,2,none⟩ (.int .i64 (-1))) W n:=by
 have h1:Below W W a:=Zz ((Zy W o).drew) c;exact⟨AJ _,((b.set 0 (.int .i64 n)).set 1 (.slice none 0 0)).set 2 (.int .i64 (-1)),Zg (Zg (Zg h1 _ _ _ (AJ _)) _ _ _ (AJ _)) _ _ _ (AJ _)⟩
theorem Vb{w a:World}(f:Blk a g 110 #[.slice none 0 0,.bool false])(d:Below w w a)(l:w.heap.size<=g)(A:Option Addr)(n c:Nat)(b:Bool):
 Below w w ((a.setCell ⟨g,0,none⟩ (.slice A n c)).setCell ⟨g,1,none⟩ (.bool b)) /\
 Blk ((a.setCell ⟨g,0,none⟩ (.slice A n c)).setCell ⟨g,1,none⟩ (.bool b)) g 110 #[.slice A n c,.bool b]/\Zf a ((a.setCell ⟨g,0,none⟩ (.slice A n c)).setCell ⟨g,1,none⟩ (.bool b)):=by
 refine⟨(d.trans (Zn (Zd _ _ _ _) d.size l)).trans (Zn (Zd _ _ _ _) (by simpa using d.size) l),(f.set 0 _).set 1 _,?_⟩;refine Zf.of_off ((Off.of_set a g 0 (.slice A n c)).trans (Off.of_set _ g 1 (.bool b)) λ_ _ h=>h) λq m=>?_;rw[m];intro o k z j;rw[f.cell o] at j;rcases o with _ | _ | o <;> cases j
def Z0(T:Int->Nat->Nat)(b:List Rul)(a i n:Nat):Nat:=Yc T (b.take i) a n
inductive UnL (G:Gr):List Int->Nat->Nat->List Nat->Prop
 | nil:UnL G [] 0 0 []
 | term {s:Int} {l:List Int} {n r:Nat} {t:List Nat}:0<=s->UnL G l n r t->UnL G (s::l) (n+1) r t
 | non {s:Int} {l:List Int} {n k i q r:Nat} {x:Rul} {t1 t2:List Nat}:s<0->G.rules[i]? = some x->x.left.toNat=Zp s->UnL G x.right k q t1->UnL G l n r t2->
    UnL G (s::l) (k+n) (Yv (Zv G) s l (k+n) k+(Z0 (Zv G) G.rules (Zp s) i k+q)*Zx (Zv G) l n+r) (i::(t1++t2))
theorem Cq{a:List Rul}{k:Nat}(b:a[k]? = some r)(i n:Nat):Yc T (a.take (k+1)) i n=Yc T (a.take k) i n+(if r.left.toNat=i then Zx T r.right n else 0):=by
 rw[Du,b];exact Gg T _ r i n
theorem Jc.len{w:World}{N:Nat}{tab:Nat->Nat->Nat}(h:Jc w B A n c N a tab):a.length=n:=by
 have:=h.own.1;simpa using this
theorem Jc.tab{w:World}{N:Nat}{tab:Nat->Nat->Nat}(h:Jc w B A n c N a tab):Zyq w A n c N tab:=by
 have d:=Yl h.own;have l:=h.len;refine⟨d.2.1,d.2.2.1,λp=>?_⟩;obtain⟨b,k,e,g,j⟩:=d.2.2.2 AG;refine⟨b,k,e,g,λm o=>?_⟩;have f:a[m]? = some (a[m]' AA):=AM AA;refine⟨_,?_,(h.row m _ f).2⟩;rw[j m AG,BB,f];rfl
theorem ord22A:chkO Xt [0]=true:=AB
theorem chk22A:chkT Xt [0] tab22A 4=true:=AB
theorem UnL.inside{G:Gr}{r:Nat}{t:List Nat}(h:UnL G l n r t):∀i∈t,i<G.rules.length:=by
 induction h with
 | nil=>intro i hi;cases hi
 | term _ _ c=>exact c
 | @non s l n k i q r x m o h0 b g u1 u2 d f =>
   intro j a;rcases BZ.1 a with rfl | a
   ·exact (AO.1 b).1
   rcases DD.1 a with a | a
   ·exact d j a
   exact f j a
theorem UnL.to{G:Gr}{a r b:Nat}{t c:List Nat}(h:UnL G l n r t)(d:n=a)(f:r=b)(g:t=c):UnL G l a b c:=by subst d f g;exact h
theorem ahead22(h0:T (-1) 0=0)(h1:T (-1) 1=1)(a:T (-1) 2=1)(b:T 0=K0):
 Z0 T Xt.rules 0 1 1=0/\Yv T (-1) [] 1 1=0/\Yv T (-1) [-1] 2 1=0/\Yv T (-1) [] 2 2=0/\Yv T (-1) [-1] 3 1=0/\Yv T (-1) [-1] 3 2=1:=by
 refine⟨?_,?_,?_,?_,?_,?_⟩;all_goals simp[Z0,Yv,Yc,Xt,Zx,Vi,List.range,List.range.loop,h0,h1,a,b]
def X5(xs a:List Nat):List Nat × Nat × Nat :=
 if ¬(Zm xs=true/\xs.length≠0) then ([],0,1)
 else if 1000<a.length then ([],0,5)
 else if B9 xs=0 then ([],0,0)
 else Zrr (val xs) (Zrs xs) (B9 xs) (a.length+1) 0 a
def RetMake(G:Gr)(n:Nat)(w:World)(e:Ending)(w':World):Prop:=Below w.heap.size w w'/\∃A c tab,e = .returned (.slice A (n+1) c)/\Zyq w' A (n+1) c G.nons.length tab/\∀k,k<=n->∀i,i<G.nons.length->tab k i=Zv G (-1-(i:Int)) k
theorem rulesT_take{a:List Rul}{k:Nat}(b:a[k]? = some r)(i n:Nat):Yc T (a.take (k+1)) i n=Yc T (a.take k) i n+(if r.left.toNat=i then Zx T r.right n else 0):=by
 rw[Du,b];exact Gg T _ r i n
structure TbG (W0:World) (h:GH) (G:Gr) (At:Option Addr) (nt ct:Nat) (tab:Nat->Nat->Nat):Prop where
 at_:Yf W0 h G
 tabm:Zyq W0 At nt ct G.nons.length tab
 told:∀k,k<nt->∀i,i<G.nons.length->tab k i=Zv G (-1-(i:Int)) k
 nt:nt<=11
 n1:h.n1<=100
 n2:h.n2<=100
 n3:h.n3<=100
theorem TbG.tree{b:World}{h:GH}{G:Gr}{a:Nat}{tab:Nat->Nat->Nat}(T:TbG b h G At a d tab)(g:G.has s=true){k:Nat}(f:k<a):Yk tab s k=Zv G s k:=by
 unfold Yk;by_cases h0:0<=s
 ·rw[if_pos h0,Xb G h0]
 have j:=H7 g;rw[if_neg h0,T.told k f (Zp s) (by unfold Zp;omega)];congr 1;unfold Zp;omega
theorem TbG.forest{b:World}{h:GH}{G:Gr}{a:Nat}{tab:Nat->Nat->Nat}(T:TbG b h G At a d tab)(f:∀s∈l,G.has s=true)(n:m<a):Zx (Yk tab) l m=Zx (Zv G) l m :=
 Wp λs g k j=>T.tree (f s g) AA
section
variable {P:Program} {w:World}
theorem Zzi{o:Oper}{a:Act}(H:o.guard=none)(s x:Operand)(t:TypeId)(L:o.op = .call { callee := .builtin .append,args:=#[s,x],argTypes:=#[t,t] })(base:Nat)(e:TypeId)(z:Value)(size bytes:Nat)(T:P.underlying t=some (.slice e))(hi:(P.info? e).map (λi=>(i.zero,i.size,i.bytes))=some (some z,size,bytes))(W:z.cells.size=size)(S:0<size)(A:Option Addr)(n c:Nat)(xs:List Value)(O:a.eval s = .slice A n c)(M:w.ownsRow base e size (.slice A n c) n xs)(p:Addr)(m c2:Nat)(k:List Value)(J:k.length=m*size)(U:a.eval x = .slice (some p) m c2)(G:∀j u,k[j]? = some u->w.cell? (p.add j)=some u)(r:∀u∈k,u.oneCell'=true)(B:n+m<=9223372036854775807)(F:(n+m)*bytes<=140737488355328)(D:base<=w.heap.size)(h:∀d f w',w'.ownsRow base e size (.slice d (n+m) f) (n+m) (xs++k)->w.grownBy w' (Value.slice A n c).ownBlock->(∀b,(Value.slice d (n+m) f).ownBlock=some b->b<w.heap.size->(Value.slice A n c).ownBlock=some b)->
   wpList P ops Q rest (a.put o.dst (.slice d (n+m) f)) w'):wpList P ops Q (o::rest) a w:=by
 obtain⟨i,I,V,R,E⟩:=info_parts hi;obtain⟨Y,w',N,q,v,_,g⟩:=run_append_own_at (P:=P) w base t o.type e i z size bytes T I V R E W S _ n xs M p m c2 k J G r (by simpa [maxLen] using B) F D;obtain⟨d,f,rfl⟩:=Zuk q;have y:∀b,(Value.slice d (n+m) f).ownBlock=some b->b<w.heap.size->(Value.slice A n c).ownBlock=some b:=by
  intro b l X;rcases g with g | g
  ·rw[<-g];exact l
  rw[g] at l;injection l with l;omega
 refine wpList_plain H λK C=>?_;unfold Oper.wp execOp;simp only[L,resolve,invoke,builtin,Sem.run_bind,Sem.run_pure,Result.andThen_ok,List.map_toArray,CU,List.map_nil,O,U,N];exact C _ _ (h d f w' q v y)
theorem Ye{o:Oper}{a:Act}(H:o.guard=none)(s x:Operand)(t:TypeId)(J:o.op = .call { callee := .builtin .append,args:=#[s,x],argTypes:=#[t,t] })(base:Nat)(e:TypeId)(z:Value)(size bytes:Nat)(O:P.underlying t=some (.slice e))(hi:(P.info? e).map (λi=>(i.zero,i.size,i.bytes))=some (some z,size,bytes))(T:z.cells.size=size)(N:0<size)(A:Option Addr)(n c:Nat)(xs:List Value)(M:a.eval s = .slice A n c)(L:w.ownsRow base e size (.slice A n c) n xs)(d:List Value)(I:d.length=size)(S:a.eval x = .slice (some ⟨w,0,none⟩) 1 1)(y:∀u∈d,u.oneCell'=true)(D:n+1<=9223372036854775807)(F:(n+1)*bytes<=140737488355328)(U:base<=w.heap.size)(h:∀g l w',w'.ownsRow base e size (.slice g (n+1) l) (n+1) (xs++d)->w.grownBy w' (Value.slice A n c).ownBlock->(∀b,(Value.slice g (n+1) l).ownBlock=some b->b<w.heap.size->(Value.slice A n c).ownBlock=some b)->
   wpList P ops Q rest (a.put o.dst (.slice g (n+1) l)) w'):wpList P ops Q (o::rest) a (w.alloc (.cells d.toArray e)):=by
 have G:∀j u,d[j]? = some u->(w.alloc (.cells d.toArray e)).cell? ((⟨w,0,none⟩:Addr).add j)=some u:=by
  intro j u R;have r:(⟨w,0,none⟩:Addr).add j=⟨w,j,none⟩:=by
   unfold Addr.add;split
   ·rename_i v;subst v;rfl
   simp
  rw[r,World.cell?_alloc_mark];simpa using R
 refine Zzi H s x t J base e z size bytes O hi T N A n c xs M (L.alloc _) _ 1 1 d (by rw[I,Nat.one_mul]) S G y D F AG λg l w' B m C=>?_;have f:w.grownBy (w.alloc (.cells d.toArray e)) (Value.slice A n c).ownBlock:=World.grownBy_alloc _ _ _;exact h g l w' B ⟨m.os.trans f.os,m.tape.trans f.tape,m.output.trans f.output,BC f.size m.size,λk p q=>(m.block k (AK p f.size) q).trans (f.block k p q)⟩ λb E V=>C b E AG
end
section
open Go.Maps (Keyed IsMap Tidy)
theorem at_numD(z:DataW Unit)(i:Nat):∀a:List Nat,a.Nodup->i∈a->(Zys a).atKey (Dc i) z = .lit (.int .i64 (toI a i)):=by
 intro a
 induction a using K3 with
 | h0=>intro _ h;cases h
 | h1 o j k =>
   intro d c;rw[Zvz];rw[List.nodup_append] at d;obtain⟨f,_,g⟩:=d;have b:j∉o:=λh=>g j h j AE rfl;by_cases h:i=j
   ·subst h;rw[Maps.atKey_put_same (by unfold Zys;exact D8 _) (Zt4 i),Zsp b]
   rw[Maps.atKey_put_other (nKey_ne h),toI_more b h];refine k f ?_;rw[DD,BP] at c;exact c.resolve_right h
theorem Zvs.name{d:World}{y:Value}{G:Gr}{w:World}{p:Option Addr}{s:Nat}{u:List Nat}{l:Nat}(r:Zvs d g f y G w o q p s u a l)(E:f<d.heap.size)(F:g<d.heap.size)(A:f≠g)(j:Option Addr)(m:Nat)(x:w1.ownsRow d 9 1 (.slice j (a.length+1) m) (a.length+1) ((a.map λi=>Value.string (Ws G i))++[.string (Ws G l)]))(C:w.grownBy w1 (Value.slice p a.length s).ownBlock):
 Dm d g f y G (w1.setCell ⟨g,1,none⟩ (.slice j (a.length+1) m)) o q j m u (a++[l]):=by
 have n:=Off.of_grown C;have t:=Off.of_set w1 g 1 (.slice j (a.length+1) m);have v:∀b,(Value.slice p a.length s).ownBlock=some b->d.heap.size<=b:=λb c=>(r.nons.lt b c).1;have D:∀b,(Value.slice o u.length q).ownBlock=some b->d.heap.size<=b:=λb c=>(r.kept.lt b c).1;have B:∀b,(Value.slice o u.length q).ownBlock=some b->(Value.slice p a.length s).ownBlock=some b->False:=λb h1 z=>Fe r.kept r.nons AC h1 z;refine⟨(r.off.trans n λk H h=>?_).trans t λk _ h => .inr h,(r.num.block (n.keep f r.num.lt λh=>?_)).block (t.keep f (AK r.num.lt n.size) A),?_,?_,?_⟩
 ·have:=v k h;omega
 ·have:=v f h;omega
 ·have h1:=n.blk r.out λh=>by have:=v g h;omega
  have:=Blk.set h1 1 (.slice j (a.length+1) m);rw[AV,CX];exact this
 ·exact t.row (n.row r.kept λb c h=>B b c h) λb c h=>by have:=D b c;omega
 rw[AV,CX,DJ];refine t.row x λb c h=>?_;have:=(x.lt b c).1;omega
end
def trmB(a b:Trm):Bool:=(a.name==b.name)&&((a.level==b.level)&&(a.assoc==b.assoc))
theorem Bf{a b:Trm}:trmB a b=true↔a=b:=by
 obtain⟨x,y,z⟩:=a;obtain⟨f,g,z'⟩:=b;unfold trmB;rw[AU,AU,Zx5,BW,BW];constructor
 ·rintro⟨h1,c,d⟩;simp only at h1 c d;rw[h1,c,d]
 intro h;injection h with h1 c d;exact⟨h1,c,d⟩
theorem Tryz.fieldsTerm:(prog.fieldsOf 140).toList.map (λf=>(f.name,f.type,f.offset))=[("Name",9,0),("Level",3,1),("Assoc",3,2)]:=AB
theorem fields3{d:List Field}{n1 n2 n3:String}{l j k:Nat}(h:d.map (λf=>(f.name,f.type,f.offset))=[(n1,l,g),(n2,m,j),(n3,n,k)]):
 ∃a b c,d=[a,b,c]/\(a.name=n1/\a.type=l/\a.offset=g)/\(b.name=n2/\b.type=m/\b.offset=j)/\(c.name=n3/\c.type=n/\c.offset=k):=by
 match d,h with
 | [a,b,c],h =>
   simp at h;exact⟨a,b,c,rfl,h.1,h.2.1,h.2.2⟩
theorem eq_trm(a b:Trm)(w:World):(Op.equalIn 10000 140 (.agg #[.string a.name,.int .i64 a.level,.int .i64 a.assoc]) (.agg #[.string b.name,.int .i64 b.level,.int .i64 b.assoc])).run prog w = .ok (trmB a b) w:=by
 rw[run_equalIn_agg (d:=9999) w 140 _ _ Tryz.structTerm Tryz.heldTerm];obtain⟨r,s,u,g,⟨n1,o,h⟩,⟨n2,p,j⟩,⟨n3,q,k⟩⟩:=fields3 Tryz.fieldsTerm;rw[g];have u9:=underlying9;have u3:=underlying3;unfold trmB;rw[beq_toListBytes];have f:∀x y:ByteArray,(Op.equalIn 9999 9 (.string x) (.string y)).run prog w = .ok (x.toList==y.toList) w:=λx y=>run_equalIn_string (d:=9998) w _ x y u9;have c:∀x y:Int,(Op.equalIn 9999 3 (.int .i64 x) (.int .i64 y)).run prog w = .ok (x==y) w:=λx y=>run_equalIn_int (d:=9998) w _ .i64 .i64 x y u3;have l:∀t:Trm,(part 9 #[.string t.name,.int .i64 t.level,.int .i64 t.assoc] 0).run prog w = .ok (.string t.name) w:=λt=>by go_simp
 have m:∀t:Trm,(part 3 #[.string t.name,.int .i64 t.level,.int .i64 t.assoc] 1).run prog w = .ok (.int .i64 t.level) w:=λt=>by go_simp
 have n:∀t:Trm,(part 3 #[.string t.name,.int .i64 t.level,.int .i64 t.assoc] 2).run prog w = .ok (.int .i64 t.assoc) w:=λt=>by go_simp
 simp only[Op.eqFields,n1,o,h,n2,p,j,n3,q,k];rw[if_pos AC,if_pos AC,if_pos AC];simp only[Sem.run_bind,l,m,n,f,c,Result.andThen_ok,Sem.run_ite,Sem.run_pure];cases a.name.toList==b.name.toList <;> cases a.level==b.level <;> cases a.assoc==b.assoc <;> simp
theorem Gp:∀t∈Xt.terms,t.name.size<=maxLen:=by
 intro t a;have:t.name.size<=3:=by
  simp only[Xt,BZ,Ea,or_false] at a;subst a;decide
 simp only[maxLen];omega
section
variable {P:Program}
theorem Qf.same{w:World}(h:Qf w g)(c:w'.heap[g]? = w.heap[g]?):Qf w' g:=λo k z b=>h o k z ((DH (a:=⟨g,o,none⟩) c).symm.trans b)
end
section
variable {W0:World} {k:BkH} {h:GH} {G:Gr} {S':Nat->Prop} {w:World} {gR:Nat} {b:Nat->Bool} {u:Nat->Value} {X:World}
theorem Zu.trans{a b c:World}(h:Zu a b)(k:Zu b c):Zu a c:=by
 refine⟨Nat.le_trans h.1 k.1,λg d hi=>?_⟩;have e:=h.2 g d hi;refine (k.2 g (Nat.lt_of_lt_of_le d h.1) ?_).trans e;obtain⟨o,z,f⟩:=hi;exact⟨o,z,(World.cell?_of_block (a:=⟨g,o,none⟩) e).trans f⟩
theorem Zu.of_below{w:World}(h:Below w w w'):Zu w w' := .of_int (.of_below h)
theorem Zq.nkept{w:World}(h:Zq .u32 w A n c xs)(l:Zu w w'):Zq .u32 w' A n c xs:=by
 refine⟨h.1,h.2.1,h.2.2.1,λd=>?_⟩;obtain⟨b,f,e,g,k⟩:=h.2.2.2 d;have h0:=k 0 d;have hi:∃o z,w.cell? ⟨b,o,none⟩=some (Value.int .u32 z):=by
  have q:0<xs.length:=by simpa [nums] using d
  refine⟨f+0,((xs[0]:Nat):Int),?_⟩;rw[h0];simp[nums,q]
 have m:=l.2 b g hi;exact⟨b,f,e,AK g l.1,λj p=>(DH (a:=⟨b,f+j,none⟩) m).trans (k j p)⟩
theorem Z1.nkept{w:World}{b:Bool}{x:Nat}(h:Z1 w A n c b x)(a:Zu w w'):Z1 w' A n c b x:=⟨h.1,h.2.nkept a⟩
theorem Qb(T:Int->Nat->Nat)(b:List Rul)(a n:Nat):Z0 T b a 0 n=0:=rfl
theorem Y3(T:Int->Nat->Nat){b:List Rul}(h:b[i]? = some x)(a n:Nat):Z0 T b a (i+1) n=Z0 T b a i n+(if x.left.toNat=a then Zx T x.right n else 0):=by
 unfold Z0;rw[Du,h];exact Gg T _ x a n
theorem Qj(T:Int->Nat->Nat){b:List Rul}(h:b.length<=i)(a n:Nat):Z0 T b a i n=Yc T b a n:=by
 unfold Z0;rw[AR h]
theorem Vf(T:Int->Nat->Nat)(b:List Rul)(a n:Nat)(h:i<=f):Z0 T b a i n<=Z0 T b a f n:=by
 obtain⟨d,rfl⟩:=Nat.exists_eq_add_of_le h
 induction d with
 | zero=>exact AJ _
 | succ d j =>
   refine BC (j (DF _ _)) ?_;cases c:b[i+d]? with
   | none =>
     have g:b.length<=i+d:=List.getElem?_eq_none_iff.1 c;rw[<-DZ,Qj T g,Qj T AA];exact AJ _
   | some x=>rw[<-DZ,Y3 T c];exact DF _ _
theorem Kj(T:Int->Nat->Nat)(b:List Rul)(a n i:Nat):Z0 T b a i n<=Yc T b a n:=by
 have h:=Vf T b a n (Nat.le_max_left i b.length);rwa [Qj T (Nat.le_max_right i b.length)] at h
def UnT(G:Gr)(a n r:Nat)(t:List Nat):Prop:=∃i x q b,G.rules[i]? = some x/\x.left.toNat=a/\UnL G x.right n q b/\r=Z0 (Zv G) G.rules a i n+q/\t=i::b
theorem Zso{c:List Rul}{a b v:Nat}{g:Rul}(o:c[i]? = some x)(p:c[b]? = some g)(l:x.left.toNat=a)(m:g.left.toNat=a)(h1:v<Zx T x.right n)(q:f<Zx T g.right n)(h:Z0 T c a i n+v=Z0 T c a b n+f):i=b/\v=f:=by
 have j:=Y3 T o a n;have k:=Y3 T p a n;rw[if_pos l] at j;rw[if_pos m] at k;rcases Nat.lt_trichotomy i b with d | rfl | d
 ·have:=Vf T c a n (show i+1<=b from d);omega
 ·exact⟨rfl,AA⟩
 have:=Vf T c a n (show b+1<=i from d);omega
theorem UnL.non'{G:Gr}{k a r:Nat}{b c:List Nat}(h0:s<0)(h1:UnT G (Zp s) k a b)(d:UnL G l n r c):UnL G (s::l) (k+n) (Yv (Zv G) s l (k+n) k+a*Zx (Zv G) l n+r) (b++c):=by
 obtain⟨i,x,q,j,g,h,f,rfl,rfl⟩:=h1;exact .non h0 g h f d
theorem Zv0{b:List Rul}{a r:Nat}:∀{m:Nat},r<Z0 T b a m n->∃i x v,i<m/\b[i]? = some x/\x.left.toNat=a/\r=Z0 T b a i n+v/\v<Zx T x.right n
 | 0,h=>absurd h (Nat.not_lt_zero _)
 | m+1,h=>by
   by_cases d:r<Z0 T b a m n
   ·obtain⟨i,x,v,hi,h1,g,j,k⟩:=Zv0 d;exact⟨i,x,v,AA,h1,g,j,k⟩
   cases f:b[m]? with
   | none =>
     have c:b.length<=m:=List.getElem?_eq_none_iff.1 f;rw[Qj T AA] at h;rw[Qj T c] at d;exact absurd h d
   | some x =>
     rw[Y3 T f] at h;split at h
     ·rename_i c;exact⟨m,x,r-Z0 T b a m n,AA,f,c,AA,AA⟩
     omega
theorem Bg{G:Gr}(a:G.Fits)(d:x∈G.rules)(f:n<=10):J1 x.right n/\∀s∈x.right,G.has s=true:=by
 have h1:=a.sym x d;have g:=a.n2;have j:=a.n1;refine⟨⟨λs b=>⟨by have:=(h1 s b).1;omega,by have:=(h1 s b).2;omega⟩,a.len x d,f⟩,λs b=>?_⟩;have:=h1 s b;unfold Gr.has;split <;> (rw[BA];omega)
end
section
variable {P:Program} {Γ:Type} {R:World->World->Prop}
theorem Zzk{l:List Oper}(f:backA l=true)(h:Region.ready .any l.toArray listed=[]):∀i,i<l.length->listed.getD i true=true:=by
 intro i
 induction i using Nat.strongRecOn with
 | ind i m =>
   intro hi;cases c:listed.getD i true with
   | true=>rfl
   | false =>
     exfalso;have b:i∈Region.ready .any l.toArray listed:=by
      refine mem_ready.2 ⟨c,l[i],by simp[hi],λe j g=>?_⟩;have h1:=BG.1 f i (BQ.2 hi);rw[AM hi,Ek,Option.getD_some,BG] at h1;have a:=h1 e (by simpa using j);rw[g] at a;have a:e.on<i:=DI (by simpa using a);have d:=m e.on a AA;have n:i<listed.size:=by
       rcases BD i listed.size with h | h
       ·exact h
       simp[Array.getD,Nat.not_lt.2 h] at c
      have k:e.on<listed.size:=AA
      simpa [Array.getD,k] using d
     rw[h] at b;cases b
end
theorem UnT.inside{G:Gr}{a r:Nat}{t:List Nat}(h:UnT G a n r t):t≠[]/\∀i∈t,i<G.rules.length:=by
 obtain⟨i,x,q,f,d,_,c,_,rfl⟩:=h;refine⟨AE,λj b=>?_⟩;rcases BZ.1 b with rfl | b
 ·exact (AO.1 d).1
 exact c.inside j b
theorem UnL.cat{G:Gr}{k v:Nat}{b:List Nat}(h0:s<0)(h1:UnT G (Zp s) k 0 a)(c:UnL G l n 0 b)(d:k+n=m)(f:Yv (Zv G) s l m k=v):UnL G (s::l) m v (a++b):=by
 subst d;have:=UnL.non' h0 h1 c;rw[f,Nat.zero_mul] at this;exact this
theorem UnT.top{G:Gr}{a:Nat}{t:List Nat}(c:G.rules[0]? = some x)(b:x.left.toNat=a)(h:UnL G x.right n q t):UnT G a n q (0::t):=⟨0,x,q,t,c,b,h,by rw[Qb,BF],rfl⟩
section
open Go.RowKit Go.Shelf
attribute [local go_sem] Oper.semAt_some
theorem Zrq.t{a b:Nat}{A B C:World}(h:Zrq a b A B)(k:Zrq a b B C):Zrq a b A C:=⟨k.1.trans h.1,k.2.trans h.2⟩
end
section
open Go.RowKit Go.Shelf
attribute [local go_sem] Oper.semAt_some
open Go.RowKit Go.Shelf
open Go.RowKit Go.Shelf
attribute [local go_sem] Oper.semAt_some
theorem Zqt{W a:World}{k:IntKind}(h:Zq k W A n c xs)(d:W.grownBy a row)(q:∀r,row=some r->∃o:Obj,W.heap[r]? = some o/\o.isCells=false):Zq k a A n c xs:=by
 refine⟨h.1,h.2.1,h.2.2.1,λp=>?_⟩;obtain⟨b,s,e,l,m⟩:=h.2.2.2 p;exact⟨b,s,e,AK l d.size,λj f=>by
  obtain⟨v,g⟩:∃v,(nums k xs)[j]? = some v:=⟨_,AM f⟩;rw[g];exact cell_kept ((m j f).trans g) d q⟩
end
section
open Go.ChangeShapes Go.WideShapes Go.ChangeAt Go.RowKit
open Go.ChangeShapes Go.WideShapes Go.ChangeAt Go.RowKit
theorem Js.of_row{w:World}{x:Addr}{len cap:Nat}(k:len<=cap)(l:cap<=maxLen)(p:ss.length=cap)(d:∀i,i<ss.length->w.cell? (x.add i)=some (.string (ss.getD i ByteArray.empty))):Js w (some x) len cap (ss.take len):=by
 have c:(ss.take len).length=len:=by rw[BS];omega
 refine⟨by rw[BI,c],k,by simpa [maxLen] using l,λm=>?_⟩;rw[BI,c] at m;obtain⟨b,a,o⟩:=x;have h0:=d 0 AA;have n:o=none:=by simpa [Addr.add] using World.cell?_spot h0
 subst n;have h:w.cell? ⟨b,a,none⟩=some (.string (ss.getD 0 ByteArray.empty)):=by simpa [Addr.add] using h0
 refine⟨b,a,rfl,Zyg h,λj f=>?_⟩;rw[BI,c] at f;have g:=d j AA;have e:(⟨b,a,none⟩:Addr).add j=⟨b,a+j,none⟩:=by
  unfold Addr.add;split
  ·rename_i h0;subst h0;rfl
  rfl
 rw[e] at g;rw[g,BB,El,if_pos f,AM AA,AP,AM AA];rfl
end
section
open Go.ChangeShapes Go.WideShapes Go.ChangeAt Go.RowKit
open Go.ChangeShapes Go.WideShapes Go.ChangeAt Go.RowKit
open Go.ChangeShapes Go.WideShapes Go.ChangeAt Go.RowKit Go.Lib Go.Deep
variable {H:Type} {enc:TypeId × Value->H} {w:World} {base:Nat} {sp:Nat->Bool} {held:Bool}
theorem open_terms{fuel:Nat}{v:Value}{x:DataW H × List MemPlace}(h:DataW.trod enc prog w base sp held fuel 22 [v]=some x):
 ∃A n c ts,v = .slice A n c/\N8 w A n c ts/\∀t∈ts,t.name.size<=maxLen:=by
 rcases open_slice underlying22 h with ⟨g,_⟩ | ⟨a,len,cap,m,n,D,U,g,_,G,I,J,_,N⟩
 ·simp at g;exact⟨none,0,0,[],g,⟨rfl,AJ _,AA,λh=>AA⟩,λt d=>by cases d⟩
 simp at g;have W:len<=m:=by rw[J];split <;> omega
 have each:∀i,∃t:Trm,i<len->w.cell? (a.add (i*3))=some (.string t.name)/\w.cell? (a.add (i*3+1))=some (.int .i64 t.level)/\w.cell? (a.add (i*3+2))=some (.int .i64 t.assoc)/\t.name.size<=maxLen:=λi=>by
  by_cases hi:i<len
  ·obtain⟨V,h1,F⟩:=N i AA;have q:prog.cellsOf 140=3:=AB
   rw[q] at h1;obtain⟨X,Y,Z,y0,y1,y2,k,P,R,S,g0,C,E⟩:=elem3 underlying140 q rfl rfl rfl AB AB AB h1 F;obtain⟨s,y,_,M⟩:=DataW.trod_string underlying9 g0;obtain⟨n1,r,_,_⟩:=DataW.trod_int underlying3 C;obtain⟨n2,u,_,_⟩:=DataW.trod_int underlying3 E;simp at y r u;subst y r u;exact⟨⟨s,n1,n2⟩,λ_=>⟨P,R,S,M⟩⟩
  exact⟨⟨ByteArray.empty,0,0⟩,λh=>absurd h hi⟩
 obtain⟨f,p⟩:=Classical.axiomOfChoice each;refine⟨some a,len,cap,(List.range len).map f,g,⟨AE,G,by simpa [maxLen] using I,λh0=>?_⟩,λt d=>?_⟩
 ·obtain⟨b,O,T⟩:=a;have o:=(p 0 h0).1;have L:T=none:=by simpa [Addr.add] using World.cell?_spot o
  subst L;rw[Bi] at o;refine⟨b,O,rfl,by have:=Zyg o;simpa using this,λj t d=>?_⟩;rw[BB] at d;have l:j<len:=by
   rcases BD j len with h | h
   ·exact h
   simp[BE (show (List.range len).length<=j by simpa using h)] at d
  simp[l] at d;subst d;obtain⟨p0,z,B,_⟩:=p j l;rw[Bi] at p0 z B;exact⟨p0,by rw[DZ];exact z,by rw[DZ];exact B⟩
 obtain⟨j,l,rfl⟩:=CW.1 d;exact (p j (BQ.1 l)).2.2.2
end
