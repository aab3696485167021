/- Words for slices that read as lists: no program in sight. -/
import Derived.Test.YtggbjdmpjidhgaaGreatDoorV05
import Derived.Test.YtggbjdmpjidhgaaGreatDoorV06
import Derived.Test.YtggbjdmpjidhgaaGreatDoorV07
import Derived.Test.YtggbjdmpjidhgaaGreatDoorV08
set_option linter.all false
set_option maxHeartbeats 1500000
set_option maxRecDepth 100000
namespace Go.Proofs.YtggbjdmpjidhgaaGreatDoor
open Go.RowKit Go.Proofs.Tryz
variable{k x i j q id:Nat}{w:World}{b a N:List Bool}{f g:List Bool->List Bool}{F xs t u:List Nat}{ss:List Int}{s:Int}{r:Rul}{A:Option Addr}{cs:List Value}{l:List Oper}{T:Int->Nat->Nat}{Q:Exit->Act->World->Prop}
theorem Za.part{k:IntKind}{b d n c:Nat}{f:List Int}(h:Za k w (some ⟨b,d,none⟩) n c f)(i m a:Nat)(u:i+m<=n)(l:m<=a)(o:a<=9223372036854775807):
 Za k w (some ⟨b,d+i,none⟩) m a ((f.drop i).take m):=by
 have t:=h.len;refine⟨by simp[ints];omega,l,o,λr=>?_⟩;simp[ints] at r;obtain⟨s,v,e,g,p⟩:=h.2.2.2 (by rw[Y9];omega);injection e with e;injection e with e1 e2;subst e1;subst e2;refine⟨b,d+i,rfl,g,λj q=>?_⟩;simp[ints] at q;rw[Ed,p (i+j) (by rw[Y9];omega)];simp[ints,En,Ea];intro;omega
theorem set_of(A:Option Addr)(n c:Nat)(a:List Int)(w:World)(h:Za .i64 w A n c a):Calls prog 149 #[.slice A n c] w λe w'=>e = .returned (.int .u32 ((ofN a:Nat):Int))/\w=w':=by
 obtain rfl:=h.len;have p:=h.cap;go_enter func149,ntmps149;go_wp2;go_loop [2,4,7] (λs _ i=>∃k:Nat,k<=a.length/\i = .int .i64 (k:Int)/\s = .int .u32 ((ofN (a.take k):Nat):Int)) (λ_ _ i=>a.length-(intOf i).toNat)
 case atStart=>exact⟨0,AU _,rfl,rfl⟩
 obtain⟨k,q,rfl,rfl⟩:=hrel;by_cases l:k<a.length
 ·obtain⟨b,u,x,rfl,m,Hx,o⟩:=h.get (j:=k) l;have r:=or32 (ofN (a.take k)) (Y6 x) (ofN_lt _) (Ua x);have g:Hid (ofN (a.take (k+1))=ofN (a.take k) ||| Y6 x):=LH (by rw[DA,Hx];exact ofN_snoc _ _);have d:=set_bit1 x w;generalize ofN (a.take k)=s at *;generalize Y6 x=t at *;have f:=LH d;go_wp2_with (go_at_call 197;refine f.out.mono ?_;rintro e w'⟨rfl,rfl⟩);go_round
  case rel=>exact⟨k+1,AA,AF,by rw[g]⟩
  simp[intOf];omega
 obtain rfl:k=a.length:=AA
 go_wp2;go_ret;exact⟨AE,rfl⟩
theorem Qv.comp(a:Qv f)(c:Qv g):Qv λb=>g (f b) :=
 ⟨λb=>by rw[c.len,a.len],λb i h=>c.up _ i (a.up b i h)⟩
theorem Qv.anti(a:Qv f)(c:Qv g)(h:g (f b)=b):f b=b :=
 Zvh (a.len b) (λi hi=>by rw[<-h];exact c.up _ i hi) (λi hi=>a.up b i hi)
theorem Ng(p:Rul->List Bool->Bool):∀a,Qv (Xs p a)
 | []=>Qv.id
 | r::a=>(N2 p r).comp (Ng p a)
theorem We.addAt(h:We F)(i:Nat)(b:x<4294967296):We (addAt i x F):=by
 intro y a;unfold Go.Proofs.YtggbjdmpjidhgaaGreatDoor.addAt at a;rcases List.mem_or_eq_of_mem_set a with a | rfl
 ·exact h y a
 exact Ct (h.get i) b
theorem sl_index_strs(A:Option Addr)(n c:Nat)(xs:List ByteArray)(g:FuncId)(t:Array Value)(p:ByteArray->Bool)(w:World)(F:∀args w,(callFunc g args).run prog w = .ok (.enter g args) w)(h:Js w A n c xs)(u:Zyw g t Value.string w xs p):
 Calls prog 164 #[.slice A n c,.func (.func g) #[] t] w λe w'=>e = .returned (.int .i64 (Y8 p xs))/\Below w w w':=by
 obtain rfl:=h.len;have G:=h.cap;have x:=LH u;clear u;go_enter func164,ntmps164;go_wp2_with fail;go_loopw [5,8] (λ_ i wr=>∃k:Nat,k<=xs.length/\i = .int .i64 (k:Int)/\Below w w wr/\Hid (∀j,j<k->∀y,xs[j]? = some y->p y=false)) (λ_ i _=>xs.length-(intOf i).toNat)
 case atStart=>exact⟨0,AU _,rfl,AK _ _,LH λj H=>AA⟩
 obtain⟨k,I,rfl,f,o⟩:=hrel;by_cases C:k<xs.length
 ·obtain⟨b,J,s,rfl,B,q,D⟩:=h.get C;rw[<-f.cell (by exact B)] at D;have a:=x.out s (AL q.out) wr f;cases d:p s
  ·rw[d] at a;have z:=LH d;have l:=LH a;clear d a;go_wp2_with (go_at_fn g;refine l.out.mono ?_;rintro e E⟨rfl,r⟩);go_roundw
   case rel=>exact⟨k+1,AA,AF,Zz f r,LH (Vz o.out q.out z.out)⟩
   simp[intOf];omega
  rw[d] at a;have m:=LH (Q4 q.out d o.out);have l:=LH a;clear d a;go_wp2_with (go_at_fn g;refine l.out.mono ?_;rintro e E⟨rfl,r⟩);go_ret;exact⟨by rw[m.out];rfl,Zz f r⟩
 obtain rfl:k=xs.length:=AA
 have m:Hid (Y8 p xs=-1):=Jq λj y v=>o.out j (AN.1 v).1 y v;go_wp2_with fail;go_ret;exact⟨by rw[m.out];rfl,f⟩
theorem sl_contains_strs(A:Option Addr)(n c:Nat)(xs:List ByteArray)(g:FuncId)(a:Array Value)(p:ByteArray->Bool)(w:World)(j:∀args w,(callFunc g args).run prog w = .ok (.enter g args) w)(h:Js w A n c xs)(d:Zyw g a Value.string w xs p):
 Calls prog 101 #[.slice A n c,.func (.func g) #[] a] w λe w'=>e = .returned (.bool (xs.any p))/\Below w w w':=by
 have b:=sl_index_strs A n c xs g a p w j h d;rw[<-Zvt];generalize Y8 p xs=r at *;have f:=LH b;clear b d h;go_enter func101,ntmps101;go_wp2_with (go_at_call 164;(with_reducible refine f.out.mono ?_);rintro e l⟨rfl,k⟩);go_ret;exact⟨rfl,k⟩
theorem Zvy(p:Rul->List Bool->Bool)(a:List Rul)(N:List Bool):(Xs p a N).length=N.length:=(Ng p a).len N
theorem Ad(p:Rul->List Bool->Bool)(a:List Rul)(N:List Bool):∀k,(Z3 (Xs p a) k N).length=N.length
 | 0=>rfl
 | k+1=>by rw[Z3,Zvy,Ad p a N k]
theorem Ya{α:Type}{l:List α}{x:α}(h:l[k]? = some x):l.take (k+1)=l.take k++[x]:=by rw[DA,h];rfl
theorem LeB.anti(h:LeB a b)(k:LeB b a):a=b:=Zvh h.1 h.2 k.2
theorem Wn(ids:Rul->List Bool->List Int):∀a,Qv (Yy ids a)
 | []=>Qv.id
 | r::a=>Qv.comp (f:=Ce ids r) ⟨λN=>((F5 N (ids r N)).1).symm,λN i h=>(F5 N (ids r N)).2 i h⟩ (Wn ids a)
theorem Zzs(ids:Rul->List Bool->List Int)(a:List Rul)(N:List Bool):(Yy ids a N).length=N.length:=(Wn ids a).len N
theorem passI_le(ids:Rul->List Bool->List Int)(a:List Rul)(N:List Bool):LeB N (Yy ids a N):=⟨(Zzs ids a N).symm,λi h=>(Wn ids a).up N i h⟩
theorem grew_set(h:LeB N a)(hi:i<a.length):L6 N (a.set i true)=(L6 N a || !a.getD i false):=by
 unfold L6;by_cases d:a=N
 ·subst d;cases b:a.getD i false
  ·have:a.set i true≠a:=λc=>by
    have:=congrArg (λl:List Bool=>l.getD i false) c;simp[AO,hi] at this b;rw[this] at b;cases b
   simp[this]
  have:a.set i true=a:=by
   rw[AO,AM hi] at b;have b:a[i]=true:=b;rw[<-b,List.set_getElem_self]
  simp[this]
 have:a.set i true≠N:=λc=>d ((LeB.anti h (by rw[<-c];exact LeB.set a i)).symm);simp[d,this]
theorem Dw(ids:Rul->List Bool->List Int)(a:List Rul)(N:List Bool):∀k,(Z3 (Yy ids a) k N).length=N.length
 | 0=>rfl
 | k+1=>by rw[Z3,Zzs,Dw ids a N k]
theorem passI_null(a:List Rul)(N:List Bool):Yy Bd a N=Xs (Xo false) a N:=by
 unfold Yy Xs;congr 1;funext N r;unfold Ce Bd Qa Xo Jz;split <;> simp
theorem Zx9(a:List Rul)(N:List Bool):∀k,Z3 (Yy Bd a) k N=Z3 (Xs (Xo false) a) k N
 | 0=>rfl
 | k+1=>by rw[Z3,Z3,Zx9 a N k,passI_null]
theorem Ztd(w:World)(t:TypeId)(x:Int):Za .i64 (w.alloc (.cells #[.int .i64 x] t)) (some ⟨w,0,none⟩) 1 1 [x]:=by
 have:=Yl (Zt0 w t 1 [.int .i64 x] rfl AA);exact this
theorem passI_prod(a:List Rul)(N:List Bool):Yy Bn a N=Xs (Xo true) a N:=by
 unfold Yy Xs;congr 1;funext N r;unfold Ce Bn Qa Xo Jz;split <;> simp
theorem Zy0(a:List Rul)(N:List Bool):∀k,Z3 (Yy Bn a) k N=Z3 (Xs (Xo true) a) k N
 | 0=>rfl
 | k+1=>by rw[Z3,Z3,Zy0 a N k,passI_prod]
theorem Zxl(h:ss[k]? = some s):Uq (ss.take (k+1))=if s<0 then Uq (ss.take k)++[-1-s] else Uq (ss.take k):=by
 unfold Uq;rw[DA,h];by_cases a:s<0
 ·simp[a,List.filter_append]
 simp[a,List.filter_append]
theorem Qq(b:Bool)(G:Gr):(U5 b G).length=G.nons.length:=by unfold U5;rw[Ad];simp
theorem Vx(G:Gr):(Zt G).length=G.nons.length:=Qq true G
theorem passI_len'(ids:Rul->List Bool->List Int)(a:List Rul)(N:List Bool):(Yy ids a N).length=N.length:=(Wn ids a).len N
theorem allP_split{P:List Bool}(a:ss[k]? = some s):Xj true P ss=(Xj true P (ss.take k)&&(Xj true P [s]&&Xj true P (ss.drop (k+1)))):=by
 have e:ss=ss.take k++([s]++ss.drop (k+1)):=by
  have c:=(AN.1 a).1;have b:ss.drop k=s::ss.drop (k+1):=by
   rw[DW c];congr 1;exact (AN.1 a).2
  rw[List.singleton_append,<-b,List.take_append_drop]
 conv=>lhs;rw[e]
 unfold Xj;rw[List.all_append,List.all_append]
theorem stands_eq{P:List Bool}(o:∀i,N.getD i false=true->P.getD i false=true)(j:ss[k]? = some s):Zyn N P ss s=Xk N P ss k s:=by
 by_cases n:s<0
 case neg=>unfold Zyn Xk;simp[n]
 have e:Vo N ss=Vo N (ss.take k)++(Vo N [s]++Vo N (ss.drop (k+1))):=by
  have r:=(AN.1 j).1;have b:ss.drop k=s::ss.drop (k+1):=by
   rw[DW r];congr 1;exact (AN.1 j).2
  have e:ss=ss.take k++([s]++ss.drop (k+1)):=by rw[List.singleton_append,<-b,List.take_append_drop]
  conv=>lhs;rw[e]
  unfold Vo;rw[List.filter_append,List.filter_append]
 have t:Xj true P [s]=P.getD (Zp s) false:=by unfold Xj;simp <;> omega
 rw[BZ];unfold Zyn Xk J6;rw[allP_split j,t];simp only[AR,CJ,decide_eq_true_eq,n,true_and];have g:=λl=>@bareL_nil N l;constructor
 ·rintro⟨m,a⟩;have q:Vo N (ss.take k)=[]/\Vo N (ss.drop (k+1))=[]:=by
   rw[e] at a;by_cases d:Xg N s=true
   ·have h:Vo N [s]=[]:=by unfold Vo;simp[d]
    rw[h,DG] at a;rcases a with a | ⟨a,p⟩
    ·rw[List.length_eq_zero_iff,List.append_eq_nil_iff] at a;exact a
    exfalso;have c:=AL p;rcases DH.1 c with c | c;all_goals
     unfold Vo at c;rw[List.mem_filter] at c;simp[d] at c
   have h:Vo N [s]=[s]:=by unfold Vo;simp[d]
   rw[h] at a;simp only[AS,AW,DS] at a;rcases a with a | ⟨a,p⟩
   ·omega
   exact⟨List.length_eq_zero_iff.1 AA,List.length_eq_zero_iff.1 AA⟩
  have b:=(g _).1 q.1;have f:=(g _).1 q.2;exact⟨⟨b,f⟩,Zuh o b,m,Zuh o f⟩
 rintro⟨⟨b,f⟩,u,m,v⟩;refine⟨m,?_⟩;rw[e,(g _).2 b,(g _).2 f,DG,DK];by_cases d:Xg N s=true
 ·left;unfold Vo;simp[d]
 right;unfold Vo;simp[d]
theorem growN_le{M:List Bool}(h:Le' N M):Le' (Qa (Xo false) r N) (Qa (Xo true) r M):=by
 refine⟨by rw[(N2 _ r).len,(N2 _ r).len];exact h.1,λi hi=>?_⟩;unfold Qa at hi ⊢;by_cases a:Xo false r N=true
 ·rw[if_pos a,Uh] at hi;have b:Xo true r M=true:=allP_mono h.2 a;rw[if_pos b,Uh];rcases hi with hi | ⟨hi,c⟩
  ·exact .inl (h.2 i hi)
  exact .inr ⟨hi,by rw[<-h.1];exact c⟩
 rw[if_neg a] at hi;split
 ·rw[Uh];exact .inl (h.2 i hi)
 exact h.2 i hi
theorem Uk(N P:List Bool)(r:Rul)(k:Nat)(F:List Nat):Y2 N P r (k+1) F=Um N P r k (Y2 N P r k F):=by
 unfold Y2;rw[Ec,List.foldl_append];rfl
theorem growSt_len(N P:List Bool)(r:Rul)(k:Nat)(F:List Nat):(Um N P r k F).length=F.length:=by
 unfold Um;split
 ·rfl
 split
 ·simp[addAt]
 rfl
theorem Kb(N P:List Bool)(r:Rul)(F:List Nat):∀k,(Y2 N P r k F).length=F.length
 | 0=>rfl
 | k+1=>by rw[Uk,growSt_len,Kb N P r F k]
theorem De(N P:List Bool)(a:List Rul)(F:List Nat):(Wo N P a F).length=F.length:=by
 induction a generalizing F with
 | nil=>rfl
 | cons r a b=>show (Wo N P a (Y2 N P r r.right.length F)).length=_;rw[b,Kb]
theorem growSt_small(N P:List Bool)(r:Rul)(k:Nat)(h:We F):We (Um N P r k F):=by
 unfold Um;split
 ·exact h
 split
 ·exact h.addAt _ (Ua _)
 exact h
theorem N1(N P:List Bool)(r:Rul)(h:We F):∀k,We (Y2 N P r k F)
 | 0=>h
 | k+1=>by rw[Uk];exact growSt_small N P r k (N1 N P r h k)
theorem Lm(N P:List Bool)(a:List Rul)(h:We F):We (Wo N P a F):=by
 induction a generalizing F with
 | nil=>exact h
 | cons r a b=>exact b (N1 N P r h _)
theorem fwK_small(i k:Nat)(h:We F):We (fwK i k F):=by
 unfold fwK;split
 ·exact h.addAt _ (h.get _)
 exact h
theorem Zzp(i:Nat)(h:We F):∀m,We (fwR i m F)
 | 0=>h
 | m+1=>by rw[Mm];exact fwK_small _ _ (Zzp i h m)
theorem Zzu(m:Nat)(h:We F):∀q,We (fwI m q F)
 | 0=>h
 | q+1=>by rw[M9];exact Zzp _ (Zzu m h q) _
theorem Lo(m q:Nat)(h:We F):∀p,We (Z3 (fwI m q) p F)
 | 0=>h
 | p+1=>by rw[Z3];exact Zzu _ (Lo m q h p) _
theorem Zq.part{k:IntKind}{b d n c:Nat}(h:Zq k w (some ⟨b,d,none⟩) n c xs)(i m a:Nat)(t:i+m<=n)(g:m<=a)(l:a<=9223372036854775807):
 Zq k w (some ⟨b,d+i,none⟩) m a ((xs.drop i).take m):=by
 have s:=h.len;refine⟨by simp[nums];omega,g,l,λq=>?_⟩;simp[nums] at q;obtain⟨r,u,e,f,o⟩:=h.2.2.2 (by rw[Vw];omega);injection e with e;injection e with e1 e2;subst e1;subst e2;refine⟨b,d+i,rfl,f,λj p=>?_⟩;simp[nums] at p;rw[Ed,o (i+j) (by rw[Vw];omega)];simp[nums,En,Ea];intro;omega
theorem Cn{base e n c:Nat}{s:Nat->Prop}{o:List Rul}(h:w.ownsRow base e 3 (.slice A n c) n cs)(p:Kz w s cs o):Dv w A n c o:=by
 have k:o.length=n:=by have:=h.1;have:=p.1;omega
 rcases h.2 with ⟨m,rfl⟩ | ⟨g,cap,y,m,z,q,x,u,B,E⟩
 ·injection m with a f b;subst a;subst b;exact⟨k,AI _,AA,λd=>absurd d AA⟩
 injection m with a f b;subst a;subst b;have l:g<w.heap.size:=by
  rcases BD g w with l | v
  ·exact l
  rw[CX v] at q;cases q
 refine⟨k,x,by simpa [maxLen] using u,λD=>⟨g,0,rfl,l,λj t r=>?_⟩⟩;have C:j<n:=by rw[<-k];exact (AN.1 r).1
 obtain⟨Ar,cr,d,a,f,b,_⟩:=p.2 j t r;refine⟨Ar,cr,?_,?_,?_,b⟩
 ·rw[BH,h.cellAt (j*3) AA];exact d
 ·rw[BH,h.cellAt (j*3+1) AA];exact a
 rw[BH,h.cellAt (j*3+2) AA];exact f
theorem Wk.grAt{p B:Nat}{h:GH}{G:Gr}(k:Wk w p B h G):Yf w h G:=by
 obtain⟨cs,a,b⟩:=k.r3;exact⟨Cr k.r1,Yl k.r2,Cn a b,k.wf⟩
theorem K9(G:Gr):(Z5 G).length=G.nons.length:=by
 unfold Z5;have:∀k,(Z3 (Yy (Yp (Zt G)) G.rules) k (Xv G)).length=(Xv G).length:=λk=>Dw _ _ _ k;rw[this];unfold Xv;simp
theorem Zva(Q:Nat->Nat->Prop)(N P:List Bool)(b:List Rul)(m:∀r∈b,∀k s,r.right[k]? = some s->Xk N P r.right k s=true->Q r.left.toNat (Zp s)):
 ∀(F:List Nat),(∀i t,(F.getD i 0).testBit t=true->Q i t)->∀i t,((Wo N P b F).getD i 0).testBit t=true->Q i t:=by
 have n:∀(r:Rul),r∈b->∀(k:Nat) (F:List Nat),(∀i t,(F.getD i 0).testBit t=true->Q i t)->∀i t,((Um N P r k F).getD i 0).testBit t=true->Q i t:=by
  intro r c k F a i t h;unfold Um at h;split at h
  ·exact a i t h
  rename_i s y;split at h
  ·rename_i d;rw[Jo] at h;split at h
   ·rename_i g;rw[DZ,CJ] at h;rcases h with h | h
    ·rw[g.1];exact a _ t h
    have v:=m r c k s y d;unfold Xk at d;simp only[AR,decide_eq_true_eq] at d;obtain⟨j,o⟩:∃j:Nat,-1-s=(j:Int):=⟨(-1-s).toNat,AA⟩;rw[o,Uv,AR,BB,BB] at h;have p:Zp s=t:=by unfold Zp;omega
    rw[g.1,<-p];exact v
   exact a i t h
  exact a i t h
 have u:∀(r:Rul),r∈b->∀(k:Nat) (F:List Nat),(∀i t,(F.getD i 0).testBit t=true->Q i t)->∀i t,((Y2 N P r k F).getD i 0).testBit t=true->Q i t:=by
  intro r c k F a
  induction k with
  | zero=>exact a
  | succ k f=>rw[Uk];exact n r c k _ f
 have q:∀(l:List Rul),(∀r∈l,r∈b)->∀(F:List Nat),(∀i t,(F.getD i 0).testBit t=true->Q i t)->∀i t,((Wo N P l F).getD i 0).testBit t=true->Q i t:=by
  intro l
  induction l with
  | nil=>exact λ_ F a=>a
  | cons r l f=>exact λh F a=>f (λz x=>h z (BO _ x)) _ (u r (h r (AX ..)) _ F a)
 exact q b λ_ h=>h
theorem Ge(ids:Rul->List Bool->List Int):∀(a:List Rul) {N:List Bool},Yy ids a N=N->∀r∈a,Jz N (ids r N)=N
 | [],N,h,r,b=>by cases b
 | q::a,N,h,r,b=>by
   have c:Ce ids q N=N:=Qv.anti (f:=Ce ids q) (g:=Yy ids a) ⟨λN=>((F5 N (ids q N)).1).symm,λN i h=>(F5 N (ids q N)).2 i h⟩ (Wn ids a) h;rcases BW.1 b with rfl | b
   ·exact c
   refine Ge ids a ?_ r b;have:Yy ids a (Ce ids q N)=N:=h;rwa [c] at this
theorem Gl(G:Gr)(b:G.Fits)(i:Nat):(Qm G).testBit i=true↔(Zt G).getD i false=true/\(Z5 G).getD i false=true:=by
 unfold Qm;rw[J3];simp only[AR,decide_eq_true_eq];have:=b.n2.2;constructor
 ·rintro⟨_,_,h⟩;exact h
 intro h;have c:i<G.nons.length:=by
  rcases BD i G.nons.length with a | a
  ·exact a
  have h1:=h.1;rw[AO,BE (by rw[Vx];exact a)] at h1;cases h1
 exact⟨AA,c,h⟩
theorem Zzc(p:Rul->List Bool->Bool):∀(a:List Rul) {N:List Bool},Xs p a N=N->∀r∈a,Qa p r N=N
 | [],N,h,r,b=>by cases b
 | q::a,N,h,r,b=>by
   have c:Qa p q N=N:=Qv.anti (f:=Qa p q) (g:=Xs p a) (N2 p q) (Ng p a) h;rcases BW.1 b with rfl | b
   ·exact c
   refine Zzc p a ?_ r b;have:Xs p a (Qa p q N)=N:=h;rwa [c] at this
theorem grown_fix(b:Bool)(G:Gr):Xs (Xo b) G.rules (U5 b G)=U5 b G:=by
 have:=(Ng (Xo b) G.rules).fix (List.replicate G.nons.length false);rw[Eh] at this;exact this
theorem Ue{b:Bool}{G:Gr}(d:r∈G.rules)(c:r.left.toNat<G.nons.length)(h:Xj b (U5 b G) r.right=true):(U5 b G).getD r.left.toNat false=true:=by
 have a:=Zzc (Xo b) G.rules (grown_fix b G) r d;unfold Qa at a;rw[if_pos (show Xo b r (U5 b G)=true from h)] at a;rw[<-a];exact (Uh _ _ _).2 (.inr ⟨rfl,by rw[Qq];exact c⟩)
theorem reach_fix(G:Gr):Yy (Yp (Zt G)) G.rules (Z5 G)=Z5 G:=by
 have:=(Wn (Yp (Zt G)) G.rules).fix (Xv G);have a:(Xv G).length=G.nons.length:=by unfold Xv;simp
 rw[a] at this;exact this
theorem C9{G:Gr}(d:G.Fits)(b:r∈G.rules)(j:(Z5 G).getD r.left.toNat false=true)(h:Xj true (Zt G) r.right=true)(c:s∈r.right)(h0:s<0):(Z5 G).getD (Zp s) false=true:=by
 have a:=Ge (Yp (Zt G)) G.rules (reach_fix G) r b;have f:Dr (Zt G) r (Z5 G)=true:=by unfold Dr;rw[j,h];rfl
 have g:Yp (Zt G) r (Z5 G)=Uq r.right:=by unfold Yp;rw[if_pos f]
 rw[g] at a;have k:=d.sym r b s c;have:=Zxo (Uq r.right) (N:=Z5 G) (Zur.2 ⟨s,c,h0,rfl⟩) (by rw[K9];omega);rw[a] at this;exact this
theorem Zv6(N P:List Bool)(r:Rul)(k:Nat){t:Nat}(h:(F.getD i 0).testBit t=true):((Um N P r k F).getD i 0).testBit t=true:=by
 unfold Um;split
 ·exact h
 split
 ·rw[Jo];split
  ·rename_i a;rw[DZ,<-a.1,h];rfl
  exact h
 exact h
theorem Zs7(N P:List Bool)(r:Rul){t:Nat}(h:(F.getD i 0).testBit t=true):∀k,((Y2 N P r k F).getD i 0).testBit t=true
 | 0=>h
 | k+1=>by rw[Uk];exact Zv6 N P r k (Zs7 N P r h k)
theorem Zvb(N P:List Bool):∀(a:List Rul) {F:List Nat} {i t:Nat},(F.getD i 0).testBit t=true->((Wo N P a F).getD i 0).testBit t=true
 | [],F,i,t,h=>h
 | r::a,F,i,t,h=>Zvb N P a (Zs7 N P r h _)
theorem Zw8{P:List Bool}(c:r.right[k]? = some s)(d:Xk N P r.right k s=true)(b:r.left.toNat<F.length)(h0:s<0)(a:Zp s<32):
 ∀m,k<m->((Y2 N P r m F).getD r.left.toNat 0).testBit (Zp s)=true
 | 0,h=>AA
 | m+1,h=>by
   rw[Uk];by_cases f:k=m
   ·subst f;unfold Um;rw[c];simp only[];rw[if_pos d,Jo,if_pos ⟨rfl,by rw[Kb];exact b⟩,DZ];rw[show (-1-s)=((Zp s:Nat):Int) by unfold Zp;omega,Uv];simp[a]
   exact Zv6 N P r m (Zw8 c d b h0 a m AA)
theorem Zxd{P:List Bool}(c:r.right[k]? = some s)(f:Xk N P r.right k s=true)(h0:s<0)(d:Zp s<32):
 ∀(a:List Rul) {F:List Nat},r∈a->r.left.toNat<F.length->((Wo N P a F).getD r.left.toNat 0).testBit (Zp s)=true
 | q::a,F,b,hl=>by
   rcases BW.1 b with rfl | b
   ·exact Zvb N P a (Zw8 c f hl h0 d _ (AN.1 c).1)
   exact Zxd c f h0 d a b (by rw[Kb];exact hl)
def Yh(G:Gr):List Rul:=G.rules.filter (Ky (Zt G) (Z5 G))
def Ze(G:Gr):List Nat:=Wu (Yh G)
theorem Fq{G:Gr}:r∈Yh G↔r∈G.rules/\(Z5 G).getD r.left.toNat false=true/\Xj true (Zt G) r.right=true:=by
 unfold Yh Ky;rw[List.mem_filter,AR]
theorem prod_rule{G:Gr}(g:G.Fits)(h:(Zt G).getD i false=true):∃r∈G.rules,r.left.toNat=i/\Xj true (Zt G) r.right=true:=by
 have:=Zz2 (b:=true) (G:=G) (λi=>(Zt G).getD i false=true/\∃r∈G.rules,r.left.toNat=i/\Xj true (Zt G) r.right=true) (λr a c=>?_) h
 ·exact this.2
 have d:Xj true (Zt G) r.right=true:=U8.2 λs f=>⟨(c s f).1,λh0=>((c s f).2 h0).1⟩;refine⟨Ue (b:=true) a ?_ d,r,a,rfl,d⟩;have:=g.left r a;omega
theorem N0{G:Gr}(c:G.Fits):i∈Ze G↔useB G i:=by
 unfold Ze;rw[Ka];constructor
 ·rintro⟨r,a,rfl⟩;obtain⟨h1,d,f⟩:=Fq.1 a;refine⟨Ue (b:=true) h1 ?_ f,d⟩;have:=c.left r h1;omega
 rintro⟨h,j⟩;obtain⟨r,a,rfl,g⟩:=prod_rule c h;exact⟨r,Fq.2 ⟨a,j,g⟩,rfl⟩
theorem use_lt{G:Gr}(h:useB G i):i<G.nons.length:=by
 have:=getD_lt h.1;rwa [Vx] at this
theorem Zug{G:Gr}(a:r∈Yh G):r.left.toNat∈Ze G:=Ka.2 ⟨r,a,rfl⟩
theorem Qz{G:Gr}(b:G.Fits)(f:r∈Yh G)(c:s∈r.right)(h0:s<0):Zp s∈Ze G:=by
 obtain⟨h1,d,a⟩:=Fq.1 f;rw[N0 b];exact⟨(U8.1 a s c).2 h0,C9 b h1 d a c h0⟩
theorem Ub(G:Gr):(Ze G).Nodup:=Nh _
theorem Zu7{G:Gr}(a:G.Fits):(Ze G).length<=G.nons.length:=by
 exact Br _ _ (Ub G) λi hi=>use_lt ((N0 a).1 hi)
theorem Ms{G:Gr}(d:G.Fits):∀(f:Nat) {s:Int},Qw G f s 0≠0->Xg (Zj G) s=true
 | 0,s,h=>by
   exfalso;unfold Qw at h;split at h
   ·exact h (by simp[K0])
   ·exact h rfl
 | f+1,s,h=>by
   by_cases h0:0<=s
   ·rw[Un G _ h0] at h;exact absurd (by simp[K0]) h
   rw[Fg G f AA] at h;obtain⟨r,a,l⟩:∃r∈G.rules.filter (λr=>decide (r.left.toNat=Zp s)),Zx (Qw G f) r.right 0≠0:=by
    apply DX;intro k;apply h;unfold Yc;rw[Mc];intro r a;apply DX;intro m;exact k ⟨r,a,m⟩
   rw[List.mem_filter,BB] at a;have g:∀q∈r.right,Xg (Zj G) q=true:=λq c=>Ms d f λn=>l (Uf.2 ⟨q,c,n⟩);have j:Xj false (Zj G) r.right=true:=U8.2 λq c=>by
    have:=g q c;unfold Xg at this;rw[AR,BB] at this;exact⟨λh1=>AA,λ_=>this.2⟩
   have o:=d.left r a.1;have:=Ue (b:=false) (G:=G) a.1 AA j;rw[a.2] at this;unfold Xg;rw[AR,BB];exact⟨AA,this⟩
theorem Nw(a b:Nat)(c:a<big)(d:b<big):N9 (limbs a) (limbs b)=Xm (a*b):=by
 simp[N9,Ym a c,Ym b d,Yd]
theorem Nz(a b:Nat)(c:a<big)(d:b<big):Mu (limbs a) (limbs b)=Xm (a+b):=by
 simp[Mu,Ym a c,Ym b d,Yd]
def Zv5(G:Gr)(i:Nat):Bool:=match G.rules[i]? with
 | some r=>Ky (Zt G) (Z5 G) r
 | none=>false
def ksN(G:Gr)(j:Nat):List Nat:=(List.range j).filter (Zv5 G)
def Wj(G:Gr)(j:Nat):List Rul:=(G.rules.take j).filter (Ky (Zt G) (Z5 G))
theorem Zts{G:Gr}(a:G.rules[j]? = some r)(h:Ky (Zt G) (Z5 G) r=true):ksN G (j+1)=ksN G j++[j]/\Wj G (j+1)=Wj G j++[r]:=by
 have b:Zv5 G j=true:=by unfold Zv5;rw[a];exact h
 constructor
 ·unfold ksN;rw[Ec,List.filter_append];simp[b]
 unfold Wj;rw[Ya a,List.filter_append];simp[h]
theorem ksN_no{G:Gr}(a:G.rules[j]? = some r)(h:Ky (Zt G) (Z5 G) r=false):ksN G (j+1)=ksN G j/\Wj G (j+1)=Wj G j:=by
 have b:Zv5 G j=false:=by unfold Zv5;rw[a];exact h
 constructor
 ·unfold ksN;rw[Ec,List.filter_append];simp[b]
 unfold Wj;rw[Ya a,List.filter_append];simp[h]
theorem Mh(G:Gr):∀j,j<=G.rules.length->(ksN G j).length=(Wj G j).length/\∀q i:Nat,(ksN G j)[q]? = some i->∃r,G.rules[i]? = some r/\(Wj G j)[q]? = some r
 | 0,_=>⟨rfl,λq i h=>by simp[ksN] at h⟩
 | j+1,hj=>by
   obtain⟨h1,f⟩:=Mh G j AA;have b:G.rules[j]? = some (G.rules[j]' AA):=AM _;generalize G.rules[j]=r at b;cases g:Ky (Zt G) (Z5 G) r with
   | false =>
     obtain⟨c,d⟩:=ksN_no b g;rw[c,d];exact⟨h1,f⟩
   | true =>
     obtain⟨c,d⟩:=Zts b g;rw[c,d];refine⟨by simp[h1],λq i a=>?_⟩;rcases Nat.lt_trichotomy q (ksN G j).length with l | k | m
     ·rw[DL l] at a;rw[DL AA];exact f q i a
     ·subst k;rw[BX (AI _),Nat.sub_self] at a;have:j=i:=by simpa using a
      subst this;refine⟨r,b,?_⟩;rw[h1,BX (AI _),Nat.sub_self];rfl
     rw[BE AG] at a;cases a
theorem Jp(G:Gr):Wj G G.rules.length=Yh G:=by unfold Wj Yh;rw[List.take_length]
theorem ks_lt{G:Gr}(h:i∈ksN G j):i<j:=by
 unfold ksN at h;exact BQ.1 (List.mem_filter.1 h).1
theorem Zu9(G:Gr)(j:Nat):(ksN G j).length<=j:=BC (List.length_filter_le _ _) AE
theorem Zsg(G:Gr)(a:G.Fits)(j:Nat):(Wu (Wj G j)).length<=G.nons.length:=by
 refine Br _ _ (Nh _) λi hi=>?_;obtain⟨r,b,rfl⟩:=Ka.1 hi;have:=a.left r (List.mem_of_mem_take (List.mem_filter.1 b).1);omega
theorem lowN_take{l:List Int}(h:l[q]? = some s):Uy N (l.take (q+1))=Uy N (l.take q)+(if Xg N s then 0 else 1):=by
 rw[DA,h];unfold Uy;rw[List.countP_append];cases a:Xg N s <;> simp[List.countP_cons,List.countP_nil,a]
theorem Cq{a:List Rul}(b:a[k]? = some r)(i n:Nat):Yc T (a.take (k+1)) i n=Yc T (a.take k) i n+(if r.left.toNat=i then Zx T r.right n else 0):=by
 rw[DA,b];exact Gg T _ r i n
theorem tr_Del_nil(b:Value)(w:World):Calls prog 146 #[.slice none 0 0,b] w λe w'=>e = .returned (.slice none 0 0)/\w=w':=by
 have a:=Tryz.slices_IndexFunc_empty_f86 (α:=Int) none 0 b w;have c:=LH a;clear a;go_enter func146,ntmps146;go_wp2_with (go_at_call 86;(with_reducible refine c.out.mono ?_);rintro e w'⟨rfl,rfl⟩);go_ret;exact⟨rfl,rfl⟩
theorem Bk{y:Nat}(m:x≠0)(o:y≠0):∃d g,N9 (Vk x).1 (Vk y).1=(d,g)/\∀(w:World) (A:Option Addr) (c:Nat),Zq .u32 w A d.length c d->Z1 w A d.length c ((Vk x).2 || ((Vk y).2 || ((g:Int) != 0))) (x*y):=by
 have n:x<=x*y:=Nat.le_mul_of_pos_right x AA;have p:y<=x*y:=Nat.le_mul_of_pos_left y AA;have f:Zm ([]:List Nat)=true:=AC
 have k:val ([]:List Nat)=0:=rfl;have l:0<big:=Zsx;have j:Xm 0=([],0):=by unfold Xm;rw[if_pos l,BL (Lq.2 rfl)]
 by_cases h1:x<big
 ·by_cases b:y<big
  ·rw[Z7 h1,Z7 b,Nw x y h1 b];rcases F8 (x*y) with ⟨a,e⟩ | ⟨a,e⟩
   ·exact⟨_,_,e,λw A c h=>⟨by rw[Z7 a];rfl,by rw[Z7 a];exact h⟩⟩
   exact⟨_,_,e,λw A c h=>⟨by rw[Wl a];rfl,by rw[Wl a];exact h⟩⟩
  have a:¬x*y<big:=AA
  rw[Z7 h1,Wl b];refine⟨[],0,by simp[N9,f,k,j,Ym x h1],λw A c h=>⟨by rw[Wl a];rfl,by rw[Wl a];exact h⟩⟩
 have a:¬x*y<big:=AA
 rw[Wl h1];refine⟨[],0,?_,λw A c h=>⟨by rw[Wl a];rfl,by rw[Wl a];exact h⟩⟩;have:Zm (Vk y).1=true:=by
  by_cases b:y<big
  ·rw[Z7 b];exact Ym y b
  rw[Wl b];exact f
 simp[N9,f,k,j,this]
def Yr(G:Gr)(i:Nat):Nat:=(ksN G G.rules.length).getD i 0
theorem ks_pair(G:Gr)(j:Nat):(ksN G j).Pairwise (·<·):=by
 unfold ksN;exact List.Pairwise.filter _ List.pairwise_lt_range
theorem Zzr{G:Gr}(hi:i<(ksN G G.rules.length).length)(a:j<(ksN G G.rules.length).length)(h:Yr G i=Yr G j):i=j:=by
 unfold Yr at h;rw[AO,AO,AM hi,AM a] at h;have h:(ksN G G.rules.length)[i]=(ksN G G.rules.length)[j]:=h;rcases Nat.lt_trichotomy i j with b | rfl | b
 ·have h1:=List.pairwise_iff_getElem.1 (ks_pair G G.rules.length) i j hi a b;omega
 ·rfl
 have h1:=List.pairwise_iff_getElem.1 (ks_pair G G.rules.length) j i a hi b;omega
def Bc(G:Gr)(t:List Nat)(j:Nat):List Int:=((t.take j).map (Yr G)++t.drop j).map λi:Nat=>(i:Int)
theorem rowU_at{G:Gr}(h:t[j]? = some x):(Bc G t j)[j]? = some (x:Int):=by
 obtain⟨a,rfl⟩:=AN.1 h;unfold Bc;rw[BA,BX AG];simp[Nat.min_eq_left (DP a)];exact⟨_,h,rfl⟩
theorem rowU_set{G:Gr}(h:t[j]? = some x):(Bc G t j).set j ((Yr G x:Nat):Int)=Bc G t (j+1):=by
 have h1:=Ya h;obtain⟨a,rfl⟩:=AN.1 h;unfold Bc;rw[h1,DW a];simp only[DI,CU,List.map_nil,DQ,DU,DG];have b:(((t.take j).map (Yr G)).map λi:Nat=>(i:Int)).length=j:=by
  rw[BF,BF,BY];omega
 rw[List.set_append_right _ _ AA,b,Nat.sub_self];rfl
theorem kept22:Yr Xt 0=0/\Yr Xt 1=1:=⟨AB,AB⟩
section
open Go.RowKit Go.Shelf
attribute [local go_sem] Oper.semAt_some
open Go.RowKit Go.Shelf Go.Sort
theorem sorted_s(b L cap:Nat)(A:Option Addr)(a:List ByteArray)(G:a.length<=1000)(w:World)(B:b<w.heap.size)(q:w.cell? ⟨b,0,none⟩=some (.slice A L cap))(p:Js w A L cap a):
 Calls prog 161 #[.func (.func 206) #[] #[.pointer (some ⟨b,0,none⟩)]] w (RetSorted w a):=by
 have H:=LH (collect_s b L cap A a G w B q p);clear q p;go_enter func161,ntmps161;go_wp2_with (go_at_call 204;(with_reducible refine H.out.mono ?_);rintro e W⟨v,rfl,I,g⟩);have s:(byL a).length=a.length:=by simp[byL]
 rcases I.2 with ⟨rfl,J⟩ | ⟨c,m,U,rfl,h,k,O,P,R,S⟩
 ·have M:=BL J;subst M;have z:=LH (Tryz.slices_Sort_string_none none 0 W);go_wp2_with (go_at_call 205;(with_reducible refine z.out.mono ?_);rintro e w'⟨rfl,rfl⟩);go_ret;exact⟨g,.inl ⟨rfl,rfl⟩⟩
 have r:c<W.heap.size:=(Array.getElem?_eq_some_iff.1 k).1;have o:Holds encStr W c 0 (byL a).toArray:=holds_of_block k (by rw[s,encStr_byL];simpa using S);have d:=Tryz.slices_Sort_string c 0 m (byL a) W o r AA;rw[s] at d;have u:=LH d;clear d o;go_wp2_with (go_at_call 205;(with_reducible refine u.out.mono ?_);rintro e w'⟨rfl,l,os,rfl⟩);go_ret;have t:((byL a).mergeSort λx y=>decide (x<=y)).length=(byL a).length:=AE
 have F:=ownsRow_sorted (n:=l) (os:=os) t h k AA P R;have C:=g.grown (grownBy_sorted (n:=l) (os:=os) ((byL a).mergeSort λx y=>decide (x<=y)).toArray) g.size (λj E=>by cases E;exact h);refine⟨C,.inr ⟨c,m,rfl,h,?_,O,?_⟩⟩
 ·exact AJ r (grownBy_sorted (n:=l) (os:=os) _).size
 rcases F.2 with ⟨f,_⟩ | ⟨X,T,V,f,_,D,_,_,_,N⟩
 ·cases f
 injection f with e1 _ _;injection e1 with e1;injection e1 with e1;subst e1;exact holds_of_block D (by rw[t];simpa using N)
end
section
open Go.RowKit Go.Maps
theorem clone_strs(A:Option Addr)(n c:Nat)(d:List ByteArray)(w:World)(h:Js w A n c d)(B:n<=1000):
 Calls prog 97 #[.slice A n c] w λe w'=>∃f g,e = .returned (.slice f n g)/\w'.ownsRow w 9 1 (.slice f n g) n (d.map Value.string)/\Below w w w':=by
 obtain rfl:=h.len;cases A with
 | none =>
   have o:d=[]:=by
    cases d with
    | nil=>rfl
    | cons z d =>
      obtain⟨b,p,e,_⟩:=h.2.2.2 AE;cases e
   subst o;refine (Tryz.slices_Clone_string_nil 0 c w).mono ?_;rintro e w'⟨rfl,rfl⟩;exact⟨none,0,rfl,BJ w' _ _ _,AK _ _⟩
 | some a =>
   by_cases r:d.length=0
   ·have o:=BL r;subst o;refine (Tryz.slices_Clone_string_zero a c w).mono ?_;rintro e w'⟨x,rfl,k,_,l⟩;obtain⟨f,g,rfl⟩:=M3 k;exact⟨f,g,rfl,k,l⟩
   obtain⟨b,p,s,e,l,_,_⟩:=h.get (j:=0) AA;injection e with e;subst e;have t:∀j,j<d.length->w.cell? ⟨b,p+j,none⟩=some (.string (d.getD j ByteArray.empty)):=λj v=>by
    obtain⟨y,C,D,m,_,q,u⟩:=h.get v;injection m with m;injection m with e3 e4;subst e3 e4;rw[u,AO,q.out];rfl
   refine (Tryz.slices_Clone_string b p d.length c d w (AI _) AA t).mono ?_;rintro e w'⟨x,rfl,k,_,l⟩;obtain⟨f,g,rfl⟩:=M3 k;rw[AQ (AI _)] at k;exact⟨f,g,rfl,k,l⟩
def Gr.aheadP(G:Gr):Bool:=H0 G.terms&&Yb G.nons.length 1 16&&Yb G.rules.length 1 40&&decide G.names.Nodup&&Yb G.start 0 ((G.nons.length:Int)-1)
def Gr.rightP(G:Gr):Bool:=G.aheadP&&!(G.nons.any λs=>!Xi (Zh s))&&decide (G.leftsGo G.rules (-1)=some ((G.nons.length:Int)-1))
theorem right_same(G:Gr):G.rightP=G.right:=by
 rw[BZ];unfold Gr.rightP Gr.right Gr.aheadP Gr.termsOK Gr.nonsOK H0 Yb;simp only[AR,decide_eq_true_eq,BG,names_nodup,allI_iff,Gr.termOK,Gr.nonOK,Bool.not_eq_true',List.any_eq_false,Bool.not_eq_true,Bool.not_eq_false'];constructor
 ·rintro⟨⟨⟨⟨⟨⟨⟨f,c,h⟩,g⟩,o⟩,k,l⟩,q⟩,p⟩,n⟩;rw[Zzf _ f,BG] at h;exact⟨⟨⟨⟨⟨c,λj t a=>⟨⟨l j t a,f t (AL a)⟩,h t (AL a)⟩⟩,AA,λj s b=>⟨⟨by simpa using p s (AL b),(k j s b).1⟩,(k j s b).2⟩⟩,AA⟩,AA⟩,n⟩
 rintro⟨⟨⟨⟨⟨f,c⟩,h,g⟩,o⟩,k⟩,l⟩;have m:∀t∈G.terms,Up t=true:=λt a=>by
  obtain⟨j,d⟩:=BU a;exact (c j t d).1.2
 refine⟨⟨⟨⟨⟨⟨⟨m,f,?_⟩,AA⟩,AA⟩,λi s b=>⟨(g i s b).1.2,(g i s b).2⟩,λi t a=>(c i t a).1.1⟩,AA⟩,λs b=>?_⟩,l⟩
 ·rw[Zzf _ m,BG];intro t a;obtain⟨j,d⟩:=BU a;exact (c j t d).2
 obtain⟨j,d⟩:=BU b;simpa using (g j s d).1.1
theorem names_take(G:Gr){t:Trm}(a:G.terms[k]? = some t):(G.nons++(G.terms.take (k+1)).map Trm.name).map Value.string=(G.nons++(G.terms.take k).map Trm.name).map Value.string++[.string t.name]:=by
 rw[DA,a];simp
theorem leftsP_bad(G:Gr){k:Nat}{r:Rul}{T:Int}(j:G.rules[k]? = some r)(h:G.leftsGo (G.rules.take k) (-1)=some T)(d:(Yb r.left 0 (T+1)&&G.ruleOK r)=false):G.rightP=false:=by
 have g:G.leftsGo (G.rules.take (k+1)) (-1)=none:=by
  rw[DA,j,Option.toList_some,Gr.leftsGo_snoc,h];simp only[Option.bind_some];rw[if_neg];rintro⟨a,b,c⟩;rw[c] at d;unfold Yb at d;simp[a,b] at d
 have f:=Gr.leftsGo_none G (G.rules.take (k+1)) (G.rules.drop (k+1)) (-1) g;rw[List.take_append_drop] at f;unfold Gr.rightP;rw[f];simp
theorem leftsP_good(G:Gr){k:Nat}{r:Rul}{T:Int}(c:G.rules[k]? = some r)(h:G.leftsGo (G.rules.take k) (-1)=some T)(a:Yb r.left 0 (T+1)=true)(b:G.ruleOK r=true):G.leftsGo (G.rules.take (k+1)) (-1)=some (max T r.left):=by
 rw[DA,c,Option.toList_some,Gr.leftsGo_snoc,h];simp only[Option.bind_some];have:=Ud a;rw[if_pos ⟨this.1,this.2,b⟩]
end
section
variable {P:Program} {ops:Array Oper} {md:Region.Mode} {C:World->Prop}
theorem wp_region_quiet_tail{a:Act}(n:Nat)(u:P.follows .mixedOrders=true)(d:Region.lexTailB .any l.toArray n=true)(p:C { w with drawn:=w.drawn+1 })(h:wpQuiet P l.toArray C (λc=>∀w',C w'->wpList P l.toArray Q (l.drop n) c w') (l.take n) a):(Code.region id l.toArray true).wp P Q a w:=by
 simp only[Region.lexTailB,AR,decide_eq_true_eq] at d;obtain⟨⟨⟨⟨y,v⟩,x⟩,q⟩,s⟩:=d;have D:n<l.length:=by simpa using v
 have b:(l.take n).length=n:=AG
 have k:(l.drop n).length=l.toArray.size-n:=AE
 have B:HeadInv .any l.toArray n (Array.replicate l.toArray.size false) :=
  ⟨AE,λj E _ o=>(by rw[getD_replicate_false] at o;cases o),λt _ z=>getD_in (by simpa using z) (getD_replicate_false _ _)⟩
 have H:=Zvv (md := .any) (g:=l.toArray.size-n) y x q (l.take n) 0 _ a (λj m=>by
  have r:j<n:=by rw[b] at m;exact m
  simp[r]) (by simpa using b) B (by rw[b];exact s) h
 refine wp_region_any u ?_;have:=Bh (Q':=Q) (g:=l.toArray.size-n) (λlisted c w' A f=>by
  have:=wpAny_of_seq (md := .any) (Q':=Q) (l.drop n) n listed c w' (λj=>by simp[Ea]) (by rw[k];exact f.1) (f.2 w' A);rwa [k] at this) _ _ _ _ p H
 rw[b,show n+(l.toArray.size-n)=l.toArray.size by omega] at this;exact this
theorem Yx{a:Act}(n:Nat)(d:P.follows .mixedOrders=true)(c:Region.lexTailB .any l.toArray n=true)(h:wpQuiet P l.toArray (λw'=>∃x,w'=bl w x) (λb=>∀w',(∃x,w'=bl w x)->wpList P l.toArray Q (l.drop n) b w') (l.take n) a):(Code.region id l.toArray true).wp P Q a w :=
 wp_region_quiet_tail (C:=λw'=>∃x,w'=bl w x) n d c ⟨⟨_,(AK w w).drew⟩,rfl⟩ h
end
section
variable {G:Gr}
def sig(G:Gr)(i:Nat):Nat:=(toI (Ze G) i).toNat
theorem Zub(a:G.Fits)(c:r∈G.rules)(d:r.left.toNat∈Ze G)(b:Xj true (Zt G) r.right=true):r∈Yh G :=
 Fq.2 ⟨c,((N0 a).1 d).2,b⟩
theorem Ztu(k:G.Fits){ps f wd:List Int}{m:Nat}(h:Fs G ss ps f wd m):∀s∈ss,s<0->(Zt G).getD (Zp s) false=true:=by
 induction h with
 | nil=>intro s a;cases a
 | term h0 _ o =>
   intro s a h1;rcases BW.1 a with rfl | a
   ·omega
   ·exact o s a h1
 | @non s i r ss y z w1 ps f wd x m h0 n u _ _ p t =>
   intro q c h1;rcases BW.1 c with rfl | c
   ·obtain⟨j,rfl,l⟩:=Uo n;have d:=AL l;have v:=k.left r d;have g:=Ue (b:=true) d AA (U8.2 λs a=>⟨λ_=>rfl,λh0=>p s a h0⟩);have e:Zp q=r.left.toNat:=by unfold Zp;omega
    rw[e];exact g
   exact t q c h1
end
section
open Go.Maps (Keyed IsMap Tidy)
open Go.Maps (Keyed IsMap Tidy)
theorem symT_snoc{l:List Int}(h:l[q]? = some s):Vr (l.take (q+1))=Vr (l.take q)++[(s+16).toNat]:=by
 rw[Ya h];unfold Vr;rw[DI];rfl
end
section
open Go.Shelf
def Du(G:Gr)(u:List Nat)(j:Nat):List Int:=(u.take j++(u.drop j).map (Yr G)).map λi:Nat=>(i:Int)
theorem rowK_at{G:Gr}(h:u[j]? = some x):(Du G u j)[j]? = some ((Yr G x:Nat):Int):=by
 obtain⟨a,rfl⟩:=AN.1 h;unfold Du;rw[BA,BX AG];simp[Nat.min_eq_left (DP a)];exact⟨_,h,rfl⟩
theorem rowK_set{G:Gr}(h:u[j]? = some x):(Du G u j).set j (x:Int)=Du G u (j+1):=by
 have h1:=Ya h;obtain⟨a,rfl⟩:=AN.1 h;unfold Du;rw[h1,DW a];simp only[DI,CU,List.map_nil,DQ,DU,DG];have b:((u.take j).map λi:Nat=>(i:Int)).length=j:=by
  rw[BF,BY];omega
 rw[List.set_append_right _ _ AA,b,Nat.sub_self];rfl
theorem idx_kept{G:Gr}(h:i<(ksN G G.rules.length).length):Lib.idxOf (Z6 (ksN G G.rules.length)) ((Yr G i:Nat):Int)=(i:Int):=by
 have b:∀j,j<(ksN G G.rules.length).length->(Z6 (ksN G G.rules.length)).getD j 0=((Yr G j:Nat):Int):=λj a=>by
  unfold Z6 Yr;rw[AO,BA,AO,AM a];rfl
 have:=Lib.idxFrom_hit ((Yr G i:Nat):Int) (Z6 (ksN G G.rules.length)) i 0 (by unfold Z6;rw[BF];exact h) (b i h) λj a=>by
  rw[b j AA];intro e;have:=Zzr AA h (AA:Yr G j=Yr G i);omega
 rw[BH] at this;exact this
end
end Go.Proofs.YtggbjdmpjidhgaaGreatDoor
