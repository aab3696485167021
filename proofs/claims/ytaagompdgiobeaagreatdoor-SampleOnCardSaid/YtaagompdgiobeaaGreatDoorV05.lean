/- Words for slices that read as strings; a string's bytes appended. -/
import Derived.Test.YtaagompdgiobeaaGreatDoorV01
import Derived.Test.YtaagompdgiobeaaGreatDoorV02
import Derived.Test.YtaagompdgiobeaaGreatDoorV03
set_option linter.all false
set_option maxHeartbeats 1500000
set_option maxRecDepth 100000
namespace Go.Proofs.YtaagompdgiobeaaGreatDoor
open Go.RowKit Go.Proofs.Tryz
variable{f:List Bool->List Bool}{F S xs a:List Nat}{x i k n c j q g v K L:Nat}{t:TypeId}{b:Bool}{w:World}{A:Option Addr}{ss:List ByteArray}{ps:List Prd}{P N:List Bool}{s:Int}{l:List Int}{cs:Array Value}
structure Yf (w:World) (h:GH) (G:Gr):Prop where
 terms:N8 w h.a1 h.n1 h.c1 G.terms
 nons:Js w h.a2 h.n2 h.c2 G.nons
 rules:Dv w h.a3 h.n3 h.c3 G.rules
 wf:∀r∈G.rules,∀s∈r.right,U3 s
theorem lx_plain(c:Nat)(w:World)(g:c<256):
 Calls prog 226 #[.int .u8 (c:Int)] w λe w'=>e = .returned (.bool (Mt c))/\w=w':=by
 have d:c<32\/(32<=c/\c<=126/\c=39)\/(32<=c/\c<=126/\c=92)\/(32<=c/\c<=126/\c≠39/\c≠92)\/126<c:=AA
 rcases d with g0 | ⟨g0,a,b⟩ | ⟨g0,a,b⟩ | ⟨g0,a,b,f⟩ | g0;all_goals
  go_enter func226,ntmps226;go_wp2;all_goals
   go_ret;refine⟨Jf ?_,rfl⟩;unfold Mt;rw[Cs];simp only[CJ,AU,BW,BK,ne_eq,Bool.not_eq_true',decide_eq_true_eq,AZ,Bool.false_eq_true,true_iff,false_iff,iff_true,iff_false];omega
theorem lx_escaped(c:Nat)(w:World)(g:c<256):
 Calls prog 227 #[.int .u8 (c:Int)] w λe w'=>e = .returned (.bool (Q1 c))/\w=w':=by
 have a:c=110\/c=116\/c=92\/c=39\/(c≠110/\c≠116/\c≠92/\c≠39):=AA
 rcases a with g0 | g0 | g0 | g0 | ⟨g0,b,d,f⟩;all_goals
  go_enter func227,ntmps227;go_wp2;all_goals
   go_ret;refine⟨Jf ?_,rfl⟩;unfold Q1;rw[Cs];simp only[CJ,AU,BW,BK,ne_eq,Bool.not_eq_true',decide_eq_true_eq,AZ,Bool.false_eq_true,true_iff,false_iff,iff_true,iff_false];omega
theorem Qv.fix(d:Qv f)(b:List Bool):f (Z3 f b.length b)=Z3 f b.length b:=by
 by_cases g:f (Z3 f b.length b)=Z3 f b.length b
 ·exact g
 exfalso;have q:∀k,(Z3 f k b).length=b.length:=λk=>by
  induction k with
  | zero=>rfl
  | succ k j=>show (f (Z3 f k b)).length=_;rw[d.len,j]
 have r:∀k,k<=b.length->f (Z3 f k b)≠Z3 f k b:=λk m h=>by
  have a:=M7 h b.length m;rw[a] at g;exact g h
 have n:∀k,k<=b.length+1->k<=(Z3 f k b).countP (·):=λk=>by
  induction k with
  | zero=>intro _;omega
  | succ k j =>
    intro m;have a:=j AA;have c:=Zsi (Z3 f k b) (f (Z3 f k b)) (d.len _).symm λi hi=>d.up _ i hi;have s:(Z3 f k b).countP (·)≠(f (Z3 f k b)).countP (·):=λo=>r k AA (c.2 o).symm;show k+1<=(f (Z3 f k b)).countP (·);omega
 have a:=n (b.length+1) (AJ _);have c:=List.countP_le_length (p:=λx:Bool=>x) (l:=Z3 f (b.length+1) b);rw[q] at c;omega
theorem GrowsS.fix{f:List Nat->List Nat}(b:GrowsS f)(F:List Nat):f (Z3 f F.length F)=Z3 f F.length F:=by
 obtain⟨p,c,a⟩:=b;have hit:∀t k,Je t (Z3 f k F)=Z3 (p t) k (Je t F):=λt k=>by
  induction k with
  | zero=>rfl
  | succ k d=>show Je t (f (Z3 f k F))=p t (Z3 (p t) k (Je t F));rw[a,d]
 refine view_ext λt=>?_;rw[a,hit];have:=(c t).fix (Je t F);rwa [show (Je t F).length=F.length by simp[Je]] at this
theorem We.get(h:We F)(i:Nat):F.getD i 0<4294967296:=by
 rw[AP];cases a:F[i]? with
 | none=>simp
 | some x=>exact h x (AN a)
theorem We.addAt(h:We F)(i:Nat)(b:x<4294967296):We (addAt i x F):=by
 intro y a;unfold Go.Proofs.YtaagompdgiobeaaGreatDoor.addAt at a;rcases List.mem_or_eq_of_mem_set a with a | rfl
 ·exact h y a
 exact Ct (h.get i) b
theorem Zxr(S:List Nat):Ja S (Xu S)=Xu S:=(stepD_grows S).fix S
theorem Lh{t:Nat}(hi:i<S.length)(c:k<S.length)(b:(S.getD i 0).testBit k=true)(a:Yw S k t=true):Yw S i t=true:=by
 unfold Yw at a ⊢;rw[<-Zxr,Lz _ _ (by rw[Li];exact hi),DS];rw[F4.2 ⟨k,by rw[Li];exact c,b,a⟩,Bool.or_true]
theorem iterD_close(S:List Nat){t:Nat}(hi:i<S.length)(m:Nat)(h:((Z3 (Ja S) m S).getD i 0).testBit t=true):Yw S i t=true:=by
 rcases Nat.le_total m S.length with a | a
 ·obtain⟨d,hd⟩:=Nat.exists_eq_add_of_le a;unfold Yw Xu;rw[hd];clear hd a
  induction d with
  | zero=>exact h
  | succ d c=>exact iterD_up S hi _ c
 have b:=M7 (f:=Ja S) (x:=S) (n:=S.length) (Zxr S) m a;rw[b] at h;exact h
theorem Ha{t:Nat}(hi:i<S.length)(h:(S.getD i 0).testBit t=true):Yw S i t=true:=iterD_close S hi 0 h
theorem Fi(S:List Nat):∀(m:Nat) {i k t:Nat},i<S.length->k<S.length->((Z3 (Ja S) m S).getD i 0).testBit k=true->Yw S k t=true->Yw S i t=true
 | 0,i,k,t,hi,hk,a,h2=>Lh hi hk a h2
 | m+1,i,k,t,hi,hk,a,h2=>by
   rw[Z3,Lz _ _ (by rw[U0];exact hi),DS,CJ] at a;rcases a with a | a
   ·exact Fi S m hi hk a h2
   obtain⟨f,b,c,d⟩:=F4.1 a;rw[U0] at b;exact Lh hi b c (Fi S m b hk d h2)
theorem Zyy{t:Nat}(hi:i<S.length)(c:k<S.length)(a:Yw S i k=true)(b:Yw S k t=true):Yw S i t=true:=Fi S _ hi c a b
theorem sl_index_ints(A:Option Addr)(n c:Nat)(xs:List Int)(g:FuncId)(t:Array Value)(p:Int->Bool)(w:World)(F:∀args w,(callFunc g args).run prog w = .ok (.enter g args) w)(h:Za .i64 w A n c xs)(u:Zyw g t (Value.int .i64) w xs p):
 Calls prog 153 #[.slice A n c,.func (.func g) #[] t] w λe w'=>e = .returned (.int .i64 (Y8 p xs))/\Below w w w':=by
 obtain rfl:=h.len;have G:=h.cap;have x:=LH u;clear u;go_enter func153,ntmps153;go_wp2_with fail;go_loopw [5,8] (λ_ i wr=>∃k:Nat,k<=xs.length/\i = .int .i64 (k:Int)/\Below w w wr/\Hid (∀j,j<k->∀y,xs[j]? = some y->p y=false)) (λ_ i _=>xs.length-(intOf i).toNat)
 case atStart=>exact⟨0,AS _,rfl,AL _ _,LH λj H=>AA⟩
 obtain⟨k,I,rfl,f,o⟩:=hrel;by_cases C:k<xs.length
 ·obtain⟨b,J,s,rfl,B,q,D⟩:=h.get C;rw[<-f.cell (by exact B)] at D;have a:=x s (AN q) wr f;cases d:p s
  ·rw[d] at a;have z:=LH d;have l:=LH a;clear d a;go_wp2_with (go_at_fn g;refine l.mono ?_;rintro e E⟨rfl,r⟩);go_roundw
   case rel=>exact⟨k+1,AA,AF,Zz f r,LH (Vz o q z)⟩
   simp[intOf];omega
  rw[d] at a;have m:=LH (Q4 q d o);have l:=LH a;clear d a;go_wp2_with (go_at_fn g;refine l.mono ?_;rintro e E⟨rfl,r⟩);go_ret;exact⟨by rw[m];rfl,Zz f r⟩
 obtain rfl:k=xs.length:=AA
 have m:Hid (Y8 p xs=-1):=Jq λj y v=>o j (AO.1 v).1 y v;go_wp2_with fail;go_ret;exact⟨by rw[m];rfl,f⟩
theorem sl_index_strs(A:Option Addr)(n c:Nat)(xs:List ByteArray)(g:FuncId)(t:Array Value)(p:ByteArray->Bool)(w:World)(F:∀args w,(callFunc g args).run prog w = .ok (.enter g args) w)(h:Js w A n c xs)(u:Zyw g t Value.string w xs p):
 Calls prog 144 #[.slice A n c,.func (.func g) #[] t] w λe w'=>e = .returned (.int .i64 (Y8 p xs))/\Below w w w':=by
 obtain rfl:=h.len;have G:=h.cap;have x:=LH u;clear u;go_enter func144,ntmps144;go_wp2_with fail;go_loopw [5,8] (λ_ i wr=>∃k:Nat,k<=xs.length/\i = .int .i64 (k:Int)/\Below w w wr/\Hid (∀j,j<k->∀y,xs[j]? = some y->p y=false)) (λ_ i _=>xs.length-(intOf i).toNat)
 case atStart=>exact⟨0,AS _,rfl,AL _ _,LH λj H=>AA⟩
 obtain⟨k,I,rfl,f,o⟩:=hrel;by_cases C:k<xs.length
 ·obtain⟨b,J,s,rfl,B,q,D⟩:=h.get C;rw[<-f.cell (by exact B)] at D;have a:=x s (AN q) wr f;cases d:p s
  ·rw[d] at a;have z:=LH d;have l:=LH a;clear d a;go_wp2_with (go_at_fn g;refine l.mono ?_;rintro e E⟨rfl,r⟩);go_roundw
   case rel=>exact⟨k+1,AA,AF,Zz f r,LH (Vz o q z)⟩
   simp[intOf];omega
  rw[d] at a;have m:=LH (Q4 q d o);have l:=LH a;clear d a;go_wp2_with (go_at_fn g;refine l.mono ?_;rintro e E⟨rfl,r⟩);go_ret;exact⟨by rw[m];rfl,Zz f r⟩
 obtain rfl:k=xs.length:=AA
 have m:Hid (Y8 p xs=-1):=Jq λj y v=>o j (AO.1 v).1 y v;go_wp2_with fail;go_ret;exact⟨by rw[m];rfl,f⟩
theorem U1(A:Option Addr)(n c:Nat)(xs:List Int)(g:FuncId)(a:Array Value)(p:Int->Bool)(w:World)(j:∀args w,(callFunc g args).run prog w = .ok (.enter g args) w)(h:Za .i64 w A n c xs)(d:Zyw g a (Value.int .i64) w xs p):
 Calls prog 94 #[.slice A n c,.func (.func g) #[] a] w λe w'=>e = .returned (.bool (xs.any p))/\Below w w w':=by
 have b:=sl_index_ints A n c xs g a p w j h d;rw[<-Zvt];generalize Y8 p xs=r at *;have f:=LH b;clear b d h;go_enter func94,ntmps94;go_wp2_with (go_at_call 153;refine f.out.mono ?_;rintro e l⟨rfl,k⟩);go_ret;exact⟨rfl,k⟩
theorem sl_contains_strs(A:Option Addr)(n c:Nat)(xs:List ByteArray)(g:FuncId)(a:Array Value)(p:ByteArray->Bool)(w:World)(j:∀args w,(callFunc g args).run prog w = .ok (.enter g args) w)(h:Js w A n c xs)(d:Zyw g a Value.string w xs p):
 Calls prog 84 #[.slice A n c,.func (.func g) #[] a] w λe w'=>e = .returned (.bool (xs.any p))/\Below w w w':=by
 have b:=sl_index_strs A n c xs g a p w j h d;rw[<-Zvt];generalize Y8 p xs=r at *;have f:=LH b;clear b d h;go_enter func84,ntmps84;go_wp2_with (go_at_call 144;refine f.out.mono ?_;rintro e l⟨rfl,k⟩);go_ret;exact⟨rfl,k⟩
def Ce(ids:Rul->List Bool->List Int)(r:Rul)(N:List Bool):List Bool:=Jz N (ids r N)
def Yy(ids:Rul->List Bool->List Int)(a:List Rul)(N:List Bool):List Bool:=a.foldl (λN r=>Ce ids r N) N
theorem Zwt(ids:Rul->List Bool->List Int)(a:List Rul)(r:Rul)(N:List Bool):Yy ids (a++[r]) N=Ce ids r (Yy ids a N):=by simp[Yy]
def Dr(P:List Bool)(r:Rul)(N:List Bool):Bool:=N.getD r.left.toNat false&&Xj true P r.right
def Yp(P:List Bool)(r:Rul)(N:List Bool):List Int:=if Dr P r N then Uq r.right else []
def Xv(G:Gr):List Bool:=(List.replicate G.nons.length false).set G.start.toNat true
theorem fwK_small(i k:Nat)(h:We F):We (fwK i k F):=by
 unfold fwK;split
 ·exact h.addAt _ (h.get _)
 exact h
theorem Zzp(i:Nat)(h:We F):∀m,We (fwR i m F)
 | 0=>h
 | m+1=>by rw[Mm];exact fwK_small _ _ (Zzp i h m)
theorem Zzu(m:Nat)(h:We F):∀q,We (fwI m q F)
 | 0=>h
 | q+1=>by rw[M9];exact Zzp _ (Zzu m h q) _
theorem Lo(m q:Nat)(h:We F):∀p,We (Z3 (fwI m q) p F)
 | 0=>h
 | p+1=>by rw[Z3];exact Zzu _ (Lo m q h p) _
theorem fwK_in(h:UpF S F)(i:Nat)(c:k<S.length):UpF S (fwK i k F):=by
 refine⟨by rw[fwK_len];exact h.1,λj t b a=>?_⟩;unfold fwK at a;split at a
 ·rename_i d;rw[Jo] at a;split at a
  ·rename_i f;obtain⟨rfl,_⟩:=f;rw[DS,CJ] at a;rcases a with a | a
   ·exact h.2 _ _ b a
   exact Zyy b c (h.2 _ _ b d) (h.2 _ _ c a)
  exact h.2 _ _ b a
 exact h.2 _ _ b a
theorem fwR_in(h:UpF S F)(i:Nat):∀m,m<=S.length->UpF S (fwR i m F)
 | 0,_=>h
 | m+1,hm=>by rw[Mm];exact fwK_in (fwR_in h i m AA) i AA
theorem fwI_in(h:UpF S F)(q:Nat):UpF S (fwI S.length q F):=by
 induction q with
 | zero=>exact h
 | succ q a=>rw[M9];exact fwR_in a q _ (AJ _)
theorem Zul(S:List Nat)(q:Nat):∀p,UpF S (Z3 (fwI S.length q) p S)
 | 0=>⟨rfl,λi t hi h=>Ha hi h⟩
 | p+1=>by rw[Z3];exact fwI_in (Zul S q p) q
theorem Zsf(S:List Nat):Z3 (fwI S.length S.length) S.length S=Xu S:=by
 refine sets_ext (by rw[K5,Li]) λi hi t=>?_;rw[K5] at hi;rw[Cs];exact⟨λh=>(Zul S _ _).2 i t hi h,λh=>Zzl S _ hi h⟩
theorem Lv(h:We S):We (Xu S):=by rw[<-Zsf];exact Lo _ _ h _
theorem Zxv(a:We S):∀(l:List Nat) {R:Nat},R<4294967296->Qd S R l<4294967296
 | [],R,h=>h
 | k::l,R,h=>Zxv a l (Ct h (a.get k))
theorem J5.start(b:We S)(a:InS S)(hi:i<S.length):J5 S i (S.getD i 0) :=
 ⟨b.get i,λ_ h=>h,λt h=>⟨a i t h,Ha hi h⟩⟩
theorem J5.next(l:We S)(d:InS S)(hi:i<S.length){R:Nat}(h:J5 S i R):J5 S i (Qd S R (Wy R)):=by
 refine⟨Zxv l _ h.1,λt a=>by rw[Ma,h.2.1 t a];rfl,λt a=>?_⟩;rw[Ma,CJ] at a;rcases a with a | a
 ·exact h.2.2 t a
 rw[Ep] at a;obtain⟨k,g,c⟩:=a;have j:=((Zwo R k).1 g).2;obtain⟨b,f⟩:=h.2.2 k j;exact⟨d k t c,Zyy hi b f (Ha b c)⟩
theorem order_goes{use b:Nat}(l:∀i t,use.testBit i=true->(S.getD i 0).testBit t=true->use.testBit t=true)(k:∀i,use.testBit i=true->i<S.length)(r:∀i,use.testBit i=true->Yw S i i=false)(o:Qx (U2 S use b) S.length=none):Ck use b=0:=by
 have key:∀(m i:Nat),(Ck use b).testBit i=true->(Xu S).getD i 0=m->False:=by
  intro m
  induction m using Nat.strongRecOn with
  | ind m v =>
    intro i hi y;rw[Nu,AU] at hi;have d:=k i hi.1;have f:=findB_none' o i d;unfold U2 at f;rw[hi.1,hi.2,Bool.true_and,Bool.true_and] at f;have p:Ck (S.getD i 0) b≠0:=by simpa using f
    obtain⟨t,a⟩:=Zvf p;rw[Nu,AU] at a;have g:=l i t hi.1 a.1;have u:=k t g;have j:Yw S i t=true:=Ha d a.1;have c:=r t g;have x:(Xu S).getD t 0<=(Xu S).getD i 0:=Zyd λq s=>Lh d u a.1 s;have z:(Xu S).getD t 0≠(Xu S).getD i 0:=λn=>by
     unfold Yw at j c;rw[n,j] at c;cases c
    exact v _ AA t (by rw[Nu,g,a.2];rfl) rfl
 apply DV;intro h;obtain⟨i,hi⟩:=Zvf h;exact key _ i hi rfl
theorem Gi.nil:Gi [] []:=⟨rfl,λj t h=>by simp at h⟩
theorem Rfs.get(h:Rfs w A n c ss)(m:j<n):
 ∃b a s x y,A=some ⟨b,a,none⟩/\b<w.heap.size/\Hid (ss[j]? = some s)/\w.cell? ⟨b,a+j*2,none⟩=some (.string s)/\w.cell? ⟨b,a+j*2+1,none⟩=some (.complex .f64 x y):=by
 obtain⟨b,a,e,l,k⟩:=h.2.2.2 AA;have o:=h.1;have d:ss[j]? = some (ss[j]' AA):=AM AA;obtain⟨f,x,y,g⟩:=k j _ d;exact⟨b,a,_,x,y,e,l,LH d,f,g⟩
def Prds(w:World)(A:Option Addr)(n c:Nat)(ps:List Prd):Prop :=
 ps.length=n/\n<=c/\c<=9223372036854775807/\(0<n->∃b a,A=some ⟨b,a,none⟩/\b<w.heap.size/\∀(j:Nat) (p:Prd),ps[j]? = some p->∃Ar cr x y d f,
  w.cell? ⟨b,a+j*5,none⟩=some (.string p.left)/\w.cell? ⟨b,a+j*5+1,none⟩=some (.complex .f64 x y)/\w.cell? ⟨b,a+j*5+2,none⟩=some (.slice Ar p.right.length cr) /\
  w.cell? ⟨b,a+j*5+3,none⟩=some (.string p.prec)/\w.cell? ⟨b,a+j*5+4,none⟩=some (.complex .f64 d f)/\Rfs w Ar p.right.length cr p.right)
theorem Prds.get(h:Prds w A n c ps)(u:j<n):
 ∃b a p Ar cr x y d f,A=some ⟨b,a,none⟩/\b<w.heap.size/\Hid (ps[j]? = some p)/\w.cell? ⟨b,a+j*5,none⟩=some (.string p.left)/\w.cell? ⟨b,a+j*5+1,none⟩=some (.complex .f64 x y)/\w.cell? ⟨b,a+j*5+2,none⟩=some (.slice Ar p.right.length cr) /\
 w.cell? ⟨b,a+j*5+3,none⟩=some (.string p.prec)/\w.cell? ⟨b,a+j*5+4,none⟩=some (.complex .f64 d f)/\Rfs w Ar p.right.length cr p.right:=by
 obtain⟨b,a,e,t,s⟩:=h.2.2.2 AA;have v:=h.1;have g:ps[j]? = some (ps[j]' AA):=AM AA;obtain⟨Ar,cr,x,y,d,f,k,l,m,o,q,r⟩:=s j _ g;exact⟨b,a,_,Ar,cr,x,y,d,f,e,t,LH g,k,l,m,o,q,r⟩
theorem Zyx(X:Nat->Prop):∀(c:List Rul),(∀r∈c,X r.left.toNat->Xj true P r.right=true->∀s∈r.right,s<0->X (Zp s))->
 ∀{N:List Bool},(∀i,N.getD i false=true->X i)->∀i,(Yy (Yp P) c N).getD i false=true->X i
 | [],_,N,hN,i,h=>hN i h
 | r::c,hX,N,hN,i,h=>by
   refine Zyx X c (λq f=>hX q (BO _ f)) (N:=Ce (Yp P) r N) (λj d=>?_) i h;refine Zy9 X _ (λt b=>?_) hN j d;unfold Yp at b;split at b
   ·rename_i a;unfold Dr at a;rw[AU] at a;obtain⟨s,g,h0,rfl⟩:=Zur.1 b;exact hX r (By ..) (hN _ a.1) a.2 s g h0
   cases b
theorem Nd{G:Gr}:G.right=true↔G.termsOK=true/\G.nonsOK=true/\(1<=G.rules.length/\G.rules.length<=40)/\(0<=G.start/\G.start<(G.nons.length:Int))/\G.leftsGo G.rules (-1)=some ((G.nons.length:Int)-1):=by
 unfold Gr.right;simp only[AU,decide_eq_true_eq,and_assoc]
theorem Lim.take(h:Lim xs)(k:Nat):Lim (xs.take k):=λy a=>h y (List.mem_of_mem_take a)
theorem Zws(xs:List Nat)(k:Nat)(a:k<xs.length)(h0:xs.getD k 0=0):Xx (xs.take (k+1))=Xx (xs.take k):=by
 have:xs.take (k+1)=xs.take k++[0]:=by
  rw[List.take_succ_eq_append_getElem a];simp[AM a] at h0;rw[h0]
 rw[this,L4]
theorem Zxp(xs:List Nat)(k:Nat)(a:k<xs.length)(h0:xs.getD k 0≠0):Xx (xs.take (k+1))=xs.take (k+1):=by
 have:xs.take (k+1)=xs.take k++[xs[k]]:=List.take_succ_eq_append_getElem a;rw[this,Zxh];simpa [AM a] using h0
theorem Zx3(n:Nat):∀xs:List Nat,xs.length=n->val (Xx xs)=val xs/\Mo (Xx xs)/\(∃k,Xx xs=xs.take k):=by
 induction n with
 | zero=>intro xs h;have:xs=[]:=BJ h;subst this;exact⟨rfl,by intro ys x h;simp[Xx] at h,0,rfl⟩
 | succ n f =>
   intro xs h;rcases List.eq_nil_or_concat xs with rfl | ⟨ys,x,rfl⟩
   ·simp at h
   rw[List.concat_eq_append] at *;simp at h;by_cases h0:x=0
   ·subst h0;rw[L4];obtain⟨h1,b,k,a⟩:=f ys h;refine⟨by rw[h1,Wf];simp,b,?_⟩;by_cases c:k<=ys.length
    ·exact⟨k,by rw[a,Eh c]⟩
    exact⟨ys.length,by rw[a,Eh (AJ _),AR AA,List.take_length]⟩
   rw[Zxh _ _ h0];refine⟨rfl,λg z d=>?_,(ys++[x]).length,by rw[List.take_length]⟩;have:=List.append_inj' d rfl;simp at this;omega
theorem neatL_lim(xs:List Nat)(h:Lim xs):Lim (Xx xs):=by
 obtain⟨_,_,k,a⟩:=Zx3 _ xs rfl;rw[a];exact h.take k
theorem Y5(xs:List Nat)(i:Nat):val (xs.take (i+1))=val (xs.take i)+4294967296 ^ i*xs.getD i 0:=by
 by_cases h:i<xs.length
 ·rw[List.take_succ_eq_append_getElem h,Wf,BS,Nat.min_eq_left AA];simp[AM h]
 rw[AR AA,AR AA];simp[BE (show xs.length<=i by omega)]
theorem addP_val(xs ys:List Nat)(i:Nat):
 val (V4 xs ys i).1+4294967296 ^ i*(V4 xs ys i).2=val (xs.take i)+val (ys.take i):=by
 induction i with
 | zero=>simp[V4,val]
 | succ i a =>
   rw[Y5,Y5];simp only[V4];rw[Wf,Mq,Nat.pow_succ];generalize (V4 xs ys i).1=b at *;generalize (V4 xs ys i).2=c at *;generalize xs.getD i 0=x at *;generalize ys.getD i 0=y at *;generalize (4294967296:Nat) ^ i=B at *;have e:4294967296*((x+y+c) / 4294967296)+(x+y+c) % 4294967296=x+y+c:=Nat.div_add_mod _ _;have:B*((x+y+c) % 4294967296)+B*4294967296*((x+y+c) / 4294967296)=B*x+B*y+B*c:=by
    rw[DU,<-DL,Eo,e,DL,DL]
   omega
theorem Zx4(xs ys:List Nat)(i:Nat)(a:xs.length<=i)(b:ys.length<=i):
 val ((V4 xs ys i).1++[(V4 xs ys i).2])=val xs+val ys:=by
 rw[Wf,Mq,addP_val,AR a,AR b]
theorem addP_full(xs ys:List Nat)(d:Lim xs)(f:Lim ys)(i:Nat)(h1:xs.length<=i)(a:ys.length<=i):
 val (V4 xs ys (i+1)).1=val xs+val ys:=by
 have h:=Zx4 xs ys i h1 a;have g:=Lg xs ys d f i;rw[Wf,Mq] at h;simp only[V4];rw[Wf,Mq];have b:xs.getD i 0=0:=by simp[BE h1]
 have c:ys.getD i 0=0:=by simp[BE a]
 rw[b,c,Ee AA];simpa using h
def B6(tab:Nat->Nat->Nat)(a:List Nat)(m p:Nat):Nat->Nat->Nat:=λk i=>if k<m then tab k i else if k=m/\(a.take p).contains i=true then tab k i else 0
theorem cut_zero(tab:Nat->Nat->Nat)(a:List Nat):B6 tab a 0 0=λ_ _=>0:=by
 funext k i;unfold B6;rw[if_neg AA,if_neg];rintro⟨_,h⟩;simp at h
theorem termP_keep{G a:Gr}{s:ByteArray}{i:Int}(h:Zzj G s=some (i,a))(h1:G.terms.length<=24):a.nons=G.nons/\a.rules=G.rules/\a.start=G.start/\-17<=i/\i<=24:=by
 unfold Zzj at h;by_cases h0:0<=G.term s
 ·rw[if_pos h0] at h;simp only[BX,DN] at h;obtain⟨rfl,rfl⟩:=h;have b:=(U9 (λt=>decide (t.name=s)) G.terms).2;have c:G.term s=Y8 (λt=>decide (t.name=s)) G.terms:=rfl;exact⟨rfl,rfl,rfl,AA,AA⟩
 rw[if_neg h0] at h;split at h
 ·cases h
 simp only[BX,DN] at h;obtain⟨rfl,rfl⟩:=h;exact⟨rfl,rfl,rfl,AA,AA⟩
def GrFrom(w w':World)(h:GH)(G:Gr):Prop:=∀a:World,w'.heap.size<=a.heap.size->(∀b,b<w'.heap.size->w.heap.size<=b->a.heap[b]? = w'.heap[b]?)->Yf a h G
def RMulRel(w:World)(xs ys:List Nat)(i:Value)(wr:World):Prop :=
 ∃(k:Nat) (a:List Nat),k<=xs.length/\i = .int .i64 (k:Int)/\a.length=64/\Lim a/\val a=val (xs.take k)*val ys /\
  Own wr w.heap.size 41 .u32 a/\Below w.heap.size w wr
def MulRel(w:World)(xs ys:List Nat)(i:Value)(wr:World):Prop :=
 ∃(k:Nat) (a:List Nat),k<=xs.length/\i = .int .i64 (k:Int)/\a.length=xs.length+ys.length/\Lim a/\val a=val (xs.take k)*val ys /\
  (∀j,k+ys.length<=j->a.getD j 0=0)/\Own wr w.heap.size 41 .u32 a/\Below w.heap.size w wr
theorem lowN_take(h:l[q]? = some s):Uy N (l.take (q+1))=Uy N (l.take q)+(if Xg N s then 0 else 1):=by
 rw[Du,h];unfold Uy;rw[List.countP_append];cases a:Xg N s <;> simp[List.countP_cons,List.countP_nil,a]
theorem Qc{α:Type}{l m:List α}{x:α}(h:l.take k=m.take k)(a:l[k]? = some x)(b:m[k]? = some x):l.take (k+1)=m.take (k+1):=by
 rw[Du,Du,h,a,b]
theorem subP_val(xs l:List Nat)(a:Lim xs)(b:Lim l)(i:Nat):
 val (Xn xs l i).1+val (l.take i)=val (xs.take i)+4294967296 ^ i*(Xn xs l i).2:=by
 induction i with
 | zero=>simp[Xn,val]
 | succ i h =>
   have g:=Qi xs l i;have h1:=a.getD i;have f:=b.getD i;rw[Y5,Y5];simp only[Xn];rw[Wf,Mj,Nat.pow_succ];generalize (Xn xs l i).1=j at *;generalize (Xn xs l i).2=c at *;generalize xs.getD i 0=x at *;generalize l.getD i 0=y at *;generalize (4294967296:Nat) ^ i=B at *;have e:(4294967296+x-y-c) % 4294967296+y+c=x+4294967296*(1-(4294967296+x-y-c) / 4294967296):=AA
   generalize (4294967296+x-y-c) % 4294967296=d at *;generalize 1-(4294967296+x-y-c) / 4294967296=k at *;have:B*d+B*y+B*c=B*x+B*4294967296*k:=by
    rw[<-DL,<-DL,e,DL,DU]
   omega
theorem Zt3(xs d:List Nat)(b:Lim xs)(c:Lim d)(i:Nat)(h1:xs.length<=i)(a:d.length<=i):
 val (Xn xs d i).1+val d=val xs+4294967296 ^ i*(Xn xs d i).2:=by
 have:=subP_val xs d b c i;rwa [AR h1,AR a] at this
theorem Zzx(xs q:List Nat)(m:Lim xs)(n:Lim q)(k:Nat):
 Vm (val (xs.take (k+1))) (val (q.take (k+1))) =
  if xs.getD k 0<q.getD k 0 then -1 else if q.getD k 0<xs.getD k 0 then 1 else Vm (val (xs.take k)) (val (q.take k)):=by
 have h1:=Ui _ (m.take k);have c:=Ui _ (n.take k);have d:(4294967296:Nat) ^ (xs.take k).length<=4294967296 ^ k:=CV AC (List.length_take_le _ _);have f:(4294967296:Nat) ^ (q.take k).length<=4294967296 ^ k:=CV AC (List.length_take_le _ _);rw[Y5,Y5];have o:=AK h1 d;have p:=AK c f;clear h1 c d f;generalize val (xs.take k)=a at *;generalize val (q.take k)=b at *;generalize (4294967296:Nat) ^ k=B at *;generalize xs.getD k 0=x at *;generalize q.getD k 0=y at *;by_cases l:x<y
 ·rw[if_pos l];have:B*(x+1)<=B*y:=Ei _ AA;rw[DL] at this;unfold Vm;rw[if_pos AA]
 rw[if_neg l];by_cases j:y<x
 ·rw[if_pos j];have:B*(y+1)<=B*x:=Ei _ AA;rw[DL] at this;unfold Vm;rw[if_neg AA,if_pos AA]
 rw[if_neg j];obtain rfl:x=y:=AA
 unfold Vm;by_cases g:a<b
 ·rw[if_pos g,if_pos AA]
 rw[if_neg g,if_neg AA];by_cases h:b<a
 ·rw[if_pos h,if_pos AA]
 rw[if_neg h,if_neg AA]
theorem twP_val(xs:List Nat)(b k:Nat):val (twP xs b k).1+4294967296 ^ k*(twP xs b k).2=2*val (xs.take k)+b:=by
 induction k with
 | zero=>simp[twP,val]
 | succ k d =>
   rw[Y5];simp only[twP];rw[Wf,Zye,Nat.pow_succ];generalize (twP xs b k).1=f at *;generalize (twP xs b k).2=c at *;generalize xs.getD k 0=x at *;generalize (4294967296:Nat) ^ k=B at *;have e:4294967296*((2*x+c) / 4294967296)+(2*x+c) % 4294967296=2*x+c:=Nat.div_add_mod _ _;have:B*((2*x+c) % 4294967296)+B*4294967296*((2*x+c) / 4294967296)=B*(2*x)+B*c:=by
    rw[DU,<-DL,Eo,e,DL]
   have a:B*(2*x)=2*(B*x):=by rw[<-DU,Ef B 2,DU]
   rw[DL];omega
theorem twP_all(xs:List Nat)(b:Nat):val ((twP xs b xs.length).1++[(twP xs b xs.length).2])=2*val xs+b:=by
 rw[Wf,Zye,twP_val,List.take_length]
theorem dbl_done(a:List Nat)(b:Lim a)(bt:Nat)(f:bt<=1)(j:a.length<=32)(q:Nat)(k:q=33):val (twP a bt q).1=2*val a+bt:=by
 subst k;have h:=twP_val a bt 33;rw[AR AA] at h;have h1:=Ui a b;have l:(4294967296:Nat) ^ a.length<=4294967296 ^ 32:=CV AC j;have d:(4294967296:Nat) ^ 33=4294967296 ^ 32*4294967296:=by rw[Nat.pow_succ]
 have m:=Ae a bt f b 33;rw[d] at h;generalize (4294967296:Nat) ^ 32=B at *;generalize (twP a bt 33).2=c at *;have g:c=0\/c=1:=AA
 rcases g with rfl | rfl <;> omega
theorem Zr2(k:Nat)(a:List Nat)(i:Nat)(hi:i<=a.length)(c:32*i<=k):Zrx k a i=a.take i:=by
 induction i with
 | zero=>rfl
 | succ i b =>
   rw[Zrx,b AA AA,if_neg AA,Du,AM AA];simp[AM (show i<a.length by omega)]
theorem maskP_val(k:Nat)(b:List Nat)(f:Lim b)(h0:0<b.length)(h1:32*(b.length-1)<k)(p:k<=32*b.length):
 val (Zrx k b b.length)=val b % 2 ^ k:=by
 obtain⟨l,d⟩:∃l,b.length=l+1:=⟨b.length-1,AA⟩;have g:=Zr2 k b l AA AA;have h:val b=val (b.take (l+1)):=by rw[<-d,List.take_length]
 have c:=Ui _ (f.take l);rw[BS,Nat.min_eq_left AA] at c;have o:=f.getD l;have n:(4294967296:Nat) ^ l=2 ^ (32*l):=by rw[Nat.pow_mul]
 have m:(2:Nat) ^ k=4294967296 ^ l*2 ^ (k-32*l):=by rw[n,<-Nat.pow_add];congr 1;omega
 rw[h,Y5,d,Zrx,g,Wf,BS,Nat.min_eq_left AA,m];generalize b.getD l 0=y at *;generalize val (b.take l)=a at *;have j:(if k<32*l+32 then y % 2 ^ (k-32*l) else y)=y % 2 ^ (k-32*l):=by
  split
  ·rfl
  rw[show k-32*l=32 from by omega];exact (Ee o).symm
 rw[j];generalize (4294967296:Nat) ^ l=B at *;generalize (2:Nat) ^ (k-32*l)=M at *;rw[Nat.mod_mul,Nat.add_mul_mod_self_left,Ee c,Nat.add_mul_div_left _ _ AA,Nat.div_eq_of_lt c,BF]
def Zrr(v k n:Nat):Nat->Nat->List Nat->List Nat × Nat × Nat
 | 0,_,_=>([],0,12)
 | f+1,at_,ws =>
   if n<=ws.length then
    if val (ws.take n) % 2 ^ k<v then (limbs (val (ws.take n) % 2 ^ k),at_+n,0) else Zrr v k n f (at_+n) (ws.drop n)
   else ([],0,12)
theorem mask_last(k:Nat)(a:List Nat)(l y:Nat)(d:a.length=l+1)(g:32*l<k)(j:k<32*(l+1))(f:a[l]? = some y):
 Zrx k a a.length=a.set l (y % 2 ^ (k-32*l)):=by
 rw[d,Zrx,Zr2 k a l AA AA,if_pos AA];have c:a.getD l 0=y:=by rw[AP,f];rfl
 rw[c];apply List.ext_getElem?;intro i;have b:(a.take l).length=l:=by rw[BS];omega
 rcases Nat.lt_trichotomy i l with h | h | h
 ·rw[DB AA,El,if_pos h,List.getElem?_set,if_neg AA]
 ·subst h;rw[BV AA,b,List.getElem?_set,if_pos rfl,if_pos AA];simp
 rw[BV AA,b,List.getElem?_set,if_neg AA];rw[BE AG,BE AA]
section
open Go.RowKit Go.Shelf
attribute [local go_sem] Oper.semAt_some
open Go.RowKit Go.Shelf Go.Sort
theorem rf_has(h:GH)(G:Gr)(s:Int)(w:World)(a:Yf w h G)(k:U3 s)(g:h.n1<=1000)(j:h.n2<=1000):
 Calls prog 60 #[GV h G.start,.int .i64 s] w λe w'=>e = .returned (.bool (G.has s))/\Below w w w':=by
 obtain⟨a1,n1,c1,a2,n2,c2,a3,n3,c3⟩:=h;have b:G.terms.length=n1:=a.terms.len;have c:G.nons.length=n2:=a.nons.len;have f:G.has s=if 0<=s then decide (s<(n1:Int)) else decide (-1-s<(n2:Int)):=by unfold Gr.has;rw[b,c]
 rw[f];obtain⟨l,m⟩:=k;simp only[] at g j;clear f b c a;by_cases d:0<=s
 ·rw[if_pos d];go_enter func60,ntmps60;go_wp2_with fail;go_ret;exact⟨AE,Zy _ _⟩
 rw[if_neg d];go_enter func60,ntmps60;go_wp2_with fail;go_ret;exact⟨AE,Zy _ _⟩
theorem C6(h:GH)(G:Gr)(s:ByteArray)(w:World)(l:Yf w h G)(o:h.n1<=1000):
 Calls prog 114 #[GV h G.start,.string s] w λe w'=>e = .returned (.int .i64 (G.term s))/\Below w w w':=by
 obtain⟨a1,n1,c1,a2,n2,c2,a3,n3,c3⟩:=h;have f:N8 w a1 n1 c1 G.terms:=l.terms;have u:=f.cap;simp only[] at o;clear l;unfold Gr.term;go_enter func114,ntmps114;go_wp2_with fail;go_loop [5] (λi=>∃k:Nat,k<=n1/\i = .int .i64 (k:Int)/\Hid (∀j,j<k->∀y,G.terms[j]? = some y->decide (y.name=s)=false)) (λi=>n1-(intOf i).toNat)
 case atStart=>exact⟨0,AS _,rfl,LH λj v=>AA⟩
 obtain⟨k,x,rfl,d⟩:=hrel;by_cases p:k<n1
 ·obtain⟨b,A,t,rfl,r,g,B,C,D⟩:=f.get p;by_cases a:t.name=s
  ·have c:Hid (Y8 (λt=>decide (t.name=s)) G.terms=(k:Int)):=Q4 g (by simp[a]) d;have q:(t.name.toList==s.toList)=true:=by rw[Ql];simp[a]
   clear a;go_wp2_with fail;go_ret;exact⟨by rw[c];rfl,Zy _ _⟩
  have q:(t.name.toList==s.toList)=false:=by rw[Ql];simp[a]
  have n:=LH a;clear a;go_wp2_with fail;go_round
  case rel=>exact⟨k+1,AA,AF,LH (Vz d g (by simp[n.out]))⟩
  simp[intOf];omega
 obtain rfl:k=n1:=AA
 have z:=f.len;have c:Hid (Y8 (λt=>decide (t.name=s)) G.terms=-1):=LH (Jq λj y m=>d j (by have:=(AO.1 m).1;omega) y m);go_wp2_with fail;go_ret;exact⟨by rw[c];rfl,Zy _ _⟩
theorem Zu5(h:GH)(G:Gr)(s:ByteArray)(w:World)(l:Yf w h G)(o:h.n2<=1000):
 Calls prog 74 #[GV h G.start,.string s] w λe w'=>e = .returned (.int .i64 (G.non s))/\Below w w w':=by
 obtain⟨a1,n1,c1,a2,n2,c2,a3,n3,c3⟩:=h;have f:Js w a2 n2 c2 G.nons:=l.nons;have u:=f.cap;simp only[] at o;clear l;unfold Gr.non;go_enter func74,ntmps74;go_wp2_with fail;go_loop [5] (λi=>∃k:Nat,k<=n2/\i = .int .i64 (k:Int)/\Hid (∀j,j<k->∀y,G.nons[j]? = some y->decide (y=s)=false)) (λi=>n2-(intOf i).toNat)
 case atStart=>exact⟨0,AS _,rfl,LH λj v=>AA⟩
 obtain⟨k,x,rfl,d⟩:=hrel;by_cases p:k<n2
 ·obtain⟨b,A,t,rfl,r,g,B⟩:=f.get p;by_cases a:t=s
  ·have c:Hid (Y8 (λt=>decide (t=s)) G.nons=(k:Int)):=Q4 g (by simp[a]) d;have q:(t.toList==s.toList)=true:=by rw[Ql];simp[a]
   clear a;go_wp2_with fail;go_ret;exact⟨by rw[c];rfl,Zy _ _⟩
  have q:(t.toList==s.toList)=false:=by rw[Ql];simp[a]
  have n:=LH a;clear a;go_wp2_with fail;go_round
  case rel=>exact⟨k+1,AA,AF,LH (Vz d g (by simp[n.out]))⟩
  simp[intOf];omega
 obtain rfl:k=n2:=AA
 have z:=f.len;have c:Hid (Y8 (λt=>decide (t=s)) G.nons=-1):=LH (Jq λj y m=>d j (by have:=(AO.1 m).1;omega) y m);go_wp2_with fail;go_ret;exact⟨by rw[c];rfl,Zy _ _⟩
theorem Cu(h:GH)(G:Gr)(w:World)(c:Yf w h G):
 Calls prog 8 #[GV h G.start] w λe w'=>e = .returned (.bool G.great)/\Below w w w':=by
 obtain⟨a1,n1,c1,a2,n2,c2,a3,n3,c3⟩:=h;have E:Dv w a3 n3 c3 G.rules:=c.rules;have p:G.terms.length=n1:=c.terms.len;have q:G.nons.length=n2:=c.nons.len;have z:G.rules.length=n3:=c.rules.len;have L:n1<=c1/\c1<=9223372036854775807:=c.terms.cap;have M:n2<=c2/\c2<=9223372036854775807:=c.nons.cap;have N:n3<=c3/\c3<=9223372036854775807:=c.rules.cap;have d:Hid (G.great=(decide (40<n1) || decide (40<n2) || decide (60<n3) || G.rules.any λr=>decide (20<r.right.length))):=LH (by unfold Gr.great;rw[p,q,z]);clear c p q;by_cases g:n1<=40
 case neg =>
  have a:G.great=true:=by rw[d];simp;omega
  have t:decide ((40:Int)<(n1:Int))=true:=AG
  rw[a];clear g a;go_enter func8,ntmps8;go_wp2_with fail;go_ret;exact⟨rfl,Zy _ _⟩
 have t:decide ((40:Int)<(n1:Int))=false:=AG
 by_cases s:n2<=40
 case neg =>
  have a:G.great=true:=by rw[d];simp;omega
  have u:decide ((40:Int)<(n2:Int))=true:=AG
  rw[a];clear g s a;go_enter func8,ntmps8;go_wp2_with fail;go_ret;exact⟨rfl,Zy _ _⟩
 have u:decide ((40:Int)<(n2:Int))=false:=AG
 by_cases A:n3<=60
 case neg =>
  have a:G.great=true:=by rw[d];simp;omega
  have v:decide ((60:Int)<(n3:Int))=true:=AG
  rw[a];clear g s A a;go_enter func8,ntmps8;go_wp2_with fail;go_ret;exact⟨rfl,Zy _ _⟩
 have v:decide ((60:Int)<(n3:Int))=false:=AG
 have m:Hid (G.great=G.rules.any λr=>decide (20<r.right.length)):=LH (by rw[d];simp;omega);clear d;go_enter func8,ntmps8;go_wp2_with fail;go_loop [3] (λi=>∃k:Nat,k<=n3/\i = .int .i64 (k:Int)/\Hid (∀j,j<k->∀y,G.rules[j]? = some y->decide (20<y.right.length)=false)) (λi=>n3-(intOf i).toNat)
 case atStart=>exact⟨0,AS _,rfl,LH λj l=>AA⟩
 obtain⟨k,J,rfl,n⟩:=hrel;by_cases B:k<n3
 ·obtain⟨b,O,r,Ar,cr,rfl,H,o,P,R,S,hi⟩:=E.get B;have I:=hi.cap;by_cases D:20<r.right.length
  ·have f:Hid (G.great=true):=LH (by rw[m,Ep];exact⟨r,AN o,by simp[D]⟩);have C:decide ((20:Int)<(r.right.length:Int))=true:=AG
   go_wp2_with fail;go_ret;exact⟨by rw[f];rfl,Zy _ _⟩
  have C:decide ((20:Int)<(r.right.length:Int))=false:=AG
  go_wp2_with fail;go_round
  case rel=>exact⟨k+1,AA,AF,LH (Vz n o AG)⟩
  simp[intOf];omega
 obtain rfl:k=n3:=AA
 have f:Hid (G.great=false):=LH (by
  rw[m,List.any_eq_false];intro x F;obtain⟨j,l⟩:=BU F;have:=n j (by have:=(AO.1 l).1;omega) x l;simpa using this)
 go_wp2_with fail;go_ret;exact⟨by rw[f];rfl,Zy _ _⟩
theorem rf_level(h:GH)(G:Gr)(n:Int)(w:World)(A:Yf w h G)(H:h.n1<=1000):
 Calls prog 115 #[GV h G.start,.int .i64 n] w λe w'=>e = .returned (.bool (J9 G.terms n))/\Below w.heap.size w w':=by
 obtain⟨a1,n1,c1,a2,n2,c2,a3,n3,c3⟩:=h;have s:N8 w a1 n1 c1 G.terms:=A.terms;have S:=s.cap;have U:G.terms.length=n1:=s.len;simp only[] at H;clear A;go_enter func115,ntmps115;go_wp2_with fail;go_loopw [5,6,7] (λP i t wr=>∃(k:Nat) (a:Int),k<=n1/\i = .int .i64 (k:Int)/\P = .int .i64 a/\Below w.heap.size w wr/\wr.cell? ⟨w.heap.size,0,none⟩=some (.slice a1 n1 c1)/\w.heap.size<wr.heap.size/\Hid (J9 G.terms n=Qs n (G.terms.drop k) a)) (λ_ i _ _=>n1-(intOf i).toNat)
 case atStart=>exact⟨0,0,AS _,rfl,rfl,Zy _ _,AE,AE,LH rfl⟩
 obtain⟨k,a,T,rfl,rfl,r,R,B,f⟩:=hrel;by_cases J:k<n1
 ·obtain⟨b,L,t,rfl,I,E,M,N,O⟩:=s.get J;rw[<-r.cell (by exact I)] at M N O;have hd:G.terms.drop k=t::G.terms.drop (k+1):=Q8 E.out;have z:∀o,Below w.heap.size w (wr.alloc o):=λo=>r.alloc (DT B) o;have C:∀o,(wr.alloc o).cell? ⟨w.heap.size,0,none⟩=some (.slice (some ⟨b,L,none⟩) n1 c1):=λo=>by rw[(Zy wr o).cell (p:=⟨w.heap.size,0,none⟩) B];exact R
  have l:=LH (⟨z,C⟩:_/\_);clear z C;by_cases g:t.level=n
  ·by_cases j:a≠0/\a≠t.assoc
   ·have m:Hid (J9 G.terms n=false):=LH (by rw[f.out,hd,Qs,if_pos g,if_pos j]);have v:(t.level != n)=false:=by rw[BM];exact g
    have x:(a != 0)=true:=by rw[BK];exact j.1
    have F:(a != t.assoc)=true:=by rw[BK];exact j.2
    clear g j hd f;go_wp2_with fail;go_ret;exact⟨by rw[m.out];rfl,l.out.1 _⟩
   have q:Hid (J9 G.terms n=Qs n (G.terms.drop (k+1)) t.assoc):=LH (by rw[f.out,hd,Qs,if_pos g,if_neg j]);have v:(t.level != n)=false:=by rw[BM];exact g
   have u:(a != 0)=false\/((a != 0)=true/\(a != t.assoc)=false):=by
    rw[BM,BM,BK];by_cases c:a=0
    ·exact .inl c
    exact .inr ⟨c,by by_cases y:a=t.assoc;exact y;exact absurd ⟨c,y⟩ j⟩
   clear g j hd f;rcases u with x | ⟨x,F⟩;all_goals
    go_wp2_with fail;go_roundw
    case rel=>exact⟨k+1,t.assoc,AA,AF,rfl,l.out.1 _,l.out.2 _,AG,q⟩
    simp[intOf];omega
  have q:Hid (J9 G.terms n=Qs n (G.terms.drop (k+1)) a):=LH (by rw[f.out,hd,Qs,if_neg g]);have v:(t.level != n)=true:=by rw[BK];exact g
  clear g hd f;go_wp2_with fail;go_roundw
  case rel=>exact⟨k+1,a,AA,AF,rfl,l.out.1 _,l.out.2 _,AG,q⟩
  simp[intOf];omega
 obtain rfl:k=n1:=AA
 have m:Hid (J9 G.terms n=decide (a≠0)):=LH (by rw[f.out,List.drop_of_length_le AA];rfl);have u:((a != 0)=true/\a≠0)\/((a != 0)=false/\a=0):=by
  rw[BM,BK];by_cases c:a=0
  ·exact .inr ⟨c,c⟩
  exact .inl ⟨c,c⟩
 rcases u with ⟨d,c⟩ | ⟨d,c⟩;all_goals
  have D:=LH c;clear c;go_wp2_with fail;go_ret;exact⟨by rw[m.out];simp[D.out],r⟩
def Y1(w:World)(g:Nat)(h:GH)(a:Int):Prop :=
 g<w.heap.size/\w.cell? ⟨g,0,none⟩=some (.slice h.a1 h.n1 h.c1)/\w.cell? ⟨g,1,none⟩=some (.slice h.a2 h.n2 h.c2)/\w.cell? ⟨g,2,none⟩=some (.slice h.a3 h.n3 h.c3)/\w.cell? ⟨g,3,none⟩=some (.int .i64 a)
theorem Y1.new(w:World)(t:TypeId)(h:GH)(a:Int):Y1 (w.alloc (.cells #[.slice h.a1 h.n1 h.c1,.slice h.a2 h.n2 h.c2,.slice h.a3 h.n3 h.c3,.int .i64 a] t)) w h a:=by
 refine⟨AE,?_,?_,?_,?_⟩ <;> (rw[Wg];rfl)
end
theorem Fl.new(w:World)(t:TypeId)(left:Int)(Ar:Option Addr)(a cr:Nat)(b:Int):Fl (w.alloc (.cells #[.int .i64 left,.slice Ar a cr,.int .i64 b] t)) w left Ar a cr b:=by
 refine⟨AE,?_,?_,?_⟩ <;> (rw[Wg];rfl)
def Al(W:World)(g:Nat)(h:GH)(G:Gr):Prop:=Y1 W g h 0/\Yf W h G
section
open Go.RowKit Go.Maps
theorem clone_strs(A:Option Addr)(n c:Nat)(d:List ByteArray)(w:World)(h:Js w A n c d)(B:n<=1000):
 Calls prog 80 #[.slice A n c] w λe w'=>∃f g,e = .returned (.slice f n g)/\w'.ownsRow w 9 1 (.slice f n g) n (d.map Value.string)/\Below w w w':=by
 obtain rfl:=h.len;cases A with
 | none =>
   have o:d=[]:=by
    cases d with
    | nil=>rfl
    | cons z d =>
      obtain⟨b,p,e,_⟩:=h.2.2.2 AE;cases e
   subst o;refine (Tryz.slices_Clone_string_nil 0 c w).mono ?_;rintro e w'⟨rfl,rfl⟩;exact⟨none,0,rfl,BN w' _ _ _,AL _ _⟩
 | some a =>
   by_cases r:d.length=0
   ·have o:=BJ r;subst o;refine (Tryz.slices_Clone_string_zero a c w).mono ?_;rintro e w'⟨x,rfl,k,_,l⟩;obtain⟨f,g,rfl⟩:=M3 k;exact⟨f,g,rfl,k,l⟩
   obtain⟨b,p,s,e,l,_,_⟩:=h.get (j:=0) AA;injection e with e;subst e;have t:∀j,j<d.length->w.cell? ⟨b,p+j,none⟩=some (.string (d.getD j ByteArray.empty)):=λj v=>by
    obtain⟨y,C,D,m,_,q,u⟩:=h.get v;injection m with m;injection m with e3 e4;subst e3 e4;rw[u,AP,q];rfl
   refine (Tryz.slices_Clone_string b p d.length c d w (AJ _) AA t).mono ?_;rintro e w'⟨x,rfl,k,_,l⟩;obtain⟨f,g,rfl⟩:=M3 k;rw[AR (AJ _)] at k;exact⟨f,g,rfl,k,l⟩
theorem Blk.cell(h:Blk w g t cs)(i:Nat):w.cell? ⟨g,i,none⟩=cs[i]? := by
 unfold Blk at h;simp[World.cell?,h]
theorem Blk.new(w:World)(t:TypeId)(cs:Array Value):Blk (w.alloc (.cells cs t)) w t cs:=heap_alloc_new w _
theorem Z8.at(h:Z8 w g N)(hi:i<N.length):w.cell? ⟨g,i,none⟩=some (.bool (N.getD i false)):=by
 rw[Blk.cell h];simp[Qk,hi]
theorem Z8.new(w:World)(N:List Bool):Z8 (w.alloc (.cells (Qk N).toArray 4)) w N:=Blk.new w _ _
end
theorem Yu{P:Program}{a:Func}{p u v:Tmp}{ty:TypeId}(h:a.results=#[.cell p ty,.tmp u,.tmp v])(tmps:Array Value)(w:World)(g:Nat)(t:TypeId)(cs:Array Value)(b:Nat × Nat)(d:TypeDesc)(f:tmps.getD p undef = .pointer (some ⟨g,0,none⟩))(c:w.heap[g]? = some (.cells cs t b))(k:P.underlying ty=some d)(hd:(match d with | .struct _ | .array _ _=>true | _=>false)=true)(hi:(P.info? ty).map (·.size)=some cs.size):
 (results a tmps).run P w = .ok (.tuple #[.agg cs,tmps.getD u undef,tmps.getD v undef]) w:=by
 have j:tmps[p]?.getD undef = .pointer (some ⟨g,0,none⟩):=by simpa using f
 simp[results,h,j,asAddr,run_loadVar_row w g t ty cs b d c k hd hi]
theorem own_cell{k:IntKind}(h:Own w g t k a)(hi:a[i]? = some x):w.cell? ⟨g,i,none⟩=some (.int k (x:Int)):=by
 obtain⟨y,b,c⟩:=h.cell (i:=i) (by rcases BD i a.length with h | h;exact h;rw[BE h] at hi;cases hi);have:=b.out;rw[hi] at this;injection this with this;rw[this];exact c
section
open Go.Maps (Keyed IsMap Tidy)
def Z1(w:World)(A:Option Addr)(n c:Nat)(b:Bool)(x:Nat):Prop:=b=(Vk x).2/\Zq .u32 w A n c (Vk x).1
def Vp(w:World)(g:Nat)(t:TypeId)(xs:List Nat):Prop:=∃cs:Array Value,Blk w g t cs/\cs.size=xs.length*2/\∀(j:Nat) x,xs[j]? = some x->∃A n c b,cs[j*2]? = some (.slice A n c)/\cs[j*2+1]? = some (.bool b)/\Z1 w A n c b x
theorem Vp.noInt(h:Vp w g t xs):Qf w g:=by
 obtain⟨cs,f,l,j⟩:=h;intro o k z a;rw[f.cell o] at a;have m:o<xs.length*2:=by rw[<-l];exact (Array.getElem?_eq_some_iff.1 a).1
 obtain⟨A,n,c,b,h1,d,_⟩:=j (o / 2) _ (AM (show o / 2<xs.length by omega));rcases (AA:o=o / 2*2\/o=o / 2*2+1) with e | e
 ·rw[e,h1] at a;cases a
 rw[e,d] at a;cases a
theorem Zs3(x:Nat)(ys a:List Nat)(k:Nat):
 val (Vn x ys a k).1+4294967296 ^ k*(Vn x ys a k).2=x*val (ys.take k)+val (a.take k):=by
 induction k with
 | zero=>simp[Vn,val]
 | succ k d =>
   rw[Y5,Y5];simp only[Vn];rw[Wf,M1,Nat.pow_succ];generalize (Vn x ys a k).1=f at *;generalize (Vn x ys a k).2=c at *;generalize ys.getD k 0=y at *;generalize a.getD k 0=z at *;generalize (4294967296:Nat) ^ k=B at *;have e:4294967296*((x*y+z+c) / 4294967296)+(x*y+z+c) % 4294967296=x*y+z+c:=Nat.div_add_mod _ _;have:B*((x*y+z+c) % 4294967296)+B*4294967296*((x*y+z+c) / 4294967296)=B*(x*y)+B*z+B*c:=by
    rw[DU,<-DL,Eo,e,DL,DL]
   rw[DL];have b:x*(B*y)=B*(x*y):=by rw[<-DU,Ef x B,DU]
   omega
def Us(x:Nat)(ys a:List Nat)(i k:Nat):List Nat:=a.take i++(Vn x ys (a.drop i) k).1++a.drop (i+k)
theorem Zz7(x:Nat)(ys a:List Nat)(i:Nat):Us x ys a i 0=a:=by simp[Us,Vn]
theorem Zwa(x:Nat)(ys a:List Nat)(i k:Nat)(h:i+k<a.length):(Us x ys a i k)[i+k]? = a[i+k]? := by
 unfold Us;have b:(a.take i++(Vn x ys (a.drop i) k).1).length=i+k:=by
  rw[AV,BS,M1];omega
 rw[BV AA,b,Nat.sub_self,DY,DO]
theorem D0(x:Nat)(ys a:List Nat)(i k s:Nat)(h:i+k<a.length):
 (Us x ys a i k).set (i+k) s=a.take i++((Vn x ys (a.drop i) k).1++[s])++a.drop (i+k+1):=by
 unfold Us;have b:(a.take i++(Vn x ys (a.drop i) k).1).length=i+k:=by
  rw[AV,BS,M1];omega
 rw[List.set_append_right _ _ AA,b,Nat.sub_self,Ec h,List.set_cons_zero];simp
theorem Zze(x:Nat)(ys a:List Nat)(i k:Nat)(h:i+k<a.length):
 (Us x ys a i k).set (i+k) ((x*ys.getD k 0+a.getD (i+k) 0+(Vn x ys (a.drop i) k).2) % 4294967296)=Us x ys a i (k+1):=by
 rw[D0 _ _ _ _ _ _ h];have:(a.drop i).getD k 0=a.getD (i+k) 0:=by simp[DY]
 simp only[Us,Vn,this,DZ]
theorem Nq(x:Nat)(ys a:List Nat)(i k:Nat)(h:i+k<=a.length):(Us x ys a i k).length=a.length:=by
 unfold Us;rw[AV,AV,BS,BT,M1];omega
theorem Mn(a:List Nat)(i:Nat)(h:i<=a.length):val a=val (a.take i)+4294967296 ^ i*val (a.drop i):=by
 have:val (a.take i++a.drop i)=val (a.take i)+4294967296 ^ (a.take i).length*val (a.drop i):=Ny _ _;rw[List.take_append_drop,BS,Nat.min_eq_left h] at this;exact this
theorem mul_row(x:Nat)(ys a:List Nat)(i:Nat)(f:i+ys.length<a.length)(b:∀j,i+ys.length<=j->a.getD j 0=0):
 let c:=(Us x ys a i ys.length).set (i+ys.length) (Vn x ys (a.drop i) ys.length).2
 val c=val a+4294967296 ^ i*(x*val ys)/\c.length=a.length/\∀j,i+1+ys.length<=j->c.getD j 0=0:=by
 have g:=Zs3 x ys (a.drop i) ys.length;have m:=Mn a i AA;have n:=Mn (a.drop i) ys.length (by rw[BT];omega);have h:val ((a.drop i).drop ys.length)=0:=by
  rw[List.drop_drop];exact Ns a _ (λj d=>b j AA)
 have k:val (a.drop (i+ys.length+1))=0:=Ns a _ (λj d=>b j AA);rw[List.take_length] at g;refine⟨?_,?_,?_⟩
 ·rw[D0 _ _ _ _ _ _ f,Ny,Ny,Wf,k,BS,Nat.min_eq_left AA,M1,Nat.mul_zero,DO];rw[m,n,h,Nat.mul_zero,DO,g,DL];omega
 ·rw[List.length_set,Nq _ _ _ _ _ AA]
 intro j d;rw[D0 _ _ _ _ _ _ f];have l:(a.take i++((Vn x ys (a.drop i) ys.length).1++[(Vn x ys (a.drop i) ys.length).2])).length=i+ys.length+1:=by
  rw[AV,AV,BS,M1];simp;omega
 rw[AP,BV AA,l,DY];have:=b j AA;rw[AP] at this;rw[show i+ys.length+1+(j-(i+ys.length+1))=j from by omega];exact this
theorem mul_row_full(x:Nat)(ys a:List Nat)(i:Nat)(hi:i<=a.length)(f:val a+4294967296 ^ i*(x*val ys)<4294967296 ^ a.length)(d:ys.length<=a.length-i):
 val (Us x ys a i (a.length-i))=val a+4294967296 ^ i*(x*val ys)/\(Us x ys a i (a.length-i)).length=a.length:=by
 have b:=Zs3 x ys (a.drop i) (a.length-i);have g:=Mn a i hi;rw[AR d,AR (by rw[BT];exact AJ _)] at b;refine⟨?_,Nq _ _ _ _ _ AA⟩;unfold Us;rw[show i+(a.length-i)=a.length from by omega,List.drop_length,DK,Ny,BS,Nat.min_eq_left hi];have e:4294967296 ^ i*val (Vn x ys (a.drop i) (a.length-i)).1+4294967296 ^ a.length*(Vn x ys (a.drop i) (a.length-i)).2=4294967296 ^ i*(x*val ys)+4294967296 ^ i*val (a.drop i):=by
  rw[<-DL,<-b,DL];congr 1;rw[<-DU,<-Nat.pow_add,show i+(a.length-i)=a.length from by omega]
 have c:(Vn x ys (a.drop i) (a.length-i)).2=0:=by
  rcases BY (Vn x ys (a.drop i) (a.length-i)).2 with h0 | h0
  ·exact h0
  have:4294967296 ^ a.length*1<=4294967296 ^ a.length*(Vn x ys (a.drop i) (a.length-i)).2:=Ei _ h0;omega
 rw[c,Nat.mul_zero,DO] at e;omega
end
def RMulRel2(w:World)(x:Nat)(ys a:List Nat)(i:Nat)(c q:Value)(wr:World):Prop :=
 ∃k:Nat,i+k<=64/\q = .int .i64 (k:Int)/\c = .int .u64 ((Vn x ys (a.drop i) k).2:Int)/\Own wr w.heap.size 41 .u32 (Us x ys a i k)/\Below w.heap.size w wr
theorem val_take_le(xs:List Nat)(k:Nat):val (xs.take k)<=val xs:=by
 by_cases h:k<=xs.length
 ·rw[Mn xs k h];omega
 rw[AR AA];exact AJ _
theorem mul_fits(xs ys:List Nat)(c:Lim xs)(d:Lim ys)(h1:xs.length<=32)(b:ys.length<=32)(k:Nat)(h:k<xs.length):
 val (xs.take k)*val ys+4294967296 ^ k*(xs.getD k 0*val ys)<4294967296 ^ 64:=by
 have e:val (xs.take k)*val ys+4294967296 ^ k*(xs.getD k 0*val ys)=val (xs.take (k+1))*val ys:=by
  rw[Y5,Nat.add_mul,DU]
 rw[e];have a1:=val_take_le xs (k+1);have a2:=Ui xs c;have a3:=Ui ys d;have f:(4294967296:Nat) ^ xs.length<=4294967296 ^ 32:=CV AC h1;have g:(4294967296:Nat) ^ ys.length<=4294967296 ^ 32:=CV AC b;have a:(4294967296:Nat) ^ 64=4294967296 ^ 32*4294967296 ^ 32:=by rw[<-Nat.pow_add]
 rw[a];exact Nat.mul_lt_mul'' AA AA
def RetV(w:World)(z:Nat)(e:Ending)(w':World):Prop:=Below w.heap.size w w'/\∃A n c b,e = .returned (.agg #[.slice A n c,.bool b])/\Z1 w' A n c b z
theorem Z1.cases(h:Z1 w A n c b x):(x<big/\b=false/\(Vk x).1=limbs x)\/(¬x<big/\b=true/\(Vk x).1=[]):=by
 obtain⟨rfl,_⟩:=h;by_cases a:x<big
 ·rw[Z7 a];exact .inl ⟨a,rfl,rfl⟩
 rw[Wl a];exact .inr ⟨a,rfl,rfl⟩
def Zyq(w:World)(A:Option Addr)(n c N:Nat)(tab:Nat->Nat->Nat):Prop:=n<=c/\c<=9223372036854775807/\(0<n->∃b a,A=some ⟨b,a,none⟩/\b<w.heap.size/\∀m,m<n->
 ∃g,w.cell? ⟨b,a+m,none⟩=some (.slice (some ⟨g,0,none⟩) N N)/\Vp w g 110 ((List.range N).map (tab m)))
def MulRel2(w:World)(x:Nat)(ys a:List Nat)(i:Nat)(c q:Value)(wr:World):Prop :=
 ∃k:Nat,k<=ys.length/\q = .int .i64 (k:Int)/\c = .int .u64 ((Vn x ys (a.drop i) k).2:Int)/\Own wr w.heap.size 41 .u32 (Us x ys a i k)/\Below w.heap.size w wr
structure Jc (w:World) (B:Nat) (A:Option Addr) (n c N:Nat) (gs:List Nat) (tab:Nat->Nat->Nat):Prop where
 own:w.ownsRow B 115 1 (.slice A n c) n (gs.map λg=>Value.slice (some ⟨g,0,none⟩) N N)
 noInt:∀g,(Value.slice A n c).ownBlock=some g->Qf w g
 nodup:gs.Nodup
 row:∀(m g:Nat),gs[m]? = some g->B<=g/\Vp w g 110 ((List.range N).map (tab m))
theorem limb_of(xs:List Nat)(a:Lim xs)(j:Nat):xs.getD j 0=val xs / 4294967296 ^ j % 4294967296:=by
 by_cases h:j<xs.length
 ·have h1:=Mn xs j AA;have b:val (xs.take j)<4294967296 ^ j:=by
   have:=Ui _ (a.take j);rwa [BS,Nat.min_eq_left AA] at this
  rw[h1,Nat.add_mul_div_left _ _ (Nat.pow_pos AC),Nat.div_eq_of_lt b,BF,Ec h];simp only[val];have:=a _ (List.getElem_mem h);rw[Nat.add_mul_mod_self_left,Ee this];simp[AM h]
 have h1:xs.getD j 0=0:=by simp[BE (show xs.length<=j by omega)]
 have b:=Ui _ a;have c:(4294967296:Nat) ^ xs.length<=4294967296 ^ j:=CV AC AA;rw[h1,Nat.div_eq_of_lt AA]
theorem bit_of(xs:List Nat)(c:Lim xs)(i:Nat):xs.getD (i / 32) 0 / 2 ^ (i % 32) % 2=val xs / 2 ^ i % 2:=by
 rw[limb_of xs c,show (4294967296:Nat) ^ (i / 32)=2 ^ (32*(i / 32)) from by rw[Nat.pow_mul]];have hi:i=32*(i / 32)+i % 32:=AA
 have b:i % 32<32:=Nat.mod_lt _ AC;generalize i / 32=j at *;generalize i % 32=r at *;subst hi;rw[Nat.pow_add,<-Nat.div_div_eq_div_mul];generalize val xs / 2 ^ (32*j)=v;have h1:=Nat.testBit_mod_two_pow v 32 r;rw[Nat.testBit_eq_decide_div_mod_eq,Nat.testBit_eq_decide_div_mod_eq] at h1;simp only[b,decide_true,Bool.true_and,decide_eq_decide] at h1;have a:(2:Nat) ^ 32=4294967296:=AC
 rw[a] at h1;have d:=Nat.mod_lt (v % 4294967296 / 2 ^ r) (show 0<2 by decide);have f:=Nat.mod_lt (v / 2 ^ r) (show 0<2 by decide);omega
theorem set_bit(a:List Nat)(f:Lim a)(i:Nat)(hi:i / 32<a.length)(q:Nat)(l:val a=q*2 ^ (i+1)):
 a.getD (i / 32) 0 ||| 2 ^ (i % 32)=a.getD (i / 32) 0+2 ^ (i % 32)/\a.getD (i / 32) 0+2 ^ (i % 32)<4294967296 /\
 val (a.set (i / 32) (a.getD (i / 32) 0+2 ^ (i % 32)))=val a+2 ^ i:=by
 have t:=f.getD (i / 32);have d:=bit_of a f i;have n:val a / 2 ^ i % 2=0:=by
  rw[l,Nat.pow_succ,<-DU,Ef q,DU,Nat.mul_div_cancel_left _ (Nat.two_pow_pos i)];omega
 rw[n] at d;have v:i % 32<32:=Nat.mod_lt _ AC;have h:2 ^ i=4294967296 ^ (i / 32)*2 ^ (i % 32):=by
  rw[show (4294967296:Nat) ^ (i / 32)=2 ^ (32*(i / 32)) from by rw[Nat.pow_mul],<-Nat.pow_add,show 32*(i / 32)+i % 32=i from by omega]
 refine⟨?_,?_,by rw[val_set a _ _ hi,h]⟩;all_goals
  generalize a.getD (i / 32) 0=x at *;generalize i % 32=r at *;have s:(2:Nat) ^ (r+1)=2*2 ^ r:=by rw[Nat.pow_succ,Ef]
  have j:x % 2 ^ (r+1)<2 ^ r:=by
   rw[Nat.mod_pow_succ,d,Nat.mul_zero,DO];exact Nat.mod_lt _ (Nat.two_pow_pos r)
  have m:2 ^ (r+1)*(x / 2 ^ (r+1))+x % 2 ^ (r+1)=x:=Nat.div_add_mod _ _;have u:=Nat.two_pow_pos r
 ·have c:(2 ^ (r+1)*(x / 2 ^ (r+1))) % 2 ^ (r+1)=0:=Nat.mul_mod_right _ _;have b:=nat_join (r+1) (2 ^ (r+1)*(x / 2 ^ (r+1))) (x % 2 ^ (r+1)) c AA;have o:=nat_join r (2 ^ r) (x % 2 ^ (r+1)) (Nat.mod_self _) j;have p:=nat_join (r+1) (2 ^ (r+1)*(x / 2 ^ (r+1))) (2 ^ r+x % 2 ^ (r+1)) c AA;rw[m] at b;rw[<-b,Nat.or_assoc,Nat.or_comm (x % 2 ^ (r+1)),o,p,b];omega
 have e:(4294967296:Nat)=2 ^ (r+1)*2 ^ (31-r):=by
  rw[<-Nat.pow_add,show r+1+(31-r)=32 from by omega]
 have k:2 ^ (r+1)*(x / 2 ^ (r+1))<2 ^ (r+1)*2 ^ (31-r):=by rw[<-e];omega
 have h1:x / 2 ^ (r+1)<2 ^ (31-r):=Nat.lt_of_mul_lt_mul_left k;have g:2 ^ (r+1)*(x / 2 ^ (r+1)+1)<=2 ^ (r+1)*2 ^ (31-r):=Ei _ h1;rw[<-e,DL,Ej] at g;omega
section
open Go.Maps (Keyed IsMap Tidy)
open Go.Maps (Keyed IsMap Tidy)
def H8(w:World)(b x:Nat):Prop:=∃A n c d,Blk w b 154 #[.slice A n c,.bool d]/\Z1 w A n c d x
theorem Jk(d:Blk w g t #[.slice A n c,.bool b]):Qf w g:=by
 intro o k z a;rw[d.cell o] at a;rcases o with _ | _ | o <;> cases a
end
section
open Ieee
open Go.Maps (Keyed IsMap Tidy)
def Fx(w:World)(b x:Nat):Prop:=∃A n c d,Blk w b 168 #[.slice A n c,.bool d]/\Z1 w A n c d x
theorem val_of(a:x<big)(h:Zq .u32 w A n c (limbs x)):Z1 w A n c false x:=⟨by rw[Z7 a],by rw[Z7 a];exact h⟩
end
section
open Ieee
open Go.Maps (Keyed IsMap Tidy)
open Go.Maps (Keyed IsMap Tidy)
theorem symT_snoc(h:l[q]? = some s):Vr (l.take (q+1))=Vr (l.take q)++[(s+16).toNat]:=by
 rw[Ya h];unfold Vr;rw[DJ];rfl
theorem fit_val(x:Nat):∃(d:List Nat) (g:Nat) (b:Bool),Xm x=(d,g)/\(((g:Nat):Int)==2)=b/\(∀(w:World) (A:Option Addr) (c:Nat),Zq .u32 w A d.length c d->Z1 w A d.length c b x):=by
 rcases F8 x with ⟨a,f⟩ | ⟨a,f⟩
 ·exact⟨limbs x,0,false,f,rfl,λw A c h=>val_of a h⟩
 exact⟨[],2,true,f,rfl,λw A c h=>⟨by rw[Wl a],by rw[Wl a];exact h⟩⟩
end
section
open Go.RowKit Go.Shelf
attribute [local go_sem] Oper.semAt_some
open Go.RowKit Go.Shelf
theorem Zr3(v K N:Nat)(a:List Nat)(d:0<N)(k:Nat)(h:∀j,j<k->N*(j+1)<=a.length/\¬val ((a.drop (N*j)).take N) % 2 ^ K<v)(f:Nat):
 Zrr v K N (f+k) 0 a=Zrr v K N f (N*k) (a.drop (N*k)):=by
 induction k generalizing f with
 | zero=>simp
 | succ k c =>
   have e:f+(k+1)=(f+1)+k:=AA
   obtain⟨h1,b⟩:=h k AA;rw[e,c (λj g=>h j AA),Zrr,BT,if_pos (by rw[DL] at h1;omega),if_neg b,List.drop_drop,DL,Ej]
def Zrp(a:List Nat){L N:Nat}(x:Zrl L N):List Nat:=(a.drop x.1.1).take x.1.2
def Zqq(v K:Nat)(a:List Nat){L N:Nat}(x:Zrl L N):Prop:=x.1.2=N/\¬val (Zrp a x) % 2 ^ K<v
theorem Zr8{N:Nat}(g:0<N)(f:a.length=L)(h:∀x∈Zrw L N k,Zqq v K a x):
 ∀j,j<k->N*(j+1)<=a.length/\¬val ((a.drop (N*j)).take N) % 2 ^ K<v:=by
 intro j l;obtain⟨h1,b⟩:=h _ (pieces_mem l);obtain⟨c,d⟩:=Zqm g h1;unfold Zrp at b;rw[c] at b;exact⟨by rw[f];exact d,b⟩
theorem Zqo{N:Nat}(b:0<N){c:List Nat}(a:c.length=L)(h:∀x∈Zrw L N k,Zqq v K c x):N*k<=L/\k<=L:=by
 rcases BY k with h0 | h0
 ·subst h0;simp
 have:=(Zr8 b a h (k-1) AA).1;rw[show k-1+1=k from by omega,a] at this;exact⟨this,BC (Nat.le_mul_of_pos_left k b) this⟩
theorem drawF_done{N:Nat}(b:0<N)(c:a.length=L)(f:L<=N*k)(h:∀x∈Zrw L N k,Zqq v K a x):
 Zrr v K N (a.length+1) 0 a=([],0,12):=by
 obtain⟨h1,d⟩:=Zqo b c h;have:=Zr3 v K N a b k (Zr8 b c h) (a.length+1-k);rw[show a.length+1-k+k=a.length+1 from by omega] at this;rw[this,show a.length+1-k=(a.length-k)+1 from by omega,Zrr,BT,if_neg AA]
theorem drawF_cut{N:Nat}(b:0<N)(c:a.length=L)(h:∀x∈Zrw L N k,Zqq v K a x)(d:(Zre L N k).1.2<N):
 Zrr v K N (a.length+1) 0 a=([],0,12):=by
 obtain⟨h1,f⟩:=Zqo b c h;have:=Zr3 v K N a b k (Zr8 b c h) (a.length+1-k);rw[show a.length+1-k+k=a.length+1 from by omega] at this;have g:min N (L-N*k)<N:=d;rw[this,show a.length+1-k=(a.length-k)+1 from by omega,Zrr,BT,if_neg AA]
theorem drawF_drawn{N:Nat}(b:0<N)(d:a.length=L)(h:∀x∈Zrw L N k,Zqq v K a x)(j:(Zre L N k).1.2=N)(c:val (Zrp a (Zre L N k)) % 2 ^ K<v):
 Zrr v K N (a.length+1) 0 a=(limbs (val (Zrp a (Zre L N k)) % 2 ^ K),N*k+N,0):=by
 obtain⟨h1,l⟩:=Zqo b d h;have:=Zr3 v K N a b k (Zr8 b d h) (a.length+1-k);rw[show a.length+1-k+k=a.length+1 from by omega] at this;obtain⟨f,g⟩:=Zqm b j;unfold Zrp at c ⊢;rw[f] at c ⊢;rw[DL,Ej] at g;rw[this,show a.length+1-k=(a.length-k)+1 from by omega,Zrr,BT,if_pos AA,if_pos c]
end
section
open Go.RowKit Go.Shelf
attribute [local go_sem] Oper.semAt_some
open Go.RowKit Go.Shelf
open Go.RowKit Go.Shelf
attribute [local go_sem] Oper.semAt_some
structure IB (w w1:World) (ws:List Nat) (v:Value) (V K N:Nat) (pre:List (Zrl ws.length N)) (W:World):Prop where
 vars:Zqy w W v
 b7:Boxed W w1.heap.size 3 (.int .i64 (N:Int))
 b8:Boxed W (w1.heap.size+1) 3 (.int .i64 ((N*pre.length:Nat):Int))
 size:w1.heap.size+1+1+1+1<=W.heap.size
 fail:∀x∈pre,Zqq V K ws x
def IBel(w w1:World)(a:List Nat)(v:Value)(V K N:Nat)(b:List (Zrl a.length N))(W:World):Prop:=IB w w1 a v V K N b W/\Below w.heap.size w W
def XB(w w1:World)(a:List Nat)(V K N:Nat)(c:Code)(f:List (Zrl a.length N))(W:World):Prop :=
 ∃b x,f=b++[x]/\(∀y∈b,Zqq V K a y) /\
  ((c = .ret/\x.1.2=N/\val (Zrp a x) % 2 ^ K<V/\∃A d,Boxed W (w.heap.size+1) 44 (.slice A (limbs (val (Zrp a x) % 2 ^ K)).length d) /\
      Boxed W (w.heap.size+1+1) 3 (.int .i64 ((N*b.length+N:Nat):Int))/\Boxed W (w.heap.size+1+1+1) 31 (.int .i64 0) /\
      Zq .u32 W A (limbs (val (Zrp a x) % 2 ^ K)).length d (limbs (val (Zrp a x) % 2 ^ K))) \/
   (c = .exit 1/\x.1.2<N/\∃v,Zqy w W v))
def XBel(w w1:World)(a:List Nat)(V K N:Nat)(c:Code)(b:List (Zrl a.length N))(W:World):Prop:=XB w w1 a V K N c b W/\Below w.heap.size w W
theorem Zqk(v K N:Nat):∀(f at_:Nat) (a:List Nat),(Zrr v K N f at_ a=([],0,12))\/∃t n,Zrr v K N f at_ a=(limbs t,n,0)/\t<v/\at_<=n/\n<=at_+a.length
 | 0,_,_ => .inl rfl
 | f+1,at_,a=>by
   rw[Zrr];by_cases h:N<=a.length
   ·rw[if_pos h];by_cases b:val (a.take N) % 2 ^ K<v
    ·rw[if_pos b];exact .inr ⟨_,_,rfl,b,AA,AA⟩
    rw[if_neg b];rcases Zqk v K N f (at_+N) (a.drop N) with c | ⟨t,n,c,d,j,g⟩
    ·exact .inl c
    refine .inr ⟨t,n,c,d,AA,?_⟩;rw[BT] at g;omega
   rw[if_neg h];exact .inl rfl
end
