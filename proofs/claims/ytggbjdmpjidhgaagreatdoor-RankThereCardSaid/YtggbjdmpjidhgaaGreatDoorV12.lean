/- Words for slices that read as lists: no program in sight. -/
import Derived.Test.YtggbjdmpjidhgaaGreatDoorV05
import Derived.Test.YtggbjdmpjidhgaaGreatDoorV06
import Derived.Test.YtggbjdmpjidhgaaGreatDoorV07
import Derived.Test.YtggbjdmpjidhgaaGreatDoorV08
set_option linter.all false
set_option maxHeartbeats 1500000
set_option maxRecDepth 100000
namespace Go.Proofs.YtggbjdmpjidhgaaGreatDoor
open Go.RowKit Go.Proofs.Tryz
variable{A:Option Addr}{n c i r use:Nat}{a ss l:List Int}{S t:List Nat}{s:Int}{N:List Bool}{x:Rul}{f:FuncId}{T:Int->Nat->Nat}{v:Value}{P:Program}{args:Array Value}
theorem Za.same{k:IntKind}{w w':World}(h:Za k w A n c a)(b:Uz w w'):Za k w' A n c a:=h.below (b.below _)
theorem Za.drewN{k:IntKind}{w:World}(h:Za k w A n c a)(m:Nat):Za k (w.drewN m) A n c a:=h
def RetInts(k:IntKind)(w:World)(a:List Int)(e:Ending)(w':World):Prop :=
 ∃A c,e = .returned (.slice A a.length c)/\Za k w' A a.length c a/\Below w.heap.size w w'
theorem set_members(s:Nat)(w:World)(E:s<4294967296)(z:Q2 w):
 Calls prog 148 #[.int .u32 (s:Int)] w (RetInts .i64 w (Z6 (Wy s))):=by
 have u:=LH (Zt7 s);go_enter func148,ntmps148;go_wp2;go_loopw [0,3] (λt o wr=>∃(r:Nat) (A:Option Addr) (b:Nat) (a:List Nat),t = .int .u32 (r:Int)/\r<4294967296/\Hid (Wy s=a++Wy r)/\o = .slice A a.length b /\
  wr.ownsRow w 3 1 (.slice A a.length b) a.length (ints .i64 (Z6 a))/\Below w w wr) (λt _ _=>(intOf t).toNat)
 case atStart=>exact⟨s,none,0,[],rfl,E,LH rfl,rfl,BJ _ _ _ _,AK _ _⟩
 obtain⟨r,A,b,a,rfl,f,g,rfl,h,d⟩:=hrel;have B:=d.size;by_cases c:r=0
 ·subst c;have n:Wy s=a:=by rw[g,mems_zero,DK]
  have v:=LH n;go_wp2;go_ret;have e:Z6 (Wy s)=Z6 a:=by rw[v]
  rw[e];refine⟨A,b,by rw[Mv];rfl,?_,d⟩;rw[Mv];exact Yl h
 have j:=mems_step r c f;obtain⟨H,_,_,_,I⟩:=Zt1 r c f;have M:((r:Int) != 0)=true:=by rw[BN];omega
 have m:=tz32 r wr c f (z.below d);have G:bits .and .u32 (r:Int) ((r:Int)-1)=((r &&& (r-1):Nat):Int):=by
  rw[show (r:Int)-1=((r-1:Nat):Int) from by omega];exact and32 r (r-1) f AA
 have L:0<r:=AA
 have J:a.length<32:=by
  have:=u.out;rw[g,j,AS,AW] at this;omega
 have x:=LH j;have q:=LH m;generalize Lib.ctz 32 r=k at *;generalize r &&& (r-1)=F at *;go_wp2_with (first
  | (go_at_call 196;refine q.out.mono ?_;rintro e w'⟨rfl,rfl⟩)
  | (at_builtin;refine Vc (w:=wr) rfl _ _ 27 rfl w 3 (.int .i64 0) 8 underlying27 Tryz.infoInt rfl _ a.length _ _ rfl h (.int .i64 ((k:Int))) rfl rfl AA AA AA ?_;intro p y N D C))
 go_roundw
 case rel =>
  have e:ints .i64 (Z6 (a++[k]))=ints .i64 (Z6 a)++[.int .i64 (k:Int)]:=by simp[ints,Z6]
  have l:(a++[k]).length=a.length+1:=AE
  refine⟨F,p,y,a++[k],rfl,AA,LH (by rw[g,x];simp),by rw[l],?_,X6 d C h B⟩;rw[e,l];exact D
 simp[intOf];omega
theorem comes_in(X:Nat->Prop)(c:∀k,k<S.length->X k->∀t,(S.getD k 0).testBit t=true->X t)(b:∀i t,(S.getD i 0).testBit t=true->t<S.length){t:Nat}(hi:i<S.length)(a:∀t,(S.getD i 0).testBit t=true->X t)(h:Yw S i t=true):X t :=
 Gd X c b _ hi a h
theorem lefts_next{G:Gr}{k:Nat}{r:Rul}{top:Int}(h:G.leftsGo (G.rules.take k) (-1)=some top)(a:G.rules[k]? = some r):
 G.leftsGo (G.rules.take (k+1)) (-1)=if 0<=r.left/\r.left<=top+1/\G.ruleOK r=true then some (max top r.left) else none:=by
 rw[DA,a];show G.leftsGo (_++[r]) _=_;rw[Gr.leftsGo_snoc,h];rfl
theorem lefts_bad{G:Gr}{k:Nat}(h:G.leftsGo (G.rules.take k) (-1)=none):G.leftsGo G.rules (-1)=none:=by
 rw[<-List.take_append_drop k G.rules];exact G.leftsGo_none _ _ _ h
theorem Mr(o:Option Addr)(n c1:Nat)(xs:List Int)(p:Option Addr)(m c2:Nat)(ys:List Int)(w:World)(g:Za .i64 w o n c1 xs)(l:Za .i64 w p m c2 ys):
 Calls prog 37 #[.slice o n c1,.slice p m c2] w λe w'=>e = .returned (.bool (xs==ys))/\Uz w w':=by
 obtain rfl:=g.len;obtain rfl:=l.len;have E:=g.cap;have F:=l.cap;by_cases b:xs.length=ys.length
 case neg =>
  have e:(xs==ys)=false:=by rw[AP];intro h;exact b (by rw[h])
  have hi:((xs.length:Int) != (ys.length:Int))=true:=by rw[BN];omega
  rw[e];clear e b;go_enter func37,ntmps37;go_wp2;go_ret;exact⟨rfl,Uz.refl _⟩
 have hi:((xs.length:Int) != (ys.length:Int))=false:=by rw[BS];omega
 have f:=LH b;clear b;go_enter func37,ntmps37;go_wp2;go_loopw [5] (λi wr=>∃k:Nat,k<=xs.length/\i = .int .i64 (k:Int)/\Hid (xs.take k=ys.take k)/\Uz w wr) (λi _=>xs.length-(intOf i).toNat)
 case atStart=>exact⟨0,AU _,rfl,LH rfl,Uz.refl _⟩
 obtain⟨k,G,rfl,q,a⟩:=hrel;by_cases s:k<xs.length
 ·obtain⟨t,H,x,rfl,A,Hx,C⟩:=(g.same a).get (j:=k) s;obtain⟨u,I,y,rfl,B,r,D⟩:=(l.same a).get (j:=k) (by have:=f.out;omega);have g0:(0:Int)<=(k:Int):=AA
  have v:(k:Int)<(xs.length:Int):=AA
  have z:(k:Int)<(ys.length:Int):=by have:=f.out;omega
  by_cases c:x=y
  ·subst c;go_wp2;go_quiet (fail)
   go_wp2;go_roundw
   case rel=>exact⟨k+1,AA,AF,LH (by rw[DA,DA,q.out,Hx.out,r.out]),a.drewN _⟩
   simp[intOf];omega
  have e:(xs==ys)=false:=by
   rw[AP];rintro rfl;have:=Hx.out.symm.trans r.out;exact c (by simpa using this)
  have hd:(x != y)=true:=by rw[BN];exact c
  have d:=LH e;clear e c;go_wp2;go_quiet (fail)
  go_wp2;go_ret;exact⟨by rw[d.out];rfl,a.drewN _⟩
 have e:(xs==ys)=true:=by
  have:=q.out;have:=f.out;rw[AQ AA,AQ AA] at *;simpa using ‹_=_›
 have d:=LH e;clear e;go_wp2;go_ret;exact⟨by rw[d.out];rfl,a⟩
theorem Zz0(N P:List Bool)(a:List Rul)(r:Rul)(F:List Nat):Wo N P (a++[r]) F=Y2 N P r r.right.length (Wo N P a F):=by simp[Wo]
theorem Zxv(a:We S):∀(l:List Nat) {R:Nat},R<4294967296->Qd S R l<4294967296
 | [],R,h=>h
 | k::l,R,h=>Zxv a l (Ct h (a.get k))
theorem J5.done(c:InS S)(hi:i<S.length){R:Nat}(h:J5 S i R)(d:Qd S R (Wy R)=R):R=(Xu S).getD i 0:=by
 apply Nat.eq_of_testBit_eq;intro t;rw[BZ];refine⟨λa=>(h.2.2 t a).2,λa=>?_⟩;refine comes_in (S:=S) (λt=>R.testBit t=true) (λk g b t f=>?_) c hi (λt a=>h.2.1 t a) a;have:=Ma S t (Wy R) R;rw[d] at this;rw[this,CJ];right;rw[Er];exact⟨k,(Zwo R k).2 ⟨Ztx h.1 b,b⟩,f⟩
theorem B8(S:List Nat)(use n:Nat)(b:List Bool):∀k,(Z3 (Dn S use n) k b).length=b.length
 | 0=>rfl
 | k+1=>by rw[Z3,(Zzg S use n).len,B8 S use n b k]
theorem Co(S:List Nat)(use n:Nat):∀k,(Y4 S use n k).2=Nm (Z3 (Dn S use n) k (List.replicate n false))
 | 0=>by
   apply Nat.eq_of_testBit_eq;intro t;unfold Nm;rw[J3];simp only[Y4,Z3,Nat.zero_testBit,Eh];by_cases h:t<n
   ·simp[h]
   ·simp[h]
 | k+1=>by
   have c:=Co S use n k;have d:=B8 S use n (List.replicate n false) k;rw[Eh] at d;rw[Nf,Z3];generalize Z3 (Dn S use n) k (List.replicate n false)=b at *;cases a:Qx (U2 S use (Y4 S use n k).2) n with
   | none =>
     rw[Ln a];unfold Dn;rw[<-c,a];exact c
   | some i =>
     rw[Ly a];have hi:=(Cj a).1;unfold Dn;rw[<-c,a];rw[thereOf_set AA,c]
theorem orderS_end(S:List Nat)(n:Nat)(k:use<4294967296):Qx (U2 S use (Y4 S use n n).2) n=none:=by
 cases d:Qx (U2 S use (Y4 S use n n).2) n with
 | none=>rfl
 | some i =>
   exfalso;have a:=(Zzg S use n).fix (List.replicate n false);rw[Eh] at a;have f:=B8 S use n (List.replicate n false) n;rw[Eh] at f;rw[Co] at d;generalize Z3 (Dn S use n) n (List.replicate n false)=b at *;unfold Dn at a;rw[d] at a;simp only[] at a;obtain⟨hi,c⟩:=Cj d;unfold U2 at c;simp only[AR] at c;have g:=Ztx k c.1.1;have h:b.getD i false=true:=by
    rw[<-a];exact (Uh b i i).2 (.inr ⟨rfl,AA⟩)
   have j:(Nm b).testBit i=true:=by
    unfold Nm;rw[J3,h];simp[g,f,hi]
   rw[j] at c;exact absurd c.1.2 AC
theorem Vu.app{w:World}{c:Nat->Prop}{cs q:List Value}{ps s:List Prd}(h:Vu w c cs ps)(r:Vu w c q s):Vu w c (cs++q) (ps++s):=by
 refine⟨by rw[AS,AS,h.1,r.1];omega,λj p b=>?_⟩;rcases BD j ps.length with a | a
 ·rw[DL a] at b;obtain⟨Ar,cr,x,y,n,o,d,f,g,k,l,m⟩:=h.2 j p b;exact⟨Ar,cr,x,y,n,o,by rw[Xe h.1 a AA];exact d,by rw[Xe h.1 a AA];exact f,by rw[Xe h.1 a AA];exact g,by rw[Xe h.1 a AA];exact k,by rw[Xe h.1 a AA];exact l,m⟩
 rw[BX a] at b;obtain⟨Ar,cr,x,y,n,o,d,f,g,k,l,m⟩:=r.2 _ p b;have e:∀i,j*5+i=ps.length*5+((j-ps.length)*5+i):=λi=>AA
 exact⟨Ar,cr,x,y,n,o,by rw[e,Y7 h.1];exact d,by rw[e,Y7 h.1];exact f,by rw[e,Y7 h.1];exact g,by rw[e,Y7 h.1];exact k,by rw[e,Y7 h.1];exact l,m⟩
theorem alone_true{k:Nat}(h:∀p s,ss[p]? = some s->p≠k->Xg N s=true):J6 N ss k=true:=by
 unfold J6;rw[AR,BG,BG];constructor
 ·intro s b;obtain⟨p,a⟩:=BU b;rw[En] at a;split at a
  ·exact h p s a AA
  cases a
 intro s b;obtain⟨p,a⟩:=BU b;rw[Ea] at a;exact h _ s a AA
theorem alone_false{k p:Nat}(a:ss[p]? = some s)(d:p≠k)(h:Xg N s=false):J6 N ss k=false:=by
 unfold J6;rw[Bool.and_eq_false_iff];rcases BD p k with b | c
 ·left;rw[List.all_eq_false];refine⟨s,?_,by rw[h];simp⟩;exact AL (i:=p) (by rw[En,if_pos b];exact a)
 right;rw[List.all_eq_false];refine⟨s,?_,by rw[h];simp⟩;exact AL (i:=p-(k+1)) (by rw[Ea,show k+1+(p-(k+1))=p by omega];exact a)
theorem Bl(s k:Nat)(w:World)(a:s<4294967296):Calls prog 62 #[.int .u32 (s:Int),.int .i64 (k:Int)] w λe w'=>e = .returned (.bool (s.testBit k))/\w=w' :=
 (ref_has s k w a).mono λe w' h=>by rw[hasN_nat a] at h;exact h
theorem useG_lt(G:Gr):Gy G<4294967296:=by
 unfold Gy Qm;split
 ·exact Jg _ _
 decide
def PreO(S:List Nat)(use n:Nat)(a:List Nat × Nat):Prop:=a.2=My a.1/\∀p i,a.1[p]? = some i->i<n/\U2 S use (My (a.1.take p)) i=true
theorem PreO.step{a:List Nat × Nat}(h:PreO S use n a):PreO S use n (Zza S use n a):=by
 cases b:Qx (U2 S use a.2) n with
 | none=>rw[Ln b];exact h
 | some j =>
   rw[Ly b];obtain⟨d,g⟩:=Cj b;refine⟨by show a.2 ||| Y6 (j:Int)=_;rw[Zzd,h.1],λp i hi=>?_⟩;simp only[] at hi ⊢;rcases Nat.lt_trichotomy p a.1.length with f | c | k
   ·rw[DL f] at hi;rw[Es AA];exact h.2 p i hi
   ·subst c;rw[BX (AI _),Nat.sub_self] at hi;have e:j=i:=by simpa using hi
    subst e;refine⟨d,?_⟩;rw[Es (AI _),List.take_length,<-h.1];exact g
   rw[BE AG] at hi;cases hi
theorem Zy3(S:List Nat)(use n:Nat):∀k,PreO S use n (Y4 S use n k)
 | 0=>⟨rfl,λp i h=>by simp[Y4,Z3] at h⟩
 | k+1=>by rw[Nf];exact (Zy3 S use n k).step
theorem addP_full(xs ys:List Nat)(d:Lim xs)(f:Lim ys)(i:Nat)(h1:xs.length<=i)(a:ys.length<=i):
 val (V4 xs ys (i+1)).1=val xs+val ys:=by
 have h:=Zx4 xs ys i h1 a;have g:=Lg xs ys d f i;rw[Wf,Mq] at h;simp only[V4];rw[Wf,Mq];have b:xs.getD i 0=0:=by simp[BE h1]
 have c:ys.getD i 0=0:=by simp[BE a]
 rw[b,c,Ei AA];simpa using h
theorem useS_lt(G:Gr):Qm G<4294967296:=Jg _ _
def RMulRel(w:World)(xs ys:List Nat)(i:Value)(wr:World):Prop :=
 ∃(k:Nat) (a:List Nat),k<=xs.length/\i = .int .i64 (k:Int)/\a.length=64/\Lim a/\val a=val (xs.take k)*val ys /\
  Own wr w.heap.size 49 .u32 a/\Below w.heap.size w wr
def RMulRel2(w:World)(x:Nat)(ys a:List Nat)(i:Nat)(c q:Value)(wr:World):Prop :=
 ∃k:Nat,i+k<=64/\q = .int .i64 (k:Int)/\c = .int .u64 ((Vn x ys (a.drop i) k).2:Int)/\Own wr w.heap.size 49 .u32 (Us x ys a i k)/\Below w.heap.size w wr
theorem val_take_le(xs:List Nat)(k:Nat):val (xs.take k)<=val xs:=by
 by_cases h:k<=xs.length
 ·rw[Mn xs k h];omega
 rw[AQ AA];exact AI _
theorem mul_fits(xs ys:List Nat)(c:Lim xs)(d:Lim ys)(h1:xs.length<=32)(b:ys.length<=32)(k:Nat)(h:k<xs.length):
 val (xs.take k)*val ys+4294967296 ^ k*(xs.getD k 0*val ys)<4294967296 ^ 64:=by
 have e:val (xs.take k)*val ys+4294967296 ^ k*(xs.getD k 0*val ys)=val (xs.take (k+1))*val ys:=by
  rw[Y5,Nat.add_mul,DV]
 rw[e];have a1:=val_take_le xs (k+1);have a2:=Ui xs c;have a3:=Ui ys d;have f:(4294967296:Nat) ^ xs.length<=4294967296 ^ 32:=DD AC h1;have g:(4294967296:Nat) ^ ys.length<=4294967296 ^ 32:=DD AC b;have a:(4294967296:Nat) ^ 64=4294967296 ^ 32*4294967296 ^ 32:=by rw[<-Nat.pow_add]
 rw[a];exact Nat.mul_lt_mul'' AA AA
def Z0(T:Int->Nat->Nat)(b:List Rul)(a i n:Nat):Nat:=Yc T (b.take i) a n
inductive UnL (G:Gr):List Int->Nat->Nat->List Nat->Prop
 | nil:UnL G [] 0 0 []
 | term {s:Int} {l:List Int} {n r:Nat} {t:List Nat}:0<=s->UnL G l n r t->UnL G (s::l) (n+1) r t
 | non {s:Int} {l:List Int} {n k i q r:Nat} {x:Rul} {t1 t2:List Nat}:s<0->G.rules[i]? = some x->x.left.toNat=Zp s->UnL G x.right k q t1->UnL G l n r t2->
    UnL G (s::l) (k+n) (Yv (Zv G) s l (k+n) k+(Z0 (Zv G) G.rules (Zp s) i k+q)*Zx (Zv G) l n+r) (i::(t1++t2))
theorem Qc{α:Type}{l m:List α}{k:Nat}{x:α}(h:l.take k=m.take k)(a:l[k]? = some x)(b:m[k]? = some x):l.take (k+1)=m.take (k+1):=by
 rw[DA,DA,h,a,b]
theorem Qb(T:Int->Nat->Nat)(b:List Rul)(a n:Nat):Z0 T b a 0 n=0:=rfl
theorem Y3(T:Int->Nat->Nat){b:List Rul}(h:b[i]? = some x)(a n:Nat):Z0 T b a (i+1) n=Z0 T b a i n+(if x.left.toNat=a then Zx T x.right n else 0):=by
 unfold Z0;rw[DA,h];exact Gg T _ x a n
theorem Qj(T:Int->Nat->Nat){b:List Rul}(h:b.length<=i)(a n:Nat):Z0 T b a i n=Yc T b a n:=by
 unfold Z0;rw[AQ h]
theorem Vf(T:Int->Nat->Nat)(b:List Rul)(a n:Nat){f:Nat}(h:i<=f):Z0 T b a i n<=Z0 T b a f n:=by
 obtain⟨d,rfl⟩:=Nat.exists_eq_add_of_le h
 induction d with
 | zero=>exact AI _
 | succ d j =>
   refine BC (j (DB _ _)) ?_;cases c:b[i+d]? with
   | none =>
     have g:b.length<=i+d:=List.getElem?_eq_none_iff.1 c;rw[<-Ed,Qj T g,Qj T AA];exact AI _
   | some x=>rw[<-Ed,Y3 T c];exact DB _ _
theorem Kj(T:Int->Nat->Nat)(b:List Rul)(a n i:Nat):Z0 T b a i n<=Yc T b a n:=by
 have h:=Vf T b a n (Nat.le_max_left i b.length);rwa [Qj T (Nat.le_max_right i b.length)] at h
def UnT(G:Gr)(a n r:Nat)(t:List Nat):Prop:=∃i x q b,G.rules[i]? = some x/\x.left.toNat=a/\UnL G x.right n q b/\r=Z0 (Zv G) G.rules a i n+q/\t=i::b
theorem Zso{c:List Rul}{a b v f:Nat}{g:Rul}(o:c[i]? = some x)(p:c[b]? = some g)(l:x.left.toNat=a)(m:g.left.toNat=a)(h1:v<Zx T x.right n)(q:f<Zx T g.right n)(h:Z0 T c a i n+v=Z0 T c a b n+f):i=b/\v=f:=by
 have j:=Y3 T o a n;have k:=Y3 T p a n;rw[if_pos l] at j;rw[if_pos m] at k;rcases Nat.lt_trichotomy i b with d | rfl | d
 ·have:=Vf T c a n (show i+1<=b from d);omega
 ·exact⟨rfl,AA⟩
 have:=Vf T c a n (show b+1<=i from d);omega
theorem UnL.parse{G:Gr}(h:UnL G l n r t):∀{b c:Nat} {d z z':List Nat},UnL G l b c d->t++z=d++z'->n=b/\r=c/\t=d/\z=z':=by
 induction h with
 | nil=>intro b c d z z' f a;cases f;exact⟨rfl,rfl,rfl,a⟩
 | @term s l n r t h0 _ p =>
   intro b c d z z' f a;cases f with
   | term _ m =>
     obtain⟨rfl,rfl,rfl,rfl⟩:=p m a;exact⟨rfl,rfl,rfl,rfl⟩
   | non h1=>exact absurd h1 AA
 | @non s l n k i q r x H J h0 o B u1 u2 u v =>
   intro b c d z z' f a;cases f with
   | term h1=>exact absurd h1 AA
   | @non _ _ b E D F c M I L _ g C y A =>
     rw[DU,DU] at a;injection a with e1 e2;subst e1;rw[o] at g;obtain rfl:=BI g;rw[DQ,DQ] at e2;obtain⟨rfl,rfl,rfl,j⟩:=u y e2;obtain⟨rfl,rfl,rfl,rfl⟩:=v A j;exact⟨rfl,rfl,rfl,rfl⟩
theorem UnT.parse{G:Gr}{a f g:Nat}{b z z':List Nat}(h:UnT G a n r t)(j:UnT G a f g b)(c:t++z=b++z'):n=f/\r=g/\t=b/\z=z':=by
 obtain⟨i,x,q,v,m,o,k,rfl,rfl⟩:=h;obtain⟨s,A,u,y,d,p,l,rfl,rfl⟩:=j;rw[DU,DU] at c;injection c with e1 e2;subst e1;rw[m] at d;obtain rfl:=BI d;obtain⟨rfl,rfl,rfl,rfl⟩:=k.parse l e2;exact⟨rfl,rfl,rfl,rfl⟩
theorem UnL.non'{G:Gr}{k a:Nat}{b c:List Nat}(h0:s<0)(h1:UnT G (Zp s) k a b)(d:UnL G l n r c):UnL G (s::l) (k+n) (Yv (Zv G) s l (k+n) k+a*Zx (Zv G) l n+r) (b++c):=by
 obtain⟨i,x,q,j,g,h,f,rfl,rfl⟩:=h1;exact .non h0 g h f d
theorem Zv0{b:List Rul}{a:Nat}:∀{m:Nat},r<Z0 T b a m n->∃i x v,i<m/\b[i]? = some x/\x.left.toNat=a/\r=Z0 T b a i n+v/\v<Zx T x.right n
 | 0,h=>absurd h (Nat.not_lt_zero _)
 | m+1,h=>by
   by_cases d:r<Z0 T b a m n
   ·obtain⟨i,x,v,hi,h1,g,j,k⟩:=Zv0 d;exact⟨i,x,v,AA,h1,g,j,k⟩
   cases f:b[m]? with
   | none =>
     have c:b.length<=m:=List.getElem?_eq_none_iff.1 f;rw[Qj T AA] at h;rw[Qj T c] at d;exact absurd h d
   | some x =>
     rw[Y3 T f] at h;split at h
     ·rename_i c;exact⟨m,x,r-Z0 T b a m n,AA,f,c,AA,AA⟩
     omega
theorem Va:limbs 0=[]:=by
 have:=(Vt 0 0).2 AC;exact BL AA
theorem subP_val(xs l:List Nat)(a:Lim xs)(b:Lim l)(i:Nat):
 val (Xn xs l i).1+val (l.take i)=val (xs.take i)+4294967296 ^ i*(Xn xs l i).2:=by
 induction i with
 | zero=>simp[Xn,val]
 | succ i h =>
   have g:=Qi xs l i;have h1:=a.getD i;have f:=b.getD i;rw[Y5,Y5];simp only[Xn];rw[Wf,Mj,Nat.pow_succ];generalize (Xn xs l i).1=j at *;generalize (Xn xs l i).2=c at *;generalize xs.getD i 0=x at *;generalize l.getD i 0=y at *;generalize (4294967296:Nat) ^ i=B at *;have e:(4294967296+x-y-c) % 4294967296+y+c=x+4294967296*(1-(4294967296+x-y-c) / 4294967296):=AA
   generalize (4294967296+x-y-c) % 4294967296=d at *;generalize 1-(4294967296+x-y-c) / 4294967296=k at *;have:B*d+B*y+B*c=B*x+B*4294967296*k:=by
    rw[<-Ee,<-Ee,e,Ee,DV]
   omega
theorem Zt3(xs d:List Nat)(b:Lim xs)(c:Lim d)(i:Nat)(h1:xs.length<=i)(a:d.length<=i):
 val (Xn xs d i).1+val d=val xs+4294967296 ^ i*(Xn xs d i).2:=by
 have:=subP_val xs d b c i;rwa [AQ h1,AQ a] at this
theorem Zzx(xs q:List Nat)(m:Lim xs)(n:Lim q)(k:Nat):
 Vm (val (xs.take (k+1))) (val (q.take (k+1))) =
  if xs.getD k 0<q.getD k 0 then -1 else if q.getD k 0<xs.getD k 0 then 1 else Vm (val (xs.take k)) (val (q.take k)):=by
 have h1:=Ui _ (m.take k);have c:=Ui _ (n.take k);have d:(4294967296:Nat) ^ (xs.take k).length<=4294967296 ^ k:=DD AC (List.length_take_le _ _);have f:(4294967296:Nat) ^ (q.take k).length<=4294967296 ^ k:=DD AC (List.length_take_le _ _);rw[Y5,Y5];have o:=AJ h1 d;have p:=AJ c f;clear h1 c d f;generalize val (xs.take k)=a at *;generalize val (q.take k)=b at *;generalize (4294967296:Nat) ^ k=B at *;generalize xs.getD k 0=x at *;generalize q.getD k 0=y at *;by_cases l:x<y
 ·rw[if_pos l];have:B*(x+1)<=B*y:=El _ AA;rw[Ee] at this;unfold Vm;rw[if_pos AA]
 rw[if_neg l];by_cases j:y<x
 ·rw[if_pos j];have:B*(y+1)<=B*x:=El _ AA;rw[Ee] at this;unfold Vm;rw[if_neg AA,if_pos AA]
 rw[if_neg j];obtain rfl:x=y:=AA
 unfold Vm;by_cases g:a<b
 ·rw[if_pos g,if_pos AA]
 rw[if_neg g,if_neg AA];by_cases h:b<a
 ·rw[if_pos h,if_pos AA]
 rw[if_neg h,if_neg AA]
theorem twP_val(xs:List Nat)(b k:Nat):val (twP xs b k).1+4294967296 ^ k*(twP xs b k).2=2*val (xs.take k)+b:=by
 induction k with
 | zero=>simp[twP,val]
 | succ k d =>
   rw[Y5];simp only[twP];rw[Wf,Zye,Nat.pow_succ];generalize (twP xs b k).1=f at *;generalize (twP xs b k).2=c at *;generalize xs.getD k 0=x at *;generalize (4294967296:Nat) ^ k=B at *;have e:4294967296*((2*x+c) / 4294967296)+(2*x+c) % 4294967296=2*x+c:=Nat.div_add_mod _ _;have:B*((2*x+c) % 4294967296)+B*4294967296*((2*x+c) / 4294967296)=B*(2*x)+B*c:=by
    rw[DV,<-Ee,Eo,e,Ee]
   have a:B*(2*x)=2*(B*x):=by rw[<-DV,Ej B 2,DV]
   rw[Ee];omega
theorem twP_all(xs:List Nat)(b:Nat):val ((twP xs b xs.length).1++[(twP xs b xs.length).2])=2*val xs+b:=by
 rw[Wf,Zye,twP_val,List.take_length]
theorem limb_of(xs:List Nat)(a:Lim xs)(j:Nat):xs.getD j 0=val xs / 4294967296 ^ j % 4294967296:=by
 by_cases h:j<xs.length
 ·have h1:=Mn xs j AA;have b:val (xs.take j)<4294967296 ^ j:=by
   have:=Ui _ (a.take j);rwa [BY,Nat.min_eq_left AA] at this
  rw[h1,Nat.add_mul_div_left _ _ (Nat.pow_pos AC),Nat.div_eq_of_lt b,BH,DW h];simp only[val];have:=a _ (List.getElem_mem h);rw[Nat.add_mul_mod_self_left,Ei this];simp[AM h]
 have h1:xs.getD j 0=0:=by simp[BE (show xs.length<=j by omega)]
 have b:=Ui _ a;have c:(4294967296:Nat) ^ xs.length<=4294967296 ^ j:=DD AC AA;rw[h1,Nat.div_eq_of_lt AA]
theorem bit_of(xs:List Nat)(c:Lim xs)(i:Nat):xs.getD (i / 32) 0 / 2 ^ (i % 32) % 2=val xs / 2 ^ i % 2:=by
 rw[limb_of xs c,show (4294967296:Nat) ^ (i / 32)=2 ^ (32*(i / 32)) from by rw[Nat.pow_mul]];have hi:i=32*(i / 32)+i % 32:=AA
 have b:i % 32<32:=Nat.mod_lt _ AC;generalize i / 32=j at *;generalize i % 32=r at *;subst hi;rw[Nat.pow_add,<-Nat.div_div_eq_div_mul];generalize val xs / 2 ^ (32*j)=v;have h1:=Nat.testBit_mod_two_pow v 32 r;rw[Nat.testBit_eq_decide_div_mod_eq,Nat.testBit_eq_decide_div_mod_eq] at h1;simp only[b,decide_true,Bool.true_and,decide_eq_decide] at h1;have a:(2:Nat) ^ 32=4294967296:=AC
 rw[a] at h1;have d:=Nat.mod_lt (v % 4294967296 / 2 ^ r) (show 0<2 by decide);have f:=Nat.mod_lt (v / 2 ^ r) (show 0<2 by decide);omega
theorem set_bit(a:List Nat)(f:Lim a)(i:Nat)(hi:i / 32<a.length)(q:Nat)(l:val a=q*2 ^ (i+1)):
 a.getD (i / 32) 0 ||| 2 ^ (i % 32)=a.getD (i / 32) 0+2 ^ (i % 32)/\a.getD (i / 32) 0+2 ^ (i % 32)<4294967296 /\
 val (a.set (i / 32) (a.getD (i / 32) 0+2 ^ (i % 32)))=val a+2 ^ i:=by
 have t:=f.getD (i / 32);have d:=bit_of a f i;have n:val a / 2 ^ i % 2=0:=by
  rw[l,Nat.pow_succ,<-DV,Ej q,DV,Nat.mul_div_cancel_left _ (Nat.two_pow_pos i)];omega
 rw[n] at d;have v:i % 32<32:=Nat.mod_lt _ AC;have h:2 ^ i=4294967296 ^ (i / 32)*2 ^ (i % 32):=by
  rw[show (4294967296:Nat) ^ (i / 32)=2 ^ (32*(i / 32)) from by rw[Nat.pow_mul],<-Nat.pow_add,show 32*(i / 32)+i % 32=i from by omega]
 refine⟨?_,?_,by rw[val_set a _ _ hi,h]⟩;all_goals
  generalize a.getD (i / 32) 0=x at *;generalize i % 32=r at *;have s:(2:Nat) ^ (r+1)=2*2 ^ r:=by rw[Nat.pow_succ,Ej]
  have j:x % 2 ^ (r+1)<2 ^ r:=by
   rw[Nat.mod_pow_succ,d,Nat.mul_zero,DJ];exact Nat.mod_lt _ (Nat.two_pow_pos r)
  have m:2 ^ (r+1)*(x / 2 ^ (r+1))+x % 2 ^ (r+1)=x:=Nat.div_add_mod _ _;have u:=Nat.two_pow_pos r
 ·have c:(2 ^ (r+1)*(x / 2 ^ (r+1))) % 2 ^ (r+1)=0:=Nat.mul_mod_right _ _;have b:=nat_join (r+1) (2 ^ (r+1)*(x / 2 ^ (r+1))) (x % 2 ^ (r+1)) c AA;have o:=nat_join r (2 ^ r) (x % 2 ^ (r+1)) (Nat.mod_self _) j;have p:=nat_join (r+1) (2 ^ (r+1)*(x / 2 ^ (r+1))) (2 ^ r+x % 2 ^ (r+1)) c AA;rw[m] at b;rw[<-b,Nat.or_assoc,Nat.or_comm (x % 2 ^ (r+1)),o,p,b];omega
 have e:(4294967296:Nat)=2 ^ (r+1)*2 ^ (31-r):=by
  rw[<-Nat.pow_add,show r+1+(31-r)=32 from by omega]
 have k:2 ^ (r+1)*(x / 2 ^ (r+1))<2 ^ (r+1)*2 ^ (31-r):=by rw[<-e];omega
 have h1:x / 2 ^ (r+1)<2 ^ (31-r):=Nat.lt_of_mul_lt_mul_left k;have g:2 ^ (r+1)*(x / 2 ^ (r+1)+1)<=2 ^ (r+1)*2 ^ (31-r):=El _ h1;rw[<-e,Ee,Ep] at g;omega
theorem Zvu{a b:Nat}(c:a<big)(d:b<big):Vq (limbs a) (limbs b)=Vm a b:=by
 simp[Vq,Ym a c,Ym b d,Yd]
theorem Zw6{a b:Nat}(c:a<big)(d:b<=a):Mw (limbs a) (limbs b)=(limbs (a-b),0):=by
 have h:¬a<b:=AA
 simp[Mw,Ym a c,Ym b (Ev d c),Yd,h]
theorem Do.done{b:Nat->Bool}{u:Nat->Value}{p:Nat}{c:Value}(h:Do b u p c)(i:Nat)(v:Value):Do (Mz b p) (upd u p v) p c:=λa=>by
 rw[Ztw] at a;cases a
theorem UnL.inside{G:Gr}(h:UnL G l n r t):∀i∈t,i<G.rules.length:=by
 induction h with
 | nil=>intro i hi;cases hi
 | term _ _ c=>exact c
 | @non s l n k i q r x m o h0 b g u1 u2 d f =>
   intro j a;rcases BW.1 a with rfl | a
   ·exact (AN.1 b).1
   rcases DH.1 a with a | a
   ·exact d j a
   exact f j a
theorem UnT.inside{G:Gr}{a:Nat}(h:UnT G a n r t):t≠[]/\∀i∈t,i<G.rules.length:=by
 obtain⟨i,x,q,f,d,_,c,_,rfl⟩:=h;refine⟨AE,λj b=>?_⟩;rcases BW.1 b with rfl | b
 ·exact (AN.1 d).1
 exact c.inside j b
def Al(W:World)(g:Nat)(h:GH)(G:Gr):Prop:=Y1 W g h 0/\Yf W h G
theorem ahead22(h0:T (-1) 0=0)(h1:T (-1) 1=1)(a:T (-1) 2=1)(b:T 0=K0):
 Z0 T Xt.rules 0 1 1=0/\Yv T (-1) [] 1 1=0/\Yv T (-1) [-1] 2 1=0/\Yv T (-1) [] 2 2=0/\Yv T (-1) [-1] 3 1=0/\Yv T (-1) [-1] 3 2=1:=by
 refine⟨?_,?_,?_,?_,?_,?_⟩;all_goals simp[Z0,Yv,Yc,Xt,Zx,Vi,List.range,List.range.loop,h0,h1,a,b]
theorem UnL.cat{G:Gr}{k m v:Nat}{a b:List Nat}(h0:s<0)(h1:UnT G (Zp s) k 0 a)(c:UnL G l n 0 b)(d:k+n=m)(f:Yv (Zv G) s l m k=v):UnL G (s::l) m v (a++b):=by
 subst d;have:=UnL.non' h0 h1 c;rw[f,Nat.zero_mul] at this;exact this
theorem UnT.top{G:Gr}{a q:Nat}(c:G.rules[0]? = some x)(b:x.left.toNat=a)(h:UnL G x.right n q t):UnT G a n q (0::t):=⟨0,x,q,t,c,b,h,by rw[Qb,BH],rfl⟩
section
open Go.RowKit Go.Shelf
attribute [local go_sem] Oper.semAt_some
open Go.RowKit Go.Shelf Go.Sort
theorem Kh(w:World)(x:Ext w)(b o:Nat)(h:b<w.heap.size):(bl w x).frozen? ⟨b,o,none⟩=w.frozen? ⟨b,o,none⟩:=x.below.frozen (p:=⟨b,o,none⟩) h
theorem Lb(w:World)(x:Ext w):w.heap.size<=(bl w x).heap.size:=x.below.size
theorem Ve{w:World}{x:Ext w}(h:Calls P f args (bl w x) λe w'=>e = .returned v/\Below (bl w x).heap.size (bl w x) w'):Calls P f args (bl w x) λe a=>e = .returned v/\∃y,a=bl w y :=
 h.mono λ_ a ⟨c,b⟩=>⟨c,⟨a,Zz (Zr w x) b⟩,rfl⟩
theorem rf_has(h:GH)(G:Gr)(s:Int)(w:World)(a:Yf w h G)(k:U3 s)(g:h.n1<=1000)(j:h.n2<=1000):
 Calls prog 51 #[GV h G.start,.int .i64 s] w λe w'=>e = .returned (.bool (G.has s))/\Below w w w':=by
 obtain⟨a1,n1,c1,a2,n2,c2,a3,n3,c3⟩:=h;have b:G.terms.length=n1:=a.terms.len;have c:G.nons.length=n2:=a.nons.len;have f:G.has s=if 0<=s then decide (s<(n1:Int)) else decide (-1-s<(n2:Int)):=by unfold Gr.has;rw[b,c]
 rw[f];obtain⟨l,m⟩:=k;simp only[] at g j;clear f b c a;by_cases d:0<=s
 ·rw[if_pos d];go_enter func51,ntmps51;go_wp2_with fail;go_ret;exact⟨AE,Zy _ _⟩
 rw[if_neg d];go_enter func51,ntmps51;go_wp2_with fail;go_ret;exact⟨AE,Zy _ _⟩
theorem C6(h:GH)(G:Gr)(s:ByteArray)(w:World)(l:Yf w h G)(o:h.n1<=1000):
 Calls prog 117 #[GV h G.start,.string s] w λe w'=>e = .returned (.int .i64 (G.term s))/\Below w w w':=by
 obtain⟨a1,n1,c1,a2,n2,c2,a3,n3,c3⟩:=h;have f:N8 w a1 n1 c1 G.terms:=l.terms;have u:=f.cap;simp only[] at o;clear l;unfold Gr.term;go_enter func117,ntmps117;go_wp2_with fail;go_loop [5] (λi=>∃k:Nat,k<=n1/\i = .int .i64 (k:Int)/\Hid (∀j,j<k->∀y,G.terms[j]? = some y->decide (y.name=s)=false)) (λi=>n1-(intOf i).toNat)
 case atStart=>exact⟨0,AU _,rfl,LH λj v=>AA⟩
 obtain⟨k,x,rfl,d⟩:=hrel;by_cases p:k<n1
 ·obtain⟨b,A,t,rfl,r,g,B,C,D⟩:=f.get p;by_cases a:t.name=s
  ·have c:Hid (Y8 (λt=>decide (t.name=s)) G.terms=(k:Int)):=Q4 g.out (by simp[a]) d.out;have q:(t.name.toList==s.toList)=true:=by rw[Ql];simp[a]
   clear a;go_wp2_with fail;go_ret;exact⟨by rw[c.out];rfl,Zy _ _⟩
  have q:(t.name.toList==s.toList)=false:=by rw[Ql];simp[a]
  have n:=LH a;clear a;go_wp2_with fail;go_round
  case rel=>exact⟨k+1,AA,AF,LH (Vz d.out g.out (by simp[n.out]))⟩
  simp[intOf];omega
 obtain rfl:k=n1:=AA
 have z:=f.len;have c:Hid (Y8 (λt=>decide (t.name=s)) G.terms=-1):=LH (Jq λj y m=>d.out j (by have:=(AN.1 m).1;omega) y m);go_wp2_with fail;go_ret;exact⟨by rw[c.out];rfl,Zy _ _⟩
theorem Zu5(h:GH)(G:Gr)(s:ByteArray)(w:World)(l:Yf w h G)(o:h.n2<=1000):
 Calls prog 120 #[GV h G.start,.string s] w λe w'=>e = .returned (.int .i64 (G.non s))/\Below w w w':=by
 obtain⟨a1,n1,c1,a2,n2,c2,a3,n3,c3⟩:=h;have f:Js w a2 n2 c2 G.nons:=l.nons;have u:=f.cap;simp only[] at o;clear l;unfold Gr.non;go_enter func120,ntmps120;go_wp2_with fail;go_loop [5] (λi=>∃k:Nat,k<=n2/\i = .int .i64 (k:Int)/\Hid (∀j,j<k->∀y,G.nons[j]? = some y->decide (y=s)=false)) (λi=>n2-(intOf i).toNat)
 case atStart=>exact⟨0,AU _,rfl,LH λj v=>AA⟩
 obtain⟨k,x,rfl,d⟩:=hrel;by_cases p:k<n2
 ·obtain⟨b,A,t,rfl,r,g,B⟩:=f.get p;by_cases a:t=s
  ·have c:Hid (Y8 (λt=>decide (t=s)) G.nons=(k:Int)):=Q4 g.out (by simp[a]) d.out;have q:(t.toList==s.toList)=true:=by rw[Ql];simp[a]
   clear a;go_wp2_with fail;go_ret;exact⟨by rw[c.out];rfl,Zy _ _⟩
  have q:(t.toList==s.toList)=false:=by rw[Ql];simp[a]
  have n:=LH a;clear a;go_wp2_with fail;go_round
  case rel=>exact⟨k+1,AA,AF,LH (Vz d.out g.out (by simp[n.out]))⟩
  simp[intOf];omega
 obtain rfl:k=n2:=AA
 have z:=f.len;have c:Hid (Y8 (λt=>decide (t=s)) G.nons=-1):=LH (Jq λj y m=>d.out j (by have:=(AN.1 m).1;omega) y m);go_wp2_with fail;go_ret;exact⟨by rw[c.out];rfl,Zy _ _⟩
theorem rf_level(h:GH)(G:Gr)(n:Int)(w:World)(A:Yf w h G)(H:h.n1<=1000):
 Calls prog 118 #[GV h G.start,.int .i64 n] w λe w'=>e = .returned (.bool (J9 G.terms n))/\Below w.heap.size w w':=by
 obtain⟨a1,n1,c1,a2,n2,c2,a3,n3,c3⟩:=h;have s:N8 w a1 n1 c1 G.terms:=A.terms;have S:=s.cap;have U:G.terms.length=n1:=s.len;simp only[] at H;clear A;go_enter func118,ntmps118;go_wp2_with fail;go_loopw [5,6,7] (λP i t wr=>∃(k:Nat) (a:Int),k<=n1/\i = .int .i64 (k:Int)/\P = .int .i64 a/\Below w.heap.size w wr/\wr.cell? ⟨w.heap.size,0,none⟩=some (.slice a1 n1 c1)/\w.heap.size<wr.heap.size/\Hid (J9 G.terms n=Qs n (G.terms.drop k) a)) (λ_ i _ _=>n1-(intOf i).toNat)
 case atStart=>exact⟨0,0,AU _,rfl,rfl,Zy _ _,AE,AE,LH rfl⟩
 obtain⟨k,a,T,rfl,rfl,r,R,B,f⟩:=hrel;by_cases J:k<n1
 ·obtain⟨b,L,t,rfl,I,E,M,N,O⟩:=s.get J;rw[<-r.cell (by exact I)] at M N O;have hd:G.terms.drop k=t::G.terms.drop (k+1):=Q8 E.out;have z:∀o,Below w.heap.size w (wr.alloc o):=λo=>r.alloc (DP B) o;have C:∀o,(wr.alloc o).cell? ⟨w.heap.size,0,none⟩=some (.slice (some ⟨b,L,none⟩) n1 c1):=λo=>by rw[(Zy wr o).cell (p:=⟨w.heap.size,0,none⟩) B];exact R
  have l:=LH (⟨z,C⟩:_/\_);clear z C;by_cases g:t.level=n
  ·by_cases j:a≠0/\a≠t.assoc
   ·have m:Hid (J9 G.terms n=false):=LH (by rw[f.out,hd,Qs,if_pos g,if_pos j]);have v:(t.level != n)=false:=by rw[BS];exact g
    have x:(a != 0)=true:=by rw[BN];exact j.1
    have F:(a != t.assoc)=true:=by rw[BN];exact j.2
    clear g j hd f;go_wp2_with fail;go_ret;exact⟨by rw[m.out];rfl,l.out.1 _⟩
   have q:Hid (J9 G.terms n=Qs n (G.terms.drop (k+1)) t.assoc):=LH (by rw[f.out,hd,Qs,if_pos g,if_neg j]);have v:(t.level != n)=false:=by rw[BS];exact g
   have u:(a != 0)=false\/((a != 0)=true/\(a != t.assoc)=false):=by
    rw[BS,BS,BN];by_cases c:a=0
    ·exact .inl c
    exact .inr ⟨c,by by_cases y:a=t.assoc;exact y;exact absurd ⟨c,y⟩ j⟩
   clear g j hd f;rcases u with x | ⟨x,F⟩;all_goals
    go_wp2_with fail;go_roundw
    case rel=>exact⟨k+1,t.assoc,AA,AF,rfl,l.out.1 _,l.out.2 _,AG,q⟩
    simp[intOf];omega
  have q:Hid (J9 G.terms n=Qs n (G.terms.drop (k+1)) a):=LH (by rw[f.out,hd,Qs,if_neg g]);have v:(t.level != n)=true:=by rw[BN];exact g
  clear g hd f;go_wp2_with fail;go_roundw
  case rel=>exact⟨k+1,a,AA,AF,rfl,l.out.1 _,l.out.2 _,AG,q⟩
  simp[intOf];omega
 obtain rfl:k=n1:=AA
 have m:Hid (J9 G.terms n=decide (a≠0)):=LH (by rw[f.out,List.drop_of_length_le AA];rfl);have u:((a != 0)=true/\a≠0)\/((a != 0)=false/\a=0):=by
  rw[BS,BN];by_cases c:a=0
  ·exact .inr ⟨c,c⟩
  exact .inl ⟨c,c⟩
 rcases u with ⟨d,c⟩ | ⟨d,c⟩;all_goals
  have D:=LH c;clear c;go_wp2_with fail;go_ret;exact⟨by rw[m.out];simp[D.out],r⟩
end
section
open Go.RowKit Go.Maps
theorem rf_all(Ar:Option Addr)(A cr g n:Nat)(ss:List Int)(N:List Bool)(b:Bool)(w:World)(q:Za .i64 w Ar A cr ss)(r:Z8 w g N)(M:N.length=n)(G:n<=1000)(v:∀s∈ss,-(n:Int)<=s/\s<=1000):
 Calls prog 111 #[.slice Ar A cr,.slice (some ⟨g,0,none⟩) n n,.bool b] w λe w'=>e = .returned (.bool (Xj b N ss))/\w=w':=by
 obtain rfl:=q.len;have J:=q.cap;have D:=LH v;have B:=LH r;have m:Hid (Xj b N ss=ss.all λs=>if 0<=s then b else N.getD (Zp s) false):=rfl;clear v r;go_enter func111,ntmps111;go_wp2_with fail;go_loop [7] (λi=>∃(k:Nat),k<=ss.length/\i = .int .i64 (k:Int)/\Hid (∀j,j<k->∀y,ss[j]? = some y->(!(if 0<=y then b else N.getD (Zp y) false))=false)) (λi=>ss.length-(intOf i).toNat)
 case atStart=>exact⟨0,AU _,rfl,LH λj E=>AA⟩
 obtain⟨k,L,rfl,p⟩:=hrel;by_cases F:k<ss.length
 ·obtain⟨I,P,s,rfl,a,c,R⟩:=q.get F;obtain⟨H,S⟩:=D.out s (AL c.out);by_cases h:0<=s
  ·have d:b=false->Xj b N ss=false:=λa=>by rw[m.out];exact Jy c.out (by rw[if_pos h];exact a)
   have f:b=true->(!(if 0<=s then b else N.getD (Zp s) false))=false:=λa=>by rw[if_pos h,a];rfl
   have l:=LH d;have o:=LH f;clear d f;rcases (by cases b <;> simp:b=false\/b=true) with rfl | rfl
   ·go_wp2_with fail;go_ret;exact⟨by rw[l.out (by trivial)];rfl,rfl⟩
   go_wp2_with fail;go_roundw
   case rel=>exact⟨k+1,AA,AF,LH (Vz p.out c.out (o.out (by trivial)))⟩
   simp[intOf];omega
  obtain⟨j,E,u,O⟩:=Vy (s:=s) (n:=n) AA H G;have c0:=B.out.at (i:=j) AA;have d:N.getD j false=false->Xj b N ss=false:=λa=>by rw[m.out];exact Jy c.out (by rw[if_neg h,u];exact a)
  have f:N.getD j false=true->(!(if 0<=s then b else N.getD (Zp s) false))=false:=λa=>by rw[if_neg h,u,a];rfl
  generalize N.getD j false=x at *;have l:=LH d;have o:=LH f;clear d f;rcases (by cases x <;> simp:x=false\/x=true) with rfl | rfl
  ·go_wp2_with fail;go_ret;exact⟨by rw[l.out (by trivial)];rfl,rfl⟩
  go_wp2_with fail;go_roundw
  case rel=>exact⟨k+1,AA,AF,LH (Vz p.out c.out (o.out (by trivial)))⟩
  simp[intOf];omega
 obtain rfl:k=ss.length:=AA
 have t:Xj b N ss=true:=by
  rw[m.out];exact Cv λj y z=>by
   have:=p.out j (AN.1 z).1 y z;simpa using this
 have C:=LH t;clear t;go_wp2_with fail;go_ret;exact⟨by rw[C.out];rfl,rfl⟩
end
section
open Go.Maps (Keyed IsMap Tidy)
theorem Lk{w:World}(h:Calls P f args (w.drewN n) λe w'=>e = .returned v/\w.drewN n=w'):Calls P f args (w.drewN n) λe c=>e = .returned v/\∃m,c=w.drewN m :=
 h.mono λ_ _ ⟨a,b⟩=>⟨a,n,b.symm⟩
theorem mul_row_full(x:Nat)(ys a:List Nat)(i:Nat)(hi:i<=a.length)(f:val a+4294967296 ^ i*(x*val ys)<4294967296 ^ a.length)(d:ys.length<=a.length-i):
 val (Us x ys a i (a.length-i))=val a+4294967296 ^ i*(x*val ys)/\(Us x ys a i (a.length-i)).length=a.length:=by
 have b:=Zs3 x ys (a.drop i) (a.length-i);have g:=Mn a i hi;rw[AQ d,AQ (by rw[DC];exact AI _)] at b;refine⟨?_,Nq _ _ _ _ _ AA⟩;unfold Us;rw[show i+(a.length-i)=a.length from by omega,List.drop_length,DK,Ny,BY,Nat.min_eq_left hi];have e:4294967296 ^ i*val (Vn x ys (a.drop i) (a.length-i)).1+4294967296 ^ a.length*(Vn x ys (a.drop i) (a.length-i)).2=4294967296 ^ i*(x*val ys)+4294967296 ^ i*val (a.drop i):=by
  rw[<-Ee,<-b,Ee];congr 1;rw[<-DV,<-Nat.pow_add,show i+(a.length-i)=a.length from by omega]
 have c:(Vn x ys (a.drop i) (a.length-i)).2=0:=by
  rcases DM (Vn x ys (a.drop i) (a.length-i)).2 with h0 | h0
  ·exact h0
  have:4294967296 ^ a.length*1<=4294967296 ^ a.length*(Vn x ys (a.drop i) (a.length-i)).2:=El _ h0;omega
 rw[c,Nat.mul_zero,DJ] at e;omega
end
section
open Ieee
theorem Uz.drew{a w:World}(h:Uz a w):Uz a w.drew:=h.drewN 1
theorem Za.drew{k:IntKind}{w:World}(h:Za k w A n c a):Za k w.drew A n c a:=h
structure Wr (w0 w:World) (p:Nat) (h:GH) (gs:Int) (Ar:Option Addr) (cr:Nat) (Aw:Option Addr) (cw:Nat) (Ap:Option Addr) (cp:Nat) (st:WSt):Prop where
 blk:Blk w p 167 #[.slice h.a1 h.n1 h.c1,.slice h.a2 h.n2 h.c2,.slice h.a3 h.n3 h.c3,.int .i64 gs,.slice Ar st.rest.length cr,.slice Aw st.word.length cw,.slice Ap st.posts.length cp]
 rest:Za .i64 w0 Ar st.rest.length cr st.rest
 word:w.ownsRow (p+1) 3 1 (.slice Aw st.word.length cw) st.word.length (ints .i64 st.word)
 posts:w.ownsRow (p+1) 3 1 (.slice Ap st.posts.length cp) st.posts.length (ints .i64 st.posts)
 apart:∀b,(Value.slice Aw st.word.length cw).ownBlock=some b->(Value.slice Ap st.posts.length cp).ownBlock=some b->False
def Walked(w0:World)(G:Gr)(q p:Nat)(h:GH)(j:Int)(a:WSt)(non:Int)(w:World)(e:Ending)(w':World):Prop :=
 ∃Ar cr d g c f b,Wr w0 w' p h j Ar cr d g c f b/\Below p w w'/\Less a b /\
  ((Y0 G q a non=none/\e = .returned (.int .i64 0))\/(∃n:Nat,Y0 G q a non=some (b,n)/\0<n/\n<=q/\e = .returned (.int .i64 (n:Int))))
end
section
open Go.Maps (Keyed IsMap Tidy)
open Go.Maps (Keyed IsMap Tidy)
theorem Cel.mono{S S':Nat->Prop}{f:Nat}{X a:World}{j:Bool}{l:Value}(h:Cel S f X v j l)(s:∀q,S q->S' q)(r:∀g t cs,v = .pointer (some ⟨g,0,none⟩)->Blk X g t cs->Blk a g t cs):Cel S' f a v j l:=by
 obtain⟨g,A,n,c,d,e,h1,m,o,p⟩:=h;exact⟨g,A,n,c,d,e,h1,s _ m,r _ _ _ e o,p⟩
end
section
open Go.Maps (Keyed IsMap Tidy)
open Go.Maps (Keyed IsMap Tidy)
variable {W0:World} {k:BkH} {h:GH} {G:Gr} {S':Nat->Prop} {w:World} {gR:Nat} {b:Nat->Bool} {u:Nat->Value} {X:World}
theorem Zu.refl(w:World):Zu w w:=⟨AI _,λ_ _ _=>rfl⟩
end
section
variable {G:Gr}
theorem un_single{H:Gr}{u:List Nat}(h0:s<0)(h:UnL H [s] n r u):∃q,UnT H (Zp s) n q u:=by
 cases h with
 | term h1=>omega
 | @non _ _ n k i q r x c d _ a b u1 u2 =>
   cases u2;rw[DK];exact⟨_,i,x,q,c,a,b,u1,rfl,rfl⟩
end
end Go.Proofs.YtggbjdmpjidhgaaGreatDoor
