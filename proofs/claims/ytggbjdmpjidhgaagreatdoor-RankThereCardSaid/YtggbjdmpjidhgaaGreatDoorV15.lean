/- nullable: the reference's, walked. -/
import Derived.Test.YtggbjdmpjidhgaaGreatDoorV09
import Derived.Test.YtggbjdmpjidhgaaGreatDoorV10
import Derived.Test.YtggbjdmpjidhgaaGreatDoorV11
import Derived.Test.YtggbjdmpjidhgaaGreatDoorV12
set_option linter.all false
set_option maxHeartbeats 1500000
set_option maxRecDepth 100000
namespace Go.Proofs.YtggbjdmpjidhgaaGreatDoor
open Go.RowKit Go.Proofs.Tryz
variable{S:Nat->Prop}{t f l g:Nat}{r:List (Value × Nat)}{p n m o:Option Addr}{s:Int}{ops:Array Oper}{rest:List Oper}{Q:Exit->Act->World->Prop}{d:List ((Nat × Nat × Nat) × Nat)}{w1:World}{v:Value}{ts:List ((Int × Nat) × Nat)}
theorem tr_null1(r:Rul)(Ar:Option Addr)(cr g n:Nat)(N:List Bool)(w:World)(C:Za .i64 w Ar r.right.length cr r.right)(z:Z8 w g N)(L:N.length=n)(M:n<=1000)(O:∀s∈r.right,-(n:Int)<=s/\s<=1000):
 Calls prog 151 #[.agg #[.int .i64 r.left,.slice Ar r.right.length cr,.int .i64 r.prec],.slice (some ⟨g,0,none⟩) n n] w λe w'=>Below w w w'/\∃A m c,e = .returned (.slice A m c)/\Za .i64 w' A m c (Bd r N)/\Apart A g:=by
 have R:g<w.heap.size:=z.lt;have y:=Zy w (.cells #[.int .i64 r.left,.slice Ar r.right.length cr,.int .i64 r.prec] 52);have I:=Fl.new w 52 r.left Ar r.right.length cr r.prec;have D:=all_split N r.right;go_enter func151,ntmps151;have⟨z5,z0,z1,z2⟩:=I;have l:=λw' (q:Below w w w')=>tr_bare r.left Ar cr r.right r.prec w' (C.below q);have d:=λw' (q:Below w w w')=>F7 r.left Ar cr g n r.right r.prec N w' (C.below q) (Blk.ext z q) L M O;generalize (!r.right.any λs=>decide (0<=s))=k at *;generalize (!r.right.any (Cf N))=p at *;have u:Hid (Bd r N=if (k&&p) then [r.left] else []):=LH (by unfold Bd;rw[D]);have F:=LH l;have x:=LH d;clear l d D;go_wp2_with fail;generalize w.alloc (.cells #[.int .i64 r.left,.slice Ar r.right.length cr,.int .i64 r.prec] 52)=H at *;have l:=(F.out H y).mono λe w' a=>And.intro a.1 (And.intro (Jd a.2).1 (LH (Zz y a.2)));have G:=LH l;clear l;(with_reducible refine G.out.mono ?_);rintro e w1⟨rfl,v,f⟩;have E:=(v _ 0 z5).trans z0;have T:=(v _ 1 z5).trans z1;have U:=(v _ 2 z5).trans z2;have J:w.heap.size<w1.heap.size:=by
  rcases BD w w1 with h | h
  ·exact h
  simp[World.cell?,CX h] at E
 rcases (by cases k <;> cases p <;> simp:k=false\/(k=true/\p=false)\/(k=true/\p=true)) with rfl | ⟨rfl,rfl⟩ | ⟨rfl,rfl⟩
 ·go_wp2_with fail;go_ret;exact⟨f.out,none,0,0,rfl,by rw[u.out];exact Za.nil _ _ _ _ AA,λb o h=>by cases h⟩
 ·have d:=(x.out w1 f.out).mono λe w' a=>And.intro a.1 (And.intro (Jd a.2).1 (LH (Zz f.out a.2)));have t:=LH d;clear d;go_wp2_with (go_at_call 108;(with_reducible refine t.out.mono ?_);rintro e P⟨rfl,B,j⟩);go_ret;exact⟨j.out,none,0,0,rfl,by rw[u.out];exact Za.nil _ _ _ _ AA,λb o h=>by cases h⟩
 have d:=(x.out w1 f.out).mono λe w' a=>And.intro a.1 (And.intro (Jd a.2).1 (LH (Zz f.out a.2)));have t:=LH d;clear d;go_wp2_with (go_at_call 108;(with_reducible refine t.out.mono ?_);rintro e P⟨rfl,B,j⟩;have S:=(B _ 0 J).trans E);go_ret;refine⟨j.out.alloc j.out.size _,_,1,1,rfl,by rw[u.out];exact Ztd _ _ _,λb o h=>?_⟩;injection h with h;injection h with h _;have:=j.out.size;omega
theorem tr_prod1(r:Rul)(Ar:Option Addr)(cr g n:Nat)(N:List Bool)(w:World)(D:Za .i64 w Ar r.right.length cr r.right)(p:Z8 w g N)(B:N.length=n)(C:n<=1000)(E:∀s∈r.right,-(n:Int)<=s/\s<=1000):
 Calls prog 168 #[.agg #[.int .i64 r.left,.slice Ar r.right.length cr,.int .i64 r.prec],.slice (some ⟨g,0,none⟩) n n] w λe w'=>Below w w w'/\∃A m c,e = .returned (.slice A m c)/\Za .i64 w' A m c (Bn r N)/\Apart A g:=by
 have F:g<w.heap.size:=p.lt;have l:=Zy w (.cells #[.int .i64 r.left,.slice Ar r.right.length cr,.int .i64 r.prec] 52);have y:=Fl.new w 52 r.left Ar r.right.length cr r.prec;have t:=Zty N r.right;go_enter func168,ntmps168;have⟨z5,z0,z1,z2⟩:=y;have a:=λw' (q:Below w w w')=>F7 r.left Ar cr g n r.right r.prec N w' (D.below q) (Blk.ext p q) B C E;generalize (!r.right.any (Cf N))=f at *;have k:Hid (Bn r N=if f then [r.left] else []):=LH (by unfold Bn;rw[t]);have u:=LH a;clear a t;go_wp2_with fail;generalize w.alloc (.cells #[.int .i64 r.left,.slice Ar r.right.length cr,.int .i64 r.prec] 52)=x at *;have a:=(u.out x l).mono λe w' j=>And.intro j.1 (And.intro (Jd j.2).1 (LH (Zz l j.2)));have v:=LH a;clear a;(with_reducible refine v.out.mono ?_);rintro e G⟨rfl,z,d⟩;have H:=(z _ 0 z5).trans z0;rcases (by cases f <;> simp:f=false\/f=true) with rfl | rfl
 ·go_wp2_with fail;go_ret;exact⟨d.out,none,0,0,rfl,by rw[k.out];exact Za.nil _ _ _ _ AA,λb o h=>by cases h⟩
 go_wp2_with fail;go_ret;refine⟨d.out.alloc d.out.size _,_,1,1,rfl,by rw[k.out];exact Ztd _ _ _,λb o h=>?_⟩;injection h with h;injection h with h _;have:=d.out.size;omega
theorem passN_le{a:List Rul}{N M:List Bool}(h:Le' N M):Le' (Xs (Xo false) a N) (Xs (Xo true) a M):=by
 induction a generalizing N M with
 | nil=>exact h
 | cons r a b=>exact b (growN_le h)
theorem null_prod(G:Gr):∀i,(Zj G).getD i false=true->(Zt G).getD i false=true:=by
 rw[Qe];unfold Zt U5;generalize G.nons.length=n;have:∀k,Le' (Z3 (Xs (Xo false) G.rules) k (List.replicate n false)) (Z3 (Xs (Xo true) G.rules) k (List.replicate n false)):=λk=>by
  induction k with
  | zero=>exact⟨rfl,λ_ h=>h⟩
  | succ k a=>exact passN_le a
 exact (this n).2
theorem Wh(G:Gr):(Yz G).length=G.nons.length:=by unfold Yz;rw[De];simp
theorem Ks(G:Gr):We (Yz G):=Lm _ _ _ (We.zero _)
theorem Lv{S:List Nat}(h:We S):We (Xu S):=by rw[<-Zsf];exact Lo _ _ h _
theorem Au(G:Gr)(l:G.Fits):InS (Yz G):=by
 have m:∀(r:Rul),r∈G.rules->∀(k:Nat) (F:List Nat),(∀i t,(F.getD i 0).testBit t=true->t<G.nons.length)->∀i t,((Um (Zj G) (Zt G) r k F).getD i 0).testBit t=true->t<G.nons.length:=by
  intro r d k F a i t h;unfold Um at h;split at h
  ·exact a i t h
  rename_i s u;split at h
  ·rename_i g;rw[Jo] at h;split at h
   ·rw[DZ,CJ] at h;rcases h with h | h
    ·exact a _ t h
    have x:=l.sym r d s (AL u);unfold Xk at g;simp only[AR,decide_eq_true_eq] at g;obtain⟨j,n⟩:∃j:Nat,-1-s=(j:Int):=⟨(-1-s).toNat,AA⟩;rw[n,Uv,AR,BB,BB] at h;omega
   exact a i t h
  exact a i t h
 have p:∀(r:Rul),r∈G.rules->∀(k:Nat) (F:List Nat),(∀i t,(F.getD i 0).testBit t=true->t<G.nons.length)->∀i t,((Y2 (Zj G) (Zt G) r k F).getD i 0).testBit t=true->t<G.nons.length:=by
  intro r d k F a
  induction k with
  | zero=>exact a
  | succ k f=>rw[Uk];exact m r d k _ f
 have o:∀(b:List Rul),(∀r∈b,r∈G.rules)->∀(F:List Nat),(∀i t,(F.getD i 0).testBit t=true->t<G.nons.length)->∀i t,((Wo (Zj G) (Zt G) b F).getD i 0).testBit t=true->t<G.nons.length:=by
  intro b
  induction b with
  | nil=>exact λ_ F a=>a
  | cons r b f=>exact λh F a=>f (λv q=>h v (BO _ q)) _ (p r (h r (AX ..)) _ F a)
 intro i t h;rw[Wh];refine o G.rules (λ_ h=>h) _ (λi t h=>?_) i t h;rw[AO] at h;rcases BD i G.nons.length with c | c
 ·simp[c] at h
 simp[BE,c] at h
theorem Zz1{G:Gr}(d:G.Fits):(Z5 G).getD G.start.toNat false=true:=by
 have key:∀(k:Nat),(Z3 (Yy (Yp (Zt G)) G.rules) k (Xv G)).getD G.start.toNat false=true:=by
  intro k
  induction k with
  | zero =>
    rw[Z3];unfold Xv;exact (Uh _ _ _).2 (.inr ⟨rfl,by rw[Eh];have:=d.st;omega⟩)
  | succ k a =>
    rw[Z3];have h1:=(Wn (Yp (Zt G)) G.rules);have b:=getD_lt a;generalize Z3 (Yy (Yp (Zt G)) G.rules) k (Xv G)=N at *;have c:N[G.start.toNat]? = some true:=by
     rw[AO,AM b] at a;rw[AM b];exact congrArg some a
    have:=h1.up N _ c;rw[AO,this];rfl
 exact key _
theorem steps_mem{G:Gr}(f:G.Fits){i:Nat}:((Yz G).getD i 0).testBit t=true↔∃r∈G.rules,∃k s,r.right[k]? = some s/\Xk (Zj G) (Zt G) r.right k s=true/\r.left.toNat=i/\Zp s=t:=by
 constructor
 ·intro h;refine Zva (λi t=>∃r∈G.rules,∃k s,r.right[k]? = some s/\Xk (Zj G) (Zt G) r.right k s=true/\r.left.toNat=i/\Zp s=t) (Zj G) (Zt G) G.rules (λr b k s d a=>⟨r,b,k,s,d,a,rfl,rfl⟩) _ (λi t h=>?_) i t h;rw[AO] at h;rcases BD i G.nons.length with c | c
  ·simp[c] at h
  simp[BE,c] at h
 rintro⟨r,b,k,s,d,a,rfl,rfl⟩;have h0:s<0:=by
  unfold Xk at a;simp only[AR,decide_eq_true_eq] at a;exact a.1.1
 have j:=f.sym r b s (AL d);have g:=f.n2;have c:=f.left r b;exact Zxd d a h0 (by unfold Zp;omega) G.rules b (by rw[Eh];omega)
def Zi(G:Gr):Gr:=⟨G.terms,(Ze G).map (Ws G),(Yh G).map (Wb (Ze G)),toI (Ze G) G.start.toNat⟩
theorem Jm{G:Gr}(a:G.Fits)(h:(Zt G).getD G.start.toNat false=true):G.start.toNat∈Ze G:=(N0 a).2 ⟨h,Zz1 a⟩
theorem red_ruleOK{G:Gr}(g:G.Fits){r:Rul}(k:r∈Yh G)(h:G.ruleOK r=true):(Zi G).ruleOK (Wb (Ze G) r)=true:=by
 unfold Gr.ruleOK at h ⊢;simp only[AR,decide_eq_true_eq,BG] at h ⊢;obtain⟨⟨h1,d⟩,f⟩:=h;refine⟨⟨by simp[Wb,h1],d⟩,λp l=>?_⟩;obtain⟨s,c,rfl⟩:=CW.1 l;have a:=f s c;have b:=Qz g k c;unfold Gr.symOK at a ⊢;rw[AR] at a ⊢;by_cases h0:s<0
 ·have n:=(Mk s b).2 h0;have o:=G8 h0 (b h0);have m:=Df (Ze G) (Zp s);refine⟨?_,?_⟩
  ·unfold Gr.has;rw[if_neg AA,BB];show -1-Xd (Ze G) s<(((Ze G).map (Ws G)).length:Int);rw[BF];have:(Zp (Xd (Ze G) s):Int)=-1-Xd (Ze G) s:=by unfold Zp;omega
   omega
  have:decide (0<=Xd (Ze G) s)=false:=by rw[AY];omega
  rw[this];rfl
 have j:Xd (Ze G) s=s:=by unfold Xd;rw[if_neg h0]
 rw[j];refine⟨?_,a.2⟩;have:=a.1;unfold Gr.has at this ⊢;rw[if_pos AA] at this ⊢;exact this
theorem red_lefts(G:Gr)(n:G.Fits)(k:∀r∈Yh G,(Zi G).ruleOK (Wb (Ze G) r)=true):∀(a b:List Rul),a++b=Yh G->
 (Zi G).leftsGo (a.map (Wb (Ze G))) (-1)=some (((Wu a).length:Int)-1):=by
 intro a
 induction a using K3 with
 | h0=>intro b _;simp[Gr.leftsGo,Wu]
 | h1 a r m =>
   intro b f;have h1:=m (r::b) (by rw[<-f];simp);have l:r∈Yh G:=by rw[<-f];simp
   rw[DI,CU,List.map_nil,Gr.leftsGo_snoc,h1,Option.bind_some];have j:Ze G=Wu ((a++[r])++b):=by unfold Ze;rw[f]
   have g:r.left.toNat∈Wu (a++[r]):=Ka.2 ⟨r,AE,rfl⟩;have c:(Wb (Ze G) r).left=toI (Wu (a++[r])) r.left.toNat:=by
    show toI (Ze G) r.left.toNat=_;rw[j,toI_part g]
   rw[if_pos]
   ·rw[c,Vs];unfold N3;split
    ·rename_i hi;have:=Df (Wu a) r.left.toNat
     rw[BM];omega
    rename_i hi;have d:(Wu a++[r.left.toNat]).Nodup:=by
     have:=Nh (a++[r]);rw[Vs] at this;unfold N3 at this;rwa [if_neg hi] at this
    rw[toI_app d,BM];simp only[AS,CV];omega
   refine⟨?_,?_,k r l⟩
   ·rw[c];have:¬toI (Wu (a++[r])) r.left.toNat<0:=λh=>Bx.1 h g;omega
   rw[c,Vs];unfold N3;split
   ·have:=Df (Wu a) r.left.toNat
    omega
   rename_i hi;have d:(Wu a++[r.left.toNat]).Nodup:=by
    have:=Nh (a++[r]);rw[Vs] at this;unfold N3 at this;rwa [if_neg hi] at this
   rw[toI_app d];omega
theorem Ju{G:Gr}(h:G.right=true)(L:(Zt G).getD G.start.toNat false=true):(Zi G).right=true:=by
 have a:=Gr.fits h;obtain⟨h1,g,A,R,B⟩:=Nd.1 h;have v:=Jm a L;obtain⟨k,S,T,U⟩:=toI_mem (Ub G) v;have V:=Zu7 a;have W:=a.n2;have O:=(G.lefts_all _ _ _ B).2;have J:∀r∈Yh G,(Zi G).ruleOK (Wb (Ze G) r)=true:=λr u=>red_ruleOK a u (O r (Fq.1 u).1).2.2;have m:(Zi G).nons.length=(Ze G).length:=by show ((Ze G).map (Ws G)).length=_;rw[BF]
 obtain⟨X,N,_⟩:=Ka.1 v;refine Nd.2 ⟨(terms_same (G:=G) (H:=Zi G) rfl).trans h1,?_,⟨?_,?_⟩,⟨?_,?_⟩,?_⟩
 ·unfold Gr.nonsOK;rw[AR,BB,m];refine⟨AA,Kc λj s P=>?_⟩;obtain⟨i,hi,rfl⟩:∃i,(Ze G)[j]? = some i/\Ws G i=s:=by
   have:((Ze G).map (Ws G))[j]? = some s:=P;rw[BA] at this;cases o:(Ze G)[j]? with
   | none=>rw[o] at this;cases this
   | some i=>rw[o] at this;exact⟨i,rfl,by simpa using this⟩
  have F:=use_lt ((N0 a).1 (AL hi));unfold Gr.nonsOK at g;rw[AR] at g;have I:∀q,q<G.nons.length->G.nons[q]? = some (Ws G q):=λq d=>by
   unfold Ws;rw[AM d];rfl
  have p:=λq d=>Bj g.2 (I q d);have b:=p i F;unfold Gr.nonOK at b ⊢;simp only[AR,decide_eq_true_eq] at b ⊢;refine⟨⟨b.1.1,?_⟩,b.2⟩;show Y8 (λt=>decide (t=Ws G i)) ((Ze G).map (Ws G))=(j:Int);refine Q4 (x:=Ws G i) (by rw[BA,hi];rfl) AE λq d y c=>?_;rw[BA] at c;cases f:(Ze G)[q]? with
  | none=>rw[f] at c;cases c
  | some n =>
    rw[f] at c;have:Ws G n=y:=by simpa using c
    subst this;rw[AY];intro E;have M:=use_lt ((N0 a).1 (AL f));have l:=p n M;unfold Gr.nonOK at l;simp only[AR,decide_eq_true_eq] at l;have C:=l.1.2;rw[E,b.1.2] at C;have D:i=n:=AA
    have:=Fc (Ub G) hi;have z:=Fc (Ub G) f;rw[<-D] at z;omega
 ·show 1<=((Yh G).map (Wb (Ze G))).length;rw[BF];exact List.length_pos_of_mem N
 ·show ((Yh G).map (Wb (Ze G))).length<=40;rw[BF];exact BC (List.length_filter_le _ _) A.2
 ·show 0<=toI (Ze G) G.start.toNat
  omega
 ·rw[m];show toI (Ze G) G.start.toNat<_;omega
 rw[m];have:=red_lefts G a J (Yh G) [] AE;exact this
theorem Gc(G:Gr)(i:Nat):(Xu (Yz G)).getD i 0<4294967296:=(Lv (Ks G)).get i
theorem Zv8{G:Gr}(c:Xq G){i:Nat}(hi:i<G.nons.length)(h:((Yz G).getD i 0).testBit t=true):(Xu (Yz G)).getD t 0<(Xu (Yz G)).getD i 0:=by
 have b:=Au G c.fits i t h;have j:t<G.nons.length:=by rw[Wh] at b;exact b
 have d:i<(Yz G).length:=by rw[Wh];exact hi
 have h1:Yw (Yz G) i t=true:=Ha d h;have a:=c.none t j;have k:(Xu (Yz G)).getD t 0<=(Xu (Yz G)).getD i 0:=Zyd λq g=>Lh d b h g;have l:(Xu (Yz G)).getD t 0≠(Xu (Yz G)).getD i 0:=λf=>by
  unfold Yw at h1 a;rw[f,h1] at a;cases a
 omega
theorem D2{G:Gr}(c:Xq G){r:Rul}(f:r∈G.rules){p:Nat}(h:r.right[p]? = some s)(h0:s<0)(d:∀(q:Nat) s',q≠p->r.right[q]? = some s'->Xg (Zj G) s'=true):
 ((Yz G).getD r.left.toNat 0).testBit (Zp s)=true:=by
 refine (steps_mem c.fits).2 ⟨r,f,p,s,h,?_,rfl,rfl⟩;unfold Xk J6;simp only[AR,decide_eq_true_eq,BG];refine⟨⟨h0,λq b=>?_,λq b=>?_⟩,U8.2 λq b=>⟨λ_=>rfl,λk=>?_⟩⟩
 ·obtain⟨j,a⟩:=BU b;have g:=(AN.1 a).1;rw[BY] at g;rw[List.getElem?_take_of_lt AA] at a;exact d j q AA a
 ·obtain⟨j,a⟩:=BU b;rw[Ea] at a;exact d (p+1+j) q AA a
 have:=c.fits.sym r f q b;exact c.prod _ (by unfold Zp;omega)
theorem tree_stable{G:Gr}(c:Xq G):∀(m n:Nat) (s:Int),s<0->Zp s<G.nons.length->mu G n s=m->∀f o,m<f->m<o->Qw G f s n=Qw G o s n:=by
 intro m
 induction m using Nat.strongRecOn with
 | ind m F =>
   intro n s h0 I z f o N O;obtain⟨g,rfl⟩:∃g,f=g+1:=⟨f-1,AA⟩;obtain⟨a,rfl⟩:∃a,o=a+1:=⟨o-1,AA⟩;rw[Fg G g h0,Fg G a h0];refine Lu λr D L=>?_;have C:∀q∈r.right,q<0->Zp q<G.nons.length:=λq t l=>by
    have:=c.fits.sym r D q t;unfold Zp;omega
   have M:∀q∈r.right,∀k,k<n->Qw G g q k=Qw G a q k:=λq t k H=>by
    by_cases l:0<=q
    ·rw[Un G g l,Un G a l]
    have h1:=Gc G (Zp q);have:mu G k q<m:=by unfold mu at z ⊢;omega
    exact F _ this k q AA (C q t AA) rfl g a AA AA
   have top:∀(p:Nat) q,r.right[p]? = some q->(∀(j:Nat) b,j≠p->r.right[j]? = some b->Xg (Zj G) b=true)->Qw G g q n=Qw G a q n:=λp q d x=>by
    by_cases l:0<=q
    ·rw[Un G g l,Un G a l]
    have E:=D2 c D d AA x;rw[L] at E;have hd:=Zv8 c I E;have:mu G n q<m:=by unfold mu at z ⊢;omega
    exact F _ this n q AA (C q (AL d) AA) rfl g a AA AA
   by_cases B:n=0
   ·subst B;by_cases y:(∃q∈r.right,Qw G g q 0=0)/\∃q∈r.right,Qw G a q 0=0
    ·rw[Uf.2 y.1,Uf.2 y.2]
    refine Wp λq t k H=>?_;obtain rfl:k=0:=AA
    obtain⟨p,d⟩:=BU t;refine top p q d λj b _ v=>?_;have A:=AL v;by_cases h1:∃q∈r.right,Qw G g q 0=0
    ·refine Ms c.fits a λu=>y ⟨h1,b,A,u⟩
    exact Ms c.fits g λu=>h1 ⟨b,A,u⟩
   refine Zzb M (λp q d x=>top p q d λj b v J=>Ms c.fits g (x j b v J)) λh=>absurd h B
theorem mu_lt(G:Gr)(n:Nat)(s:Int)(a:n*4294967296+4294967296<=f):mu G n s<f:=by
 have:=Gc G (Zp s);unfold mu;omega
theorem treeN_fuel{G:Gr}(a:Xq G){n:Nat}(c:s<0->Zp s<G.nons.length)(b:n*4294967296+4294967296<=f):Qw G f s n=Zv G s n:=by
 unfold Zv;by_cases h0:0<=s
 ·rw[Un G _ h0,Un G _ h0]
 exact tree_stable a _ n s AA (c AA) rfl _ _ (mu_lt G n s b) (mu_lt G n s (fuelN_le n))
theorem Uu{G:Gr}(a:Xq G)(h0:s<0)(l:Zp s<G.nons.length)(n:Nat):Zv G s n=Yc (Zv G) G.rules (Zp s) n:=by
 obtain⟨f,b,c⟩:=fuelN_succ n;have e:Zv G s n=Qw G (f+1) s n:=by unfold Zv;rw[b]
 rw[e,Fg G f h0];refine Lu λr j o=>Wp λq h k d=>?_;have g:q<0->Zp q<G.nons.length:=λm=>by
  have:=a.fits.sym r j q h;unfold Zp;omega
 exact treeN_fuel a g (BC (Nat.add_le_add_right (Eu _ d) _) c)
theorem Zvg{G:Gr}(b:Xq G){r:Rul}(d:r∈G.rules){a:Nat}{q:Int}(l:r.right[a]? = some q)(o:q<0){n m k:Nat}(z:m<=n)(j:m=n->∀(p:Nat) s,p<a->r.right[p]? = some s->Xg (Zj G) s=true)(x:k+Uy (Zj G) (r.right.drop (a+1))<=m)(t:Zp s=r.left.toNat):mu G k q<mu G n s:=by
 have h1:=Gc G (Zp q);have y:=b.fits.left r d;unfold mu;rcases BD k n with h | h
 ·omega
 obtain rfl:k=n:=AA
 obtain rfl:m=k:=AA
 have v:Uy (Zj G) (r.right.drop (a+1))=0:=AA
 have u:=D2 b d l o λp g A f=>by
  rcases BD p a with c | c
  ·exact j rfl p g c f
  refine low_zero v g (AL (i:=p-(a+1)) ?_);rw[Ea,show a+1+(p-(a+1))=p by omega];exact f
 have:=Zv8 b (i:=r.left.toNat) AA u;rw[t];omega
theorem tr_one(n:Int)(w:World):Calls prog 90 #[.int .i64 n] w λe w'=>e = .returned (.int .u32 ((Y6 n:Nat):Int))/\Below w w w':=by
 have b:=Zy w (.cells #[.int .i64 n] 3);have a:=set_of (some ⟨w,0,none⟩) 1 1 [n] (w.alloc (.cells #[.int .i64 n] 3)) (Ztd w 3 n);rw[ofN_one] at a;have c:=LH a;have d:=LH b;clear a b;go_enter func90,ntmps90;go_wp2_with (go_at_call 149;(with_reducible refine c.out.mono ?_);rintro e w'⟨rfl,rfl⟩);go_ret;exact⟨rfl,d.out⟩
theorem Db(G:Gr):(Zi G).terms=G.terms:=rfl
theorem Fh:Zi Xt=Xt:=AB
theorem Fu(G:Gr):(Zi G).rules.length=(ksN G G.rules.length).length:=by
 have h1:=(Mh G G.rules.length (AI _)).1;rw[Jp] at h1;rw[h1];simp[Zi]
section
open Go.RowKit Go.Shelf
attribute [local go_sem] Oper.semAt_some
open Go.RowKit Go.Shelf Go.Sort
theorem rf_terms(h:GH)(G:Gr)(w:World)(R:Yf w h G):
 Calls prog 64 #[GV h G.start] w λe w'=>e = .returned (.bool G.termsOK)/\Below w w w':=by
 obtain⟨a1,n1,c1,a2,n2,c2,a3,n3,c3⟩:=h;have ht:N8 w a1 n1 c1 G.terms:=R.terms;have hl:G.terms.length=n1:=ht.len;have bw:=ht.cap;have V:Hid (G.termsOK=(decide (n1<=24)&&Cg G.termOK G.terms)):=LH (by unfold Gr.termsOK;rw[hl]);by_cases h1:n1<=24
 case neg =>
  have X:Hid (G.termsOK=false):=LH (by rw[V.out];simp;omega);have d1:decide ((24:Int)<(n1:Int))=true:=AG
  clear R h1;go_enter func64,ntmps64;go_wp2_with fail;go_ret;exact⟨by rw[X.out];rfl,Zy _ _⟩
 have W:Hid (G.termsOK=Cg G.termOK G.terms):=LH (by rw[V.out];simp;omega);have d1:decide ((24:Int)<(n1:Int))=false:=AG
 have Hg:=LH R;clear V R;go_enter func64,ntmps64;have ay:=Y1.new w 26 ⟨a1,n1,c1,a2,n2,c2,a3,n3,c3⟩ G.start;go_wp2_with fail;go_loopw [3,4,5] (λi t n wr=>∃(k:Nat),k<=n1/\i = .int .i64 (k:Int)/\Below w w wr/\Y1 wr w ⟨a1,n1,c1,a2,n2,c2,a3,n3,c3⟩ G.start/\Hid (∀j,j<k->∀y,G.terms[j]? = some y->(!G.termOK j y)=false)) (λi _ _ _=>n1-(intOf i).toNat)
 case atStart=>exact⟨0,AU _,rfl,Zy _ _,ay,LH λj S=>AA⟩
 clear ay;obtain⟨v,rfl⟩:∃v:World,v=wr:=⟨_,rfl⟩;obtain⟨k,hk,rfl,hB,ad,Hk⟩:=hrel;have⟨z5,z0,z1,z2,z3⟩:=ad;simp only[] at z0 z1 z2 z3;by_cases az:k<n1
 ·obtain⟨b,T,t,rfl,hb,Y,q0,q1,q2⟩:=ht.get az;rw[<-hB.cell (by exact hb)] at q0 q1 q2;have J:=hB.alloc (DP z5) (.cells #[.string t.name,.int .i64 t.level,.int .i64 t.assoc] 91);have ai:=ad.below (Zy v (.cells #[.string t.name,.int .i64 t.level,.int .i64 t.assoc] 91));have p0:=Wg v 91 #[.string t.name,.int .i64 t.level,.int .i64 t.assoc] 0;have p1:=Wg v 91 #[.string t.name,.int .i64 t.level,.int .i64 t.assoc] 1;have p2:=Wg v 91 #[.string t.name,.int .i64 t.level,.int .i64 t.assoc] 2;have p5:=Zl v (.cells #[.string t.name,.int .i64 t.level,.int .i64 t.assoc] 91);simp only[DT,List.getElem?_cons_zero,List.getElem?_cons_succ] at p0 p1 p2;go_wp2_with fail;generalize v.alloc (.cells #[.string t.name,.int .i64 t.level,.int .i64 t.assoc] 91)=q at *;have af:=Hg.out.below J;have a0:v.heap.size<q.heap.size:=AA
  clear p5 q0 q1 q2 z0 z1 z2 z3 ad;generalize v.heap.size=gt at *;have⟨z5',z0,z1,z2,z3⟩:=ai;simp only[] at z0 z1 z2 z3;have cN:=Zxg t.name q;have N:=λhh=>C6 ⟨some ⟨b,T,none⟩,n1,c1,a2,n2,c2,a3,n3,c3⟩ G t.name q af hh;have N:=N (by simp only[];omega);have ae:G.termOK k t=(decide (G.term t.name=(k:Int))&&Up t&&Nc G.terms t):=rfl;unfold Up at ae;have an:=LH ae;clear ae;generalize Q7 t.name=s at *;generalize G.term t.name=u at *;have C:=LH cN;have CT:=LH N;clear cN N;have br:(s=false\/(s=true/\u≠k)\/(s=true/\u=k/\t.level<0)\/(s=true/\u=k/\0<=t.level/\24<t.level)\/(s=true/\u=k/\0<=t.level/\t.level<=24/\t.assoc<0)\/(s=true/\u=k/\0<=t.level/\t.level<=24/\0<=t.assoc/\3<t.assoc) \/
   (s=true/\u=k/\0<=t.level/\t.level<=24/\0<=t.assoc/\t.assoc<=3/\t.level=0/\t.assoc≠0)\/(s=true/\u=k/\0<=t.level/\t.level<=24/\0<=t.assoc/\t.assoc<=3/\t.level≠0/\t.assoc=0)) \/
   (s=true/\u=k/\0<=t.level/\t.level<=24/\0<=t.assoc/\t.assoc<=3/\(t.level=0/\t.assoc=0\/t.level≠0/\t.assoc≠0)):=by
   cases s
   ·simp
   simp only[Bool.true_eq_false,false_or,true_and];omega
  rcases br with ax | bq
  ·have A:Hid (G.termsOK=false):=LH (by
    rw[W.out];refine Lp Y.out ?_;rw[an.out];rcases ax with rfl | ⟨rfl,g⟩ | ⟨rfl,g,c⟩ | ⟨rfl,g,c,r⟩ | ⟨rfl,g,c,r,x⟩ | ⟨rfl,g,c,r,x,B⟩ | ⟨rfl,g,c,r,x,B,a,f⟩ | ⟨rfl,g,c,r,x,B,a,f⟩
    ·simp
    ·simp[g]
    ·simp;omega
    ·simp;omega
    ·simp;omega
    ·simp;omega
    ·simp[a,f]
    simp[a,f])
   have E:=LH J;clear J;have D:Hid (Calls prog 117 #[GV ⟨some ⟨b,T,none⟩,n1,c1,a2,n2,c2,a3,n3,c3⟩ G.start,.string t.name] q λe w'=>e = .returned (.int .i64 u)/\(∀b o,b<q.heap.size->w'.cell? ⟨b,o,none⟩=q.cell? ⟨b,o,none⟩)/\Hid (Below w w w')):=CT.out.mono λe w' h=>⟨h.1,(Jd h.2).1,LH (E.out.trans (h.2.mono E.out.size))⟩;clear CT hk az;rcases ax with rfl | ⟨rfl,g⟩ | ⟨rfl,rfl,c⟩ | ⟨rfl,rfl,c,r⟩ | ⟨rfl,rfl,c,r,x⟩ | ⟨rfl,rfl,c,r,x,B⟩ | ⟨rfl,rfl,c,r,x,B,a,f⟩ | ⟨rfl,rfl,c,r,x,B,a,f⟩
   ·go_wp2_with (go_at_call 116;(with_reducible refine C.out.mono ?_);rintro e M⟨rfl,rfl⟩);go_ret;exact⟨by rw[A.out];rfl,E.out⟩
   ·have d:(u != (k:Int))=true:=by rw[BN];exact g
    clear g;go_wp2_with (first
     | (go_at_call 116;(with_reducible refine C.out.mono ?_);rintro e M⟨rfl,rfl⟩)
     | (go_at_call 117;(with_reducible refine D.out.mono ?_);rintro e z⟨rfl,H,p⟩))
    go_ret;exact⟨by rw[A.out];rfl,p.out⟩
   iterate 4
    ·go_wp2_with (first
     | (go_at_call 116;(with_reducible refine C.out.mono ?_);rintro e M⟨rfl,rfl⟩)
     | (go_at_call 117;(with_reducible refine D.out.mono ?_);rintro e z⟨rfl,H,p⟩))
     go_ret;exact⟨by rw[A.out];rfl,p.out⟩
   ·have Z:(t.level==0)=true:=by rw[BP];exact a
    have e2:(t.assoc==0)=false:=by rw[AP];exact f
    clear a f;go_wp2_with (first
     | (go_at_call 116;(with_reducible refine C.out.mono ?_);rintro e M⟨rfl,rfl⟩)
     | (go_at_call 117;(with_reducible refine D.out.mono ?_);rintro e z⟨rfl,H,p⟩))
    go_ret;exact⟨by rw[A.out];rfl,p.out⟩
   have Z:(t.level==0)=false:=by rw[AP];exact a
   have e2:(t.assoc==0)=true:=by rw[BP];exact f
   clear a f;go_wp2_with (first
    | (go_at_call 116;(with_reducible refine C.out.mono ?_);rintro e M⟨rfl,rfl⟩)
    | (go_at_call 117;(with_reducible refine D.out.mono ?_);rintro e z⟨rfl,H,p⟩))
   go_ret;exact⟨by rw[A.out];rfl,p.out⟩
  obtain⟨rfl,rfl,c,r,x,B,a⟩:=bq;have E:=LH J;have bv:=LH af;have bd:=LH ai;have D:Hid (Calls prog 117 #[GV ⟨some ⟨b,T,none⟩,n1,c1,a2,n2,c2,a3,n3,c3⟩ G.start,.string t.name] q λe w'=>e = .returned (.int .i64 (k:Int))/\(∀b o,b<q.heap.size->w'.cell? ⟨b,o,none⟩=q.cell? ⟨b,o,none⟩)/\Hid (Below q q w')):=CT.out.mono λe w' h=>⟨h.1,(Jd h.2).1,LH h.2⟩;have ar:Hid (G.termOK k t=Nc G.terms t):=LH (by
   rw[an.out];rcases a with ⟨a,f⟩ | ⟨a,f⟩
   ·simp[a,f]
   have h9:0<=t.level/\t.level<=24/\0<=t.assoc/\t.assoc<=3:=⟨c,r,x,B⟩;simp[a,f,h9])
  have bk:((t.level==0)=true/\(t.assoc==0)=true)\/((t.level==0)=false/\(t.assoc==0)=false):=by
   rw[BP,BP,AP,AP];exact a
  clear CT J af ai a;rcases bk with ⟨Z,e2⟩ | ⟨Z,e2⟩;all_goals
   go_wp2_with (first
    | (go_at_call 116;(with_reducible refine C.out.mono ?_);rintro e M⟨rfl,rfl⟩)
    | (go_at_call 117;(with_reducible refine D.out.mono ?_);rintro e z⟨rfl,H,p⟩))
   have aw:=E.out.trans (p.out.mono E.out.size);have a4:=bd.out.below p.out;have r1:z.cell? ⟨gt,1,none⟩=some (.int .i64 t.level):=by rw[H _ _ a0];exact p1
   have bo:gt<z.heap.size:=AJ a0 p.out.size;have be:=LH a4;clear H p p0 p1 p2 z0 z1 z2 z3 a4;go_loopw [5] (λn wr=>∃m:Nat,(m:Int)<=t.level/\n = .int .i64 ((m:Int)+1)/\Below z z wr/\Hid (∀j:Nat,j<m->J9 G.terms ((j:Int)+1)=true)) (λn _=>t.level.toNat+1-(intOf n).toNat)
   case atStart=>exact⟨0,c,rfl,AK _ _,LH λj S=>AA⟩
   obtain⟨m,hm,rfl,L,Hm⟩:=hrel;rw[<-L.cell (by exact bo)] at r1;have aj:=be.out.below L;have⟨z5',z0,z1,z2,z3⟩:=aj;simp only[] at z0 z1 z2 z3;have O:=aw.trans (L.mono aw.size);have ag:=Hg.out.below O;have am:=LH O;have bf:=LH aj;have bp:w.heap.size<=wr.heap.size:=O.size;have al:=LH L;clear O aj L;by_cases bz:(m:Int)+1<=t.level
   ·have F:=rf_level ⟨some ⟨b,T,none⟩,n1,c1,a2,n2,c2,a3,n3,c3⟩ G ((m:Int)+1) wr ag (by simp only[];omega);cases I:J9 G.terms ((m:Int)+1)
    ·have A:Hid (G.termsOK=false):=LH (by
      rw[W.out];refine Lp Y.out ?_;rw[ar.out];exact Jy (l:=List.range t.level.toNat) (j:=m) (y:=m) (by rw[List.getElem?_range];omega) I)
     rw[I] at F;have U:=LH F;clear F I ag;go_wp2_with (go_at_call 118;(with_reducible refine U.out.mono ?_);rintro e w6⟨rfl,P⟩);go_ret;exact⟨by rw[A.out];rfl,am.out.trans (P.mono bp)⟩
    rw[I] at F;have U:=LH F;have bb:=LH I;clear F I ag;go_wp2_with (go_at_call 118;(with_reducible refine U.out.mono ?_);rintro e w6⟨rfl,P⟩);have ba:=LH (al.out.trans (P.mono al.out.size));clear P;go_roundw
    case rel=>exact⟨m+1,AA,AF,ba.out,LH λj S=>by
     rcases BD j m with h | h
     ·exact Hm.out j h
     obtain rfl:j=m:=AA
     exact bb.out⟩
    simp[intOf];omega
   have bc:Hid ((!G.termOK k t)=false):=LH (by
    rw[ar.out];have:Nc G.terms t=true:=by
     unfold Nc;rw[BG];intro j S;rw[BQ] at S;exact Hm.out j AA
    rw[this];rfl)
   go_wp2_with fail;go_roundw
   case rel=>exact⟨k+1,AA,AF,am.out,bf.out,LH (Lr Hk.out Y.out bc.out)⟩
   simp[intOf];omega
 obtain rfl:k=n1:=AA
 have X:Hid (G.termsOK=true):=LH (by
  rw[W.out];refine Kc λj y hy=>?_;have:=Hk.out j (by have:=(AN.1 hy).1;omega) y hy;simpa using this)
 go_wp2_with fail;go_ret;exact⟨by rw[X.out];rfl,hB⟩
end
section
variable {G:Gr}
theorem Zsw:(Zi G).nons.length=(Ze G).length:=by show ((Ze G).map (Ws G)).length=_;rw[BF]
theorem Zs8{a:Rul}:a∈(Zi G).rules↔∃r∈Yh G,Wb (Ze G) r=a:=CW
theorem Zuo(a:G.Fits)(b:(Zt G).getD G.start.toNat false=true):(Zi G).start.toNat=sig G G.start.toNat:=rfl
theorem cyc_bit(b:G.Fits)(i:Nat):(cycS (Yz G)).testBit i=true↔i<G.nons.length/\Yw (Yz G) i i=true:=by
 unfold cycS;rw[J3,Wh];simp only[AR,decide_eq_true_eq];have:=b.n2;constructor
 ·rintro⟨_,h1,a⟩;exact⟨h1,a⟩
 rintro⟨h1,a⟩;exact⟨AA,h1,a⟩
theorem kept_at(f:G.Fits){j:Nat}{r:Rul}(b:G.rules[j]? = some r)(a:r∈Yh G):∃k,Yr G k=j/\(Zi G).rules[k]? = some (Wb (Ze G) r):=by
 have d:j∈ksN G G.rules.length:=by
  unfold ksN;rw[List.mem_filter];refine⟨BQ.2 (AN.1 b).1,?_⟩;unfold Zv5;rw[b];unfold Yh at a;exact (List.mem_filter.1 a).2
 obtain⟨k,a⟩:=BU d;obtain⟨g,h1,c⟩:=(Mh G G.rules.length (AI _)).2 k j a;rw[b] at h1;obtain rfl:=BI h1;rw[Jp] at c;refine⟨k,by unfold Yr;rw[AO,a];rfl,?_⟩;show ((Yh G).map (Wb (Ze G)))[k]? = _;rw[BA,c];rfl
end
theorem plain_of{G:Gr}(c:G.right=true)(d:∀i,i<G.nons.length->(Qm G).testBit i=true)(a:Vh G=0):Xq G/\endG G=false:=by
 have b:=Gr.fits c;refine⟨⟨b,λi hi=>((Gl G b i).1 (d i hi)).1,λi hi=>?_⟩,?_⟩
 ·cases f:Yw (Yz G) i i
  ·rfl
  have:=(cyc_bit b i).2 ⟨hi,f⟩;unfold Vh at a;rw[if_pos c] at a;rw[a,Nat.zero_testBit] at this;cases this
 unfold endG;rw[a,Nat.zero_and];rfl
section
variable {P:Program} {w:World}
theorem Zz6{o:Oper}{a:Act}(q:o.guard=none)(s x:Operand)(t:TypeId)(r:o.op = .call { callee := .builtin .append,args:=#[s,x],argTypes:=#[t,t] })(base:Nat)(e:TypeId)(z:Value)(size bytes:Nat)(y:P.underlying t=some (.slice e))(hi:(P.info? e).map (λi=>(i.zero,i.size,i.bytes))=some (some z,size,bytes))(O:z.cells.size=size)(N:0<size)(A:Option Addr)(n c:Nat)(xs:List Value)(v:a.eval s = .slice A n c)(p:w.ownsRow base e size (.slice A n c) n xs)(g:Option Addr)(m c2:Nat)(d:List Value)(J:d.length=m*size)(B:a.eval x = .slice g m c2)(h0:g=none->m=0)(H:∀f,g=some f->∀j u,d[j]? = some u->w.cell? (f.add j)=some u)(h1:∀u∈d,u.oneCell'=true)(C:n+m<=9223372036854775807)(G:(n+m)*bytes<=140737488355328)(F:base<=w.heap.size)(h:∀k l w',w'.ownsRow base e size (.slice k (n+m) l) (n+m) (xs++d)->w.grownBy w' (Value.slice A n c).ownBlock->(∀b,(Value.slice k (n+m) l).ownBlock=some b->b<w.heap.size->(Value.slice A n c).ownBlock=some b)->
   wpList P ops Q rest (a.put o.dst (.slice k (n+m) l)) w'):wpList P ops Q (o::rest) a w:=by
 rcases g with _ | f
 ·obtain rfl:=h0 rfl;have L:d=[]:=BL AA;subst L;obtain⟨i,I,T,S,R⟩:=info_parts hi;have M:=run_append_nilS (P:=P) base size t o.type e i y I A n c xs p c2;refine wpList_plain q λK D=>?_;unfold Oper.wp execOp;simp only[r,resolve,invoke,builtin,Sem.run_bind,Sem.run_pure,Result.andThen_ok,List.map_toArray,CU,List.map_nil,v,B,M];exact D _ _ (h A c w (by simpa using p) (World.grownBy.refl _ _) λb E _=>E)
 exact Zzi q s x t r base e z size bytes y hi O N A n c xs v p f m c2 d J B (H f rfl) h1 C G F h
end
section
open Go.Maps (Keyed IsMap Tidy)
theorem Zvz(a:List Nat)(i:Nat):Zys (a++[i])=(Zys a).put (Dc i) (.lit (.int .i64 (a.length:Int))):=by
 unfold Zys;rw[List.reverse_append,List.reverse_singleton,List.singleton_append];show (numR a.reverse).put (Dc i) (.lit (.int .i64 (a.reverse.length:Int)))=_;rw[List.length_reverse]
theorem D8:∀r:List Nat,IsMap (numR r)
 | []=>Maps.isMap_empty
 | i::r=>(D8 r).put _ _
theorem Zsm(i:Nat):∀r:List Nat,Maps.has (numR r) (Dc i)=decide (i∈r)
 | []=>by simp[numR,Maps.has_eq]
 | j::r=>by
   show Maps.has ((numR r).put (Dc j) _) (Dc i)=_;by_cases h:i=j
   ·subst h;rw[Maps.has_put_same (D8 r) (Zt4 i)];simp
   rw[Maps.has_put_other (nKey_ne h),Zsm i r];simp[h]
theorem Zt6(a:List Nat)(i:Nat):Maps.has (Zys a) (Dc i)=decide (i∈a):=by
 unfold Zys;rw[Zsm];simp
theorem at_numD(z:DataW Unit)(i:Nat):∀a:List Nat,a.Nodup->i∈a->(Zys a).atKey (Dc i) z = .lit (.int .i64 (toI a i)):=by
 intro a
 induction a using K3 with
 | h0=>intro _ h;cases h
 | h1 o j k =>
   intro d c;rw[Zvz];rw[List.nodup_append] at d;obtain⟨f,_,g⟩:=d;have b:j∉o:=λh=>g j h j AE rfl;by_cases h:i=j
   ·subst h;rw[Maps.atKey_put_same (by unfold Zys;exact D8 _) (Zt4 i),Zsp b]
   rw[Maps.atKey_put_other (nKey_ne h),toI_more b h];refine k f ?_;rw[DH,BV] at c;exact c.resolve_right h
theorem Dm.number{d:World}{a:Nat}{s:Value}{G:Gr}{w:World}{o:Nat}{p:Nat}{q c:List Nat}(r:Dm d f a s G w m o n p q c)(x:a<d.heap.size)(y:f<d.heap.size)(t:a≠f)(z:l∉c)(v:w1.ownsMap prog 3 (plainElem (H:=Unit) prog 3) a (c.length+1) ((Zys c).put (Dc l) (.lit (.int .i64 (c.length:Int)))))(u:w.grownBy w1 (some a)):
 Zvs d f a s G w1 m o n p q c l:=by
 have g:=Off.of_grown u;refine⟨r.off.trans g λk _ h=>?_,?_,g.blk r.out λh=>?_,g.row r.kept λb j h=>?_,g.row r.nons λb j h=>?_⟩
 ·injection h with h;exact .inl h.symm
 ·unfold NumM;rw[Zvz,AS,CV];exact v
 ·injection h with h;exact t h
 ·injection h with h;have:=(r.kept.lt b j).1;omega
 injection h with h;have:=(r.nons.lt b j).1;omega
theorem Zvs.name{d:World}{y:Value}{G:Gr}{w:World}{q:Nat}{s:Nat}{u a:List Nat}(r:Zvs d g f y G w o q p s u a l)(E:f<d.heap.size)(F:g<d.heap.size)(A:f≠g)(j:Option Addr)(m:Nat)(x:w1.ownsRow d 9 1 (.slice j (a.length+1) m) (a.length+1) ((a.map λi=>Value.string (Ws G i))++[.string (Ws G l)]))(C:w.grownBy w1 (Value.slice p a.length s).ownBlock):
 Dm d g f y G (w1.setCell ⟨g,1,none⟩ (.slice j (a.length+1) m)) o q j m u (a++[l]):=by
 have n:=Off.of_grown C;have t:=Off.of_set w1 g 1 (.slice j (a.length+1) m);have v:∀b,(Value.slice p a.length s).ownBlock=some b->d.heap.size<=b:=λb c=>(r.nons.lt b c).1;have D:∀b,(Value.slice o u.length q).ownBlock=some b->d.heap.size<=b:=λb c=>(r.kept.lt b c).1;have B:∀b,(Value.slice o u.length q).ownBlock=some b->(Value.slice p a.length s).ownBlock=some b->False:=λb h1 z=>Fe r.kept r.nons AC h1 z;refine⟨(r.off.trans n λk H h=>?_).trans t λk _ h => .inr h,(r.num.block (n.keep f r.num.lt λh=>?_)).block (t.keep f (AJ r.num.lt n.size) A),?_,?_,?_⟩
 ·have:=v k h;omega
 ·have:=v f h;omega
 ·have h1:=n.blk r.out λh=>by have:=v g h;omega
  have:=Blk.set h1 1 (.slice j (a.length+1) m);rw[AS,CV];exact this
 ·exact t.row (n.row r.kept λb c h=>B b c h) λb c h=>by have:=D b c;omega
 rw[AS,CV,DI];refine t.row x λb c h=>?_;have:=(x.lt b c).1;omega
end
section
open Go.Maps (Keyed IsMap Tidy)
variable {P:Program} {k:TypeId}
theorem D3:∀r:List (Value × Nat),IsMap (Np P k r)
 | []=>Maps.isMap_empty
 | p::r=>(D3 r).put _ _
theorem Zsc(K:Keyed P k)(b:U4 P k v):∀r:List (Value × Nat),(∀p∈r,U4 P k p.1)->(Maps.has (Np P k r) (litK P k v)=true↔v∈r.map (·.1))
 | [],_=>by
   unfold Np;simp[Maps.has_eq]
 | p::r,hg=>by
   have a:=hg p (AX ..);have d:=Zsc K b r (λq c=>hg q (BO _ c));unfold Np;rw[CU,BW];by_cases e:v=p.1
   ·rw[e,Maps.has_put_same (D3 r) (K.key a.lit)];simp
   rw[Maps.has_put_other (Ztc K b a e),d];simp[e]
theorem Zu8(K:Keyed P k)(a:U4 P k v):∀r:List (Value × Nat),(∀p∈r,U4 P k p.1)->
 (v∈r.map (·.1)->∃b,(v,b)∈r/\(Np P k r).atKey (litK P k v) .nil = .lit (.int .i64 (b:Int)))/\(v∉r.map (·.1)->(Np P k r).atKey (litK P k v) .nil = .nil)
 | [],_=>⟨λh=>(by cases h),λ_=>by unfold Np;exact Maps.atKey_of_not_has (by simp[Maps.has_eq]) _⟩
 | p::r,hg=>by
   have c:=hg p (AX ..);have d:=Zu8 K a r (λq j=>hg q (BO _ j));rw[CU];by_cases e:v=p.1
   ·refine⟨λ_=>⟨p.2,by rw[e];exact AX ..,?_⟩,λh=>absurd (by rw[e];exact AX ..) h⟩;subst e;unfold Np;exact Maps.atKey_put_same (D3 r) (K.key a.lit) _ _
   refine⟨λh=>?_,λh=>?_⟩
   ·obtain⟨b,g,f⟩:=d.1 ((BW.1 h).resolve_left e);refine⟨b,BO _ g,?_⟩;unfold Np;rw[Maps.atKey_put_other (Ztc K a c e)];exact f
   rw[BW,not_or] at h;unfold Np;rw[Maps.atKey_put_other (Ztc K a c e)];exact d.2 h.2
theorem Zut(K:Keyed P k):∀r:List (Value × Nat),(∀p∈r,U4 P k p.1)->Tidy (Np P k r)
 | [],_=>Maps.tidy_empty
 | p::r,hg=>(Zut K r (λq a=>hg q (BO _ a))).put (K.key (hg p (AX ..)).lit) _
theorem F1(K:Keyed P k):∀r:List (Value × Nat),(∀p∈r,U4 P k p.1)->∃L:List Value,L.Nodup/\(∀v∈L,v∈r.map (·.1))/\Maps.size (Np P k r)=L.length
 | [],_=>⟨[],List.nodup_nil,λv h=>(by cases h),rfl⟩
 | p::r,hg=>by
   have f:∀q∈r,U4 P k q.1:=λq l=>hg q (BO _ l);obtain⟨L,h1,c,g⟩:=F1 K r f;have b:=Maps.size_put (k:=litK P k p.1) (Zut K r f) (.lit (.int .i64 (p.2:Int)));have j:=Zsc K (hg p (AX ..)) r f;by_cases d:p.1∈r.map (·.1)
   ·rw[if_pos (j.2 d)] at b;exact⟨L,h1,λv a=>by rw[CU];exact BO _ (c v a),b.trans g⟩
   rw[if_neg (λh=>d (j.1 h))] at b;refine⟨p.1::L,List.nodup_cons.2 ⟨λh=>d (c _ h),h1⟩,λv a=>?_,by rw[AW,<-g];exact b⟩;rw[CU];rcases BW.1 a with e | a
   ·rw[e];exact AX ..
   exact BO _ (c v a)
theorem Vv.look{w:World}(h:Vv P k w g r)(K:Keyed P k)(a:v∈r.map (·.1)):
 ∃b,(v,b)∈r/\(Np P k r).atKey (litK P k v) .nil = .lit (.int .i64 (b:Int)):=by
 obtain⟨p,d,e⟩:=CW.1 a;have c:=h.good p d;rw[e] at c;exact (Zu8 K c r h.good).1 a
theorem Vv.look_at{w:World}{e b:Nat}(h:Vv P k w g r)(K:Keyed P k)(j:P.underlying t=some (.map k e))(m:(zeroValue e).run P w = .ok (.pointer none) w)(d:(v,b)∈r)(c:(Np P k r).atKey (litK P k v) .nil = .lit (.int .i64 (b:Int))):
 (Instr.lookup t (.map (some g)) v false).run P w = .ok (.pointer (some ⟨b,0,none⟩)) w:=by
 have l:=h.good _ d;obtain⟨u,ps,f,a⟩:=h.own.lookup K j m (zd := .nil) (zp:=[]) rfl l.lit;rw[c] at a;rw[f,ptrR_block a]
theorem Vv.look_none{w:World}{e:Nat}(h:Vv P k w g r)(K:Keyed P k)(f:P.underlying t=some (.map k e))(j:(zeroValue e).run P w = .ok (.pointer none) w)(b:U4 P k v)(c:v∉r.map (·.1)):
 (Instr.lookup t (.map (some g)) v false).run P w = .ok (.pointer none) w:=by
 obtain⟨u,ps,d,a⟩:=h.own.lookup K f j (zd := .nil) (zp:=[]) rfl b.lit;rw[(Zu8 K b r h.good).2 c] at a;rw[d,ptrR_nil a]
end
section
open Go.Maps (Keyed IsMap Tidy)
open Go.Maps (Keyed IsMap Tidy)
theorem Zzo.few{w:World}{G:Gr}(h:Zzo w g G S ts):Maps.size (Np prog 247 (ts.map λp=>(kT p.1.1 p.1.2,p.2)))<maxLen:=by
 obtain⟨L,h1,n,o⟩:=F1 Tryz.keyKT _ h.map.good;have d:∀v∈L,∃p∈ts,v=kT p.1.1 p.1.2:=λv r=>by
  obtain⟨q,f,e⟩:=CW.1 (n v r);obtain⟨p,c,rfl⟩:=CW.1 f;exact⟨p,c,e.symm⟩
 have:=Gq codeT 1000000 h1 (λx j y s e=>by
  obtain⟨p,c,rfl⟩:=d x j;obtain⟨q,f,rfl⟩:=d y s;have a:=h.key p c;have b:=h.key q f;rw[Zx1,Zx1] at e;unfold Zp at e a b;have l:p.1.1=q.1.1:=AA
  have m:p.1.2=q.1.2:=AA
  rw[l,m]) (λx j=>by
  obtain⟨p,c,rfl⟩:=d x j;have a:=h.key p c;rw[Zx1];omega)
 rw[o];unfold maxLen;omega
theorem Zue.few{w:World}{G:Gr}(h:Zue w g G S d):Maps.size (Np prog 251 (d.map λp=>(kF p.1.1 p.1.2.1 p.1.2.2,p.2)))<maxLen:=by
 obtain⟨L,h1,r,s⟩:=F1 Tryz.keyKF _ h.map.good;have f:∀v∈L,∃p∈d,v=kF p.1.1 p.1.2.1 p.1.2.2:=λv t=>by
  obtain⟨q,j,e⟩:=CW.1 (r v t);obtain⟨p,c,rfl⟩:=CW.1 j;exact⟨p,c,e.symm⟩
 have:=Gq codeF 1000000000 h1 (λx l y u e=>by
  obtain⟨p,c,rfl⟩:=f x l;obtain⟨q,j,rfl⟩:=f y u;have a:=h.key p c;have b:=h.key q j;rw[Zy2,Zy2] at e;have m:p.1.1=q.1.1:=AA
  have n:p.1.2.1=q.1.2.1:=AA
  have o:p.1.2.2=q.1.2.2:=AA
  rw[m,n,o]) (λx l=>by
  obtain⟨p,c,rfl⟩:=f x l;have a:=h.key p c;rw[Zy2];omega)
 rw[s];unfold maxLen;omega
end
def trmB(a b:Trm):Bool:=(a.name==b.name)&&((a.level==b.level)&&(a.assoc==b.assoc))
theorem Bf{a b:Trm}:trmB a b=true↔a=b:=by
 obtain⟨x,y,z⟩:=a;obtain⟨f,g,z'⟩:=b;unfold trmB;rw[AR,AR,Zx5,BP,BP];constructor
 ·rintro⟨h1,c,d⟩;simp only at h1 c d;rw[h1,c,d]
 intro h;injection h with h1 c d;exact⟨h1,c,d⟩
theorem Tryz.fieldsTerm:(prog.fieldsOf 91).toList.map (λf=>(f.name,f.type,f.offset))=[("Name",9,0),("Level",3,1),("Assoc",3,2)]:=AB
theorem fields3{d:List Field}{n1 n2 n3:String}{m n j k:Nat}(h:d.map (λf=>(f.name,f.type,f.offset))=[(n1,l,g),(n2,m,j),(n3,n,k)]):
 ∃a b c,d=[a,b,c]/\(a.name=n1/\a.type=l/\a.offset=g)/\(b.name=n2/\b.type=m/\b.offset=j)/\(c.name=n3/\c.type=n/\c.offset=k):=by
 match d,h with
 | [a,b,c],h =>
   simp at h;exact⟨a,b,c,rfl,h.1,h.2.1,h.2.2⟩
theorem eq_trm(a b:Trm)(w:World):(Op.equalIn 10000 91 (.agg #[.string a.name,.int .i64 a.level,.int .i64 a.assoc]) (.agg #[.string b.name,.int .i64 b.level,.int .i64 b.assoc])).run prog w = .ok (trmB a b) w:=by
 rw[run_equalIn_agg (d:=9999) w 91 _ _ Tryz.structTerm Tryz.heldTerm];obtain⟨r,s,u,g,⟨n1,o,h⟩,⟨n2,p,j⟩,⟨n3,q,k⟩⟩:=fields3 Tryz.fieldsTerm;rw[g];have u9:=underlying9;have u3:=underlying3;unfold trmB;rw[beq_toListBytes];have f:∀x y:ByteArray,(Op.equalIn 9999 9 (.string x) (.string y)).run prog w = .ok (x.toList==y.toList) w:=λx y=>run_equalIn_string (d:=9998) w _ x y u9;have c:∀x y:Int,(Op.equalIn 9999 3 (.int .i64 x) (.int .i64 y)).run prog w = .ok (x==y) w:=λx y=>run_equalIn_int (d:=9998) w _ .i64 .i64 x y u3;have l:∀t:Trm,(part 9 #[.string t.name,.int .i64 t.level,.int .i64 t.assoc] 0).run prog w = .ok (.string t.name) w:=λt=>by go_simp
 have m:∀t:Trm,(part 3 #[.string t.name,.int .i64 t.level,.int .i64 t.assoc] 1).run prog w = .ok (.int .i64 t.level) w:=λt=>by go_simp
 have n:∀t:Trm,(part 3 #[.string t.name,.int .i64 t.level,.int .i64 t.assoc] 2).run prog w = .ok (.int .i64 t.assoc) w:=λt=>by go_simp
 simp only[Op.eqFields,n1,o,h,n2,p,j,n3,q,k];rw[if_pos AC,if_pos AC,if_pos AC];simp only[Sem.run_bind,l,m,n,f,c,Result.andThen_ok,Sem.run_ite,Sem.run_pure];cases a.name.toList==b.name.toList <;> cases a.level==b.level <;> cases a.assoc==b.assoc <;> simp
theorem Gp:∀t∈Xt.terms,t.name.size<=maxLen:=by
 intro t a;have:t.name.size<=3:=by
  simp only[Xt,BW,Ef,or_false] at a;subst a;decide
 simp only[maxLen];omega
section
open Ieee
def IsN(d:Datum)(n:Nat):Prop:=∃k:Nat,d = .number false (n*2 ^ k) (-(k:Int))
theorem IsN.zero(k:Nat):IsN (.number false 0 (-(k:Int))) 0:=⟨k,by rw[Nat.zero_mul]⟩
end
section
open Go.Shelf
open Go.ChangeShapes Go.WideShapes Go.ChangeAt Go.RowKit
open Go.ChangeShapes Go.WideShapes Go.ChangeAt Go.RowKit
open Go.ChangeShapes Go.WideShapes Go.ChangeAt Go.RowKit Go.Lib Go.Deep
variable {H:Type} {enc:TypeId × Value->H} {w:World} {base:Nat} {sp:Nat->Bool} {held:Bool}
theorem open_terms{fuel:Nat}{x:DataW H × List MemPlace}(h:DataW.trod enc prog w base sp held fuel 22 [v]=some x):
 ∃A n c ts,v = .slice A n c/\N8 w A n c ts/\∀t∈ts,t.name.size<=maxLen:=by
 rcases open_slice underlying22 h with ⟨g,_⟩ | ⟨a,len,cap,m,n,D,U,g,_,G,I,J,_,N⟩
 ·simp at g;exact⟨none,0,0,[],g,⟨rfl,AI _,AA,λh=>AA⟩,λt d=>by cases d⟩
 simp at g;have W:len<=m:=by rw[J];split <;> omega
 have each:∀i,∃t:Trm,i<len->w.cell? (a.add (i*3))=some (.string t.name)/\w.cell? (a.add (i*3+1))=some (.int .i64 t.level)/\w.cell? (a.add (i*3+2))=some (.int .i64 t.assoc)/\t.name.size<=maxLen:=λi=>by
  by_cases hi:i<len
  ·obtain⟨V,h1,F⟩:=N i AA;have q:prog.cellsOf 91=3:=AB
   rw[q] at h1;obtain⟨X,Y,Z,y0,y1,y2,k,P,R,S,g0,C,E⟩:=elem3 underlying91 q rfl rfl rfl AB AB AB h1 F;obtain⟨s,y,_,M⟩:=DataW.trod_string underlying9 g0;obtain⟨n1,r,_,_⟩:=DataW.trod_int underlying3 C;obtain⟨n2,u,_,_⟩:=DataW.trod_int underlying3 E;simp at y r u;subst y r u;exact⟨⟨s,n1,n2⟩,λ_=>⟨P,R,S,M⟩⟩
  exact⟨⟨ByteArray.empty,0,0⟩,λh=>absurd h hi⟩
 obtain⟨f,p⟩:=Classical.axiomOfChoice each;refine⟨some a,len,cap,(List.range len).map f,g,⟨AE,G,by simpa [maxLen] using I,λh0=>?_⟩,λt d=>?_⟩
 ·obtain⟨b,O,T⟩:=a;have o:=(p 0 h0).1;have L:T=none:=by simpa [Addr.add] using World.cell?_spot o
  subst L;rw[Bi] at o;refine⟨b,O,rfl,by have:=Zyg o;simpa using this,λj t d=>?_⟩;rw[BA] at d;have l:j<len:=by
   rcases BD j len with h | h
   ·exact h
   simp[BE (show (List.range len).length<=j by simpa using h)] at d
  simp[l] at d;subst d;obtain⟨p0,z,B,_⟩:=p j l;rw[Bi] at p0 z B;exact⟨p0,by rw[Ed];exact z,by rw[Ed];exact B⟩
 obtain⟨j,l,rfl⟩:=CW.1 d;exact (p j (BQ.1 l)).2.2.2
end
section
open Go.Shelf
open Go.ChangeShapes Go.WideShapes Go.ChangeAt Go.RowKit
open Go.ChangeShapes Go.WideShapes Go.ChangeAt Go.RowKit
open Go.ChangeShapes Go.WideShapes Go.ChangeAt Go.RowKit Go.Lib Go.Deep
open Go.ChangeShapes Go.WideShapes Go.ChangeAt Go.RowKit Go.Lib Go.Deep
theorem Tryz.infoVal:(prog.info? 46).map (λi=>(i.zero,i.size,i.bytes))=some (some (.agg #[.slice none 0 0,.bool false]),2,32):=AB
end
theorem Tryz.infoValS:(prog.info? 89).map (λi=>(i.zero,i.size,i.bytes))=some (some (.slice none 0 0),1,24):=AB
end Go.Proofs.YtggbjdmpjidhgaaGreatDoor
