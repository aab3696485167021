/- Words for slices that read as lists: no program in sight. -/
import Derived.Test.YtggbjdmpjidhgaaGreatDoorV01
import Derived.Test.YtggbjdmpjidhgaaGreatDoorV02
import Derived.Test.YtggbjdmpjidhgaaGreatDoorV03
set_option linter.all false
set_option maxHeartbeats 1500000
set_option maxRecDepth 100000
namespace Go.Proofs.YtggbjdmpjidhgaaGreatDoor
open Go.RowKit Go.Proofs.Tryz
variable{k:IntKind}{w w':World}{A Ar:Option Addr}{n c j:Nat}{a d:List Int}{ss:List ByteArray}{ts:List Trm}{f:List Bool->List Bool}{cs:List Value}{ps:List Prd}{xs:List Nat}
def Za(k:IntKind)(w:World)(A:Option Addr)(n c:Nat)(a:List Int):Prop:=Sl w A n c (ints k a)
theorem Za.len(h:Za k w A n c a):a.length=n:=by
 have:=h.1;rwa [Y9] at this
theorem Za.cap(h:Za k w A n c a):n<=c/\c<=9223372036854775807:=⟨h.2.1,h.2.2.1⟩
theorem Za.below(h:Za k w A n c a)(b:Below w w w'):Za k w' A n c a:=Sl.below h b
theorem Za.nil(k:IntKind)(w:World)(A:Option Addr)(c:Nat)(h:c<=9223372036854775807):Za k w A 0 c []:=Sl.nil w A c h
theorem Za.get(h:Za k w A n c d)(l:j<n):
 ∃b a x,A=some ⟨b,a,none⟩/\b<w.heap.size/\Hid (d[j]? = some x)/\w.cell? ⟨b,a+j,none⟩=some (.int k x):=by
 have m:=h.len;obtain⟨b,a,e,f,g⟩:=h.2.2.2 (by rw[Y9];omega);refine⟨b,a,d[j]' AA,e,f,LH (AM AA),?_⟩;rw[g j (by rw[Y9];omega)];simp[ints,AM (show j<d.length by omega)]
theorem Za.take(h:Za k w A n c d)(m a:Nat)(t:m<=n)(g:m<=a)(l:a<=9223372036854775807):
 Za k w A m a (d.take m):=by
 have s:=h.len;refine⟨by simp[ints];omega,g,l,λq=>?_⟩;simp[ints] at q;obtain⟨b,r,e,f,o⟩:=h.2.2.2 (by rw[Y9];omega);refine⟨b,r,e,f,λj p=>?_⟩;simp[ints] at p;rw[o j (by rw[Y9];omega)];simp[ints,En];intro;omega
theorem Q2.below(h:Q2 w)(c:Below w w w'):Q2 w':=λj d=>by
 have f:0<w.heap.size:=by
  have b:=h 0 AC;rcases BD 0 w with a | a
  ·exact a
  simp[World.cell?,CX a] at b
 exact (c.cell (p:=⟨0,j,none⟩) f).trans (h j d)
theorem Js.len(h:Js w A n c ss):ss.length=n:=by have:=h.1;simpa using this
theorem Js.cap(h:Js w A n c ss):n<=c/\c<=9223372036854775807:=⟨h.2.1,h.2.2.1⟩
theorem Js.below(h:Js w A n c ss)(a:Below w w w'):Js w' A n c ss:=Sl.below h a
theorem Js.get(h:Js w A n c ss)(g:j<n):
 ∃b a s,A=some ⟨b,a,none⟩/\b<w.heap.size/\Hid (ss[j]? = some s)/\w.cell? ⟨b,a+j,none⟩=some (.string s):=by
 have k:=h.len;obtain⟨b,a,e,d,f⟩:=h.2.2.2 (by rw[BF];omega);refine⟨b,a,ss[j]' AA,e,d,LH (AM AA),?_⟩;rw[f j (by rw[BF];omega)];simp[AM (show j<ss.length by omega)]
def Dv(w:World)(A:Option Addr)(n c:Nat)(d:List Rul):Prop :=
 d.length=n/\n<=c/\c<=9223372036854775807/\(0<n->∃b a,A=some ⟨b,a,none⟩/\b<w.heap.size/\∀j r,d[j]? = some r->
  ∃Ar cr,w.cell? ⟨b,a+j*3,none⟩=some (.int .i64 r.left)/\w.cell? ⟨b,a+j*3+1,none⟩=some (.slice Ar r.right.length cr)/\w.cell? ⟨b,a+j*3+2,none⟩=some (.int .i64 r.prec)/\Za .i64 w Ar r.right.length cr r.right)
theorem N8.len(h:N8 w A n c ts):ts.length=n:=h.1
theorem N8.cap(h:N8 w A n c ts):n<=c/\c<=9223372036854775807:=⟨h.2.1,h.2.2.1⟩
theorem N8.below(h:N8 w A n c ts)(a:Below w w w'):N8 w' A n c ts:=by
 refine⟨h.1,h.2.1,h.2.2.1,λk=>?_⟩;obtain⟨b,f,e,d,g⟩:=h.2.2.2 k;refine⟨b,f,e,AJ d a.size,λj t l=>?_⟩;rw[a.cell (p:=⟨b,f+j*3,none⟩) d,a.cell (p:=⟨b,f+j*3+1,none⟩) d,a.cell (p:=⟨b,f+j*3+2,none⟩) d];exact g j t l
theorem N8.get(h:N8 w A n c ts)(o:j<n):
 ∃b a t,A=some ⟨b,a,none⟩/\b<w.heap.size/\Hid (ts[j]? = some t)/\w.cell? ⟨b,a+j*3,none⟩=some (.string t.name)/\w.cell? ⟨b,a+j*3+1,none⟩=some (.int .i64 t.level)/\w.cell? ⟨b,a+j*3+2,none⟩=some (.int .i64 t.assoc):=by
 obtain⟨b,a,e,m,l⟩:=h.2.2.2 AA;have p:=h.1;have d:ts[j]? = some (ts[j]' AA):=AM AA;obtain⟨f,g,k⟩:=l j _ d;exact⟨b,a,_,e,m,LH d,f,g,k⟩
theorem Dv.len{a:List Rul}(h:Dv w A n c a):a.length=n:=h.1
theorem Dv.cap{a:List Rul}(h:Dv w A n c a):n<=c/\c<=9223372036854775807:=⟨h.2.1,h.2.2.1⟩
theorem Dv.below{g:List Rul}(h:Dv w A n c g)(a:Below w w w'):Dv w' A n c g:=by
 refine⟨h.1,h.2.1,h.2.2.1,λs=>?_⟩;obtain⟨b,f,e,d,q⟩:=h.2.2.2 s;refine⟨b,f,e,AJ d a.size,λj r t=>?_⟩;rw[a.cell (p:=⟨b,f+j*3,none⟩) d,a.cell (p:=⟨b,f+j*3+1,none⟩) d,a.cell (p:=⟨b,f+j*3+2,none⟩) d];obtain⟨Ar,cr,k,l,m,o⟩:=q j r t;exact⟨Ar,cr,k,l,m,o.below a⟩
theorem Dv.get{d:List Rul}(h:Dv w A n c d)(q:j<n):
 ∃b a r Ar cr,A=some ⟨b,a,none⟩/\b<w.heap.size/\Hid (d[j]? = some r)/\w.cell? ⟨b,a+j*3,none⟩=some (.int .i64 r.left)/\w.cell? ⟨b,a+j*3+1,none⟩=some (.slice Ar r.right.length cr)/\w.cell? ⟨b,a+j*3+2,none⟩=some (.int .i64 r.prec)/\Za .i64 w Ar r.right.length cr r.right:=by
 obtain⟨b,a,e,p,o⟩:=h.2.2.2 AA;have s:=h.1;have f:d[j]? = some (d[j]' AA):=AM AA;obtain⟨Ar,cr,g,k,l,m⟩:=o j _ f;exact⟨b,a,_,Ar,cr,e,p,LH f,g,k,l,m⟩
structure Yf (w:World) (h:GH) (G:Gr):Prop where
 terms:N8 w h.a1 h.n1 h.c1 G.terms
 nons:Js w h.a2 h.n2 h.c2 G.nons
 rules:Dv w h.a3 h.n3 h.c3 G.rules
 wf:∀r∈G.rules,∀s∈r.right,U3 s
theorem Yf.below{h:GH}{G:Gr}(g:Yf w h G)(a:Below w w w'):Yf w' h G:=⟨g.terms.below a,g.nons.below a,g.rules.below a,g.wf⟩
def Fo(l:List Trm)(k:Nat)(t:Trm):Bool:=decide (t.level=0) || decide (Vl (l.take k) t.level=0) || decide (Vl (l.take k) t.level=t.assoc)
def consOK(l:List Trm):Bool:=Cg (Fo l) l
def Jh(l:List Trm):Bool:=consOK l&&decide ((Zzt l:Int)=J7 l)
theorem topL_spec(l:List Trm)(j:∀t∈l,0<=t.level):(∀t∈l,t.level<=J7 l)/\0<=J7 l/\(J7 l=0\/∃t∈l,t.level=J7 l):=by
 have key:∀n (p:List Trm),p=l.take n->(∀t∈p,t.level<=J7 p)/\0<=J7 p/\(J7 p=0\/∃t∈p,t.level=J7 p):=by
  intro n
  induction n with
  | zero=>intro p c;rw[c];simp[J7]
  | succ n g =>
    intro p c;rw[c,DA];cases k:l[n]? with
    | none=>simpa using g _ rfl
    | some t =>
      obtain⟨f,m,b⟩:=g _ rfl;have q:=j t (AL k);simp only[Option.toList_some];rw[Dz];by_cases h:t.level=0
      ·rw[if_pos h];refine⟨λu a=>?_,m,?_⟩
       ·rw[DH,BV] at a;rcases a with a | rfl
        ·exact f u a
        omega
       rcases b with b | ⟨u,a,d⟩
       ·exact .inl b
       exact .inr ⟨u,List.mem_append_left _ a,d⟩
      rw[if_neg h];refine⟨λu a=>?_,AA,?_⟩
      ·rw[DH,BV] at a;rcases a with a | rfl
       ·have:=f u a;omega
       omega
      right;by_cases o:J7 (l.take n)<=t.level
      ·exact⟨t,AE,AA⟩
      rcases b with b | ⟨u,a,d⟩
      ·omega
      exact⟨u,List.mem_append_left _ a,AA⟩
 have:=key l.length l (by rw[AQ (AI _)]);exact this
theorem Zvl(l:List Trm)(L:Int)(b:∀t∈l,t.level=L->t.assoc≠0):Vl l L≠0↔Dt l L=true:=by
 have key:∀n,(Vl (l.take n) L≠0↔Dt (l.take n) L=true):=by
  intro n
  induction n with
  | zero=>simp[Vl,Dt]
  | succ n a =>
    rw[DA];cases c:l[n]? with
    | none=>simpa using a
    | some t =>
      simp only[Option.toList_some];rw[Nx,Kf];by_cases h:t.level=L
      ·rw[if_pos h];simp[h,b t (AL c) h]
      rw[if_neg h];simp only[h,decide_false,Bool.or_false];exact a
 have:=key l.length;rwa [AQ (AI _)] at this
theorem Ls(n:Int):∀(l p:List Trm),Qs n l (Vl p n)=true ↔
 (∀(k:Nat) t,l[k]? = some t->t.level=n->Vl (p++l.take k) n=0\/Vl (p++l.take k) n=t.assoc)/\Vl (p++l) n≠0
 | [],p=>by simp[Qs]
 | t::l,p=>by
   rw[Qs];by_cases h:t.level=n
   ·rw[if_pos h];have e:Vl (p++[t]) n=t.assoc:=by rw[Nx,if_pos h]
    by_cases g:Vl p n≠0/\Vl p n≠t.assoc
    ·rw[if_pos g];constructor
     ·intro h;cases h
     rintro⟨b,_⟩;have:=b 0 t rfl h;simp only[List.take_zero,DK] at this;rcases this with f | f
     ·exact absurd f g.1
     exact absurd f g.2
    rw[if_neg g,<-e,Ls n l (p++[t])];simp only[DQ,DU,DG];constructor
    ·rintro⟨b,d⟩;refine⟨λk u a c=>?_,d⟩;cases k with
     | zero =>
       simp only[List.getElem?_cons_zero,BM] at a;subst a;simp only[List.take_zero,DK];by_cases j:Vl p n=0
       ·exact .inl j
       ·right;by_cases f:Vl p n=t.assoc
        ·exact f
        ·exact absurd ⟨j,f⟩ g
     | succ k =>
       rw[List.getElem?_cons_succ] at a;exact b k u a c
    rintro⟨b,d⟩;exact⟨λk u a c=>b (k+1) u (by rw[List.getElem?_cons_succ];exact a) c,d⟩
   rw[if_neg h];have e:Vl (p++[t]) n=Vl p n:=by rw[Nx,if_neg h]
   rw[<-e,Ls n l (p++[t])];simp only[DQ,DU,DG];constructor
   ·rintro⟨b,d⟩;refine⟨λk u a c=>?_,d⟩;cases k with
    | zero =>
      simp only[List.getElem?_cons_zero,BM] at a;subst a;exact absurd c h
    | succ k =>
      rw[List.getElem?_cons_succ] at a;exact b k u a c
   rintro⟨b,d⟩;exact⟨λk u a c=>b (k+1) u (by rw[List.getElem?_cons_succ];exact a) c,d⟩
theorem Gf(l:List Trm)(n:Int):J9 l n=true↔(∀(k:Nat) t,l[k]? = some t->t.level=n->Vl (l.take k) n=0\/Vl (l.take k) n=t.assoc)/\Vl l n≠0:=by
 have:=Ls n l [];simpa [Vl,J9] using this
theorem Zzf(l:List Trm)(f:∀t∈l,Up t=true):Jh l=l.all (Nc l):=by
 have g:∀t∈l,0<=t.level:=λt a=>(Kp (f t a)).2.1;obtain⟨y,O,z⟩:=topL_spec l g;have N:J7 l<=24:=by
  rcases z with h | ⟨t,a,d⟩
  ·omega
  have:=(Kp (f t a)).2.2.1;omega
 obtain⟨T,A⟩:∃T:Nat,J7 l=(T:Int):=⟨(J7 l).toNat,AA⟩;have F:∀n:Nat,(decide (1<=n)&&Dt l (n:Int))=true->1<=n:=λn h=>by simp at h;exact h.1
 have G:∀n:Nat,(decide (1<=n)&&Dt l (n:Int))=true->n<=T:=λn h=>by
  simp[Dt] at h;obtain⟨_,t,a,d⟩:=h;have:=y t a;omega
 have p:Zzt l=T↔∀n:Nat,1<=n->n<=T->Dt l (n:Int)=true:=by
  unfold Zzt;rw[countP_cut _ T G 25 AA,(countP_full _ F T).2];constructor
  ·intro h n b c;have:=h n b c;simp at this;exact this.2
  intro h n b c;simp[h n b c,b]
 have o:∀L:Int,L≠0->∀t∈l,t.level=L->t.assoc≠0:=λL j t a d h=>by
  have:=(Kp (f t a)).2.2.2.2.2;rw[<-d] at j;exact j (this.2 h)
 rw[BZ];unfold Jh;rw[AR,BB,A,BG];constructor
 ·rintro⟨D,d⟩ t a;have C:=p.1 AA;unfold Nc;rw[BG];intro n E;rw[BQ] at E;have M:=y t a;rw[Gf];refine⟨λk u H r=>?_,?_⟩
  ·have:=Bj D H;simp[Fo] at this;rcases this with (h | h) | h
   ·omega
   ·rw[r] at h;exact .inl h
   rw[r] at h;exact .inr h
  rw[Zvl l _ (o _ AA)];have:=C (n+1) AA AA;simpa using this
 intro B;have s:∀t∈l,∀n:Nat,1<=n->(n:Int)<=t.level->J9 l (n:Int)=true:=λt a n b c=>by
  have:=B t a;unfold Nc at this;rw[BG] at this;have:=this (n-1) (by rw[BQ];omega);rwa [show ((n-1:Nat):Int)+1=(n:Int) from by omega] at this
 refine⟨Kc λk t q=>?_,?_⟩
 ·have x:=AL q;have J:=g t x;simp only[Fo,CJ,decide_eq_true_eq];by_cases I:t.level=0
  ·exact .inl (.inl I)
  obtain⟨m,v⟩:∃m:Nat,t.level=(m:Int):=⟨t.level.toNat,AA⟩;have:=s t x m AA AA;rw[Gf] at this;have:=this.1 k t q v;rw[<-v] at this;rcases this with h | h
  ·exact .inl (.inr h)
  exact .inr h
 have:Zzt l=T:=p.2 λn b c=>by
  rcases z with h | ⟨t,a,d⟩
  ·omega
  have:=s t a n b AA;rw[Gf] at this;exact (Zvl l _ (o _ AA)).1 this.2
 omega
theorem Qv.fix(d:Qv f)(b:List Bool):f (Z3 f b.length b)=Z3 f b.length b:=by
 by_cases g:f (Z3 f b.length b)=Z3 f b.length b
 ·exact g
 exfalso;have q:∀k,(Z3 f k b).length=b.length:=λk=>by
  induction k with
  | zero=>rfl
  | succ k j=>show (f (Z3 f k b)).length=_;rw[d.len,j]
 have r:∀k,k<=b.length->f (Z3 f k b)≠Z3 f k b:=λk m h=>by
  have a:=M7 h b.length m;rw[a] at g;exact g h
 have n:∀k,k<=b.length+1->k<=(Z3 f k b).countP (·):=λk=>by
  induction k with
  | zero=>intro _;omega
  | succ k j =>
    intro m;have a:=j AA;have c:=Zsi (Z3 f k b) (f (Z3 f k b)) (d.len _).symm λi hi=>d.up _ i hi;have s:(Z3 f k b).countP (·)≠(f (Z3 f k b)).countP (·):=λo=>r k AA (c.2 o).symm;show k+1<=(f (Z3 f k b)).countP (·);omega
 have a:=n (b.length+1) (AI _);have c:=List.countP_le_length (p:=λx:Bool=>x) (l:=Z3 f (b.length+1) b);rw[q] at c;omega
theorem GrowsS.fix{f:List Nat->List Nat}(b:GrowsS f)(F:List Nat):f (Z3 f F.length F)=Z3 f F.length F:=by
 obtain⟨p,c,a⟩:=b;have hit:∀t k,Je t (Z3 f k F)=Z3 (p t) k (Je t F):=λt k=>by
  induction k with
  | zero=>rfl
  | succ k d=>show Je t (f (Z3 f k F))=p t (Z3 (p t) k (Je t F));rw[a,d]
 refine view_ext λt=>?_;rw[a,hit];have:=(c t).fix (Je t F);rwa [show (Je t F).length=F.length by simp[Je]] at this
theorem We.get{F:List Nat}(h:We F)(i:Nat):F.getD i 0<4294967296:=by
 rw[AO];cases a:F[i]? with
 | none=>simp
 | some x=>exact h x (AL a)
theorem sl_index_ints(A:Option Addr)(n c:Nat)(xs:List Int)(g:FuncId)(t:Array Value)(p:Int->Bool)(w:World)(F:∀args w,(callFunc g args).run prog w = .ok (.enter g args) w)(h:Za .i64 w A n c xs)(u:Zyw g t (Value.int .i64) w xs p):
 Calls prog 86 #[.slice A n c,.func (.func g) #[] t] w λe w'=>e = .returned (.int .i64 (Y8 p xs))/\Below w w w':=by
 obtain rfl:=h.len;have G:=h.cap;have x:=LH u;clear u;go_enter func86,ntmps86;go_wp2_with fail;go_loopw [5,8] (λ_ i wr=>∃k:Nat,k<=xs.length/\i = .int .i64 (k:Int)/\Below w w wr/\Hid (∀j,j<k->∀y,xs[j]? = some y->p y=false)) (λ_ i _=>xs.length-(intOf i).toNat)
 case atStart=>exact⟨0,AU _,rfl,AK _ _,LH λj H=>AA⟩
 obtain⟨k,I,rfl,f,o⟩:=hrel;by_cases C:k<xs.length
 ·obtain⟨b,J,s,rfl,B,q,D⟩:=h.get C;rw[<-f.cell (by exact B)] at D;have a:=x.out s (AL q.out) wr f;cases d:p s
  ·rw[d] at a;have z:=LH d;have l:=LH a;clear d a;go_wp2_with (go_at_fn g;refine l.out.mono ?_;rintro e E⟨rfl,r⟩);go_roundw
   case rel=>exact⟨k+1,AA,AF,Zz f r,LH (Vz o.out q.out z.out)⟩
   simp[intOf];omega
  rw[d] at a;have m:=LH (Q4 q.out d o.out);have l:=LH a;clear d a;go_wp2_with (go_at_fn g;refine l.out.mono ?_;rintro e E⟨rfl,r⟩);go_ret;exact⟨by rw[m.out];rfl,Zz f r⟩
 obtain rfl:k=xs.length:=AA
 have m:Hid (Y8 p xs=-1):=Jq λj y v=>o.out j (AN.1 v).1 y v;go_wp2_with fail;go_ret;exact⟨by rw[m.out];rfl,f⟩
theorem U1(A:Option Addr)(n c:Nat)(xs:List Int)(g:FuncId)(a:Array Value)(p:Int->Bool)(w:World)(j:∀args w,(callFunc g args).run prog w = .ok (.enter g args) w)(h:Za .i64 w A n c xs)(d:Zyw g a (Value.int .i64) w xs p):
 Calls prog 44 #[.slice A n c,.func (.func g) #[] a] w λe w'=>e = .returned (.bool (xs.any p))/\Below w w w':=by
 have b:=sl_index_ints A n c xs g a p w j h d;rw[<-Zvt];generalize Y8 p xs=r at *;have f:=LH b;clear b d h;go_enter func44,ntmps44;go_wp2_with (go_at_call 86;(with_reducible refine f.out.mono ?_);rintro e l⟨rfl,k⟩);go_ret;exact⟨rfl,k⟩
def J6(N:List Bool)(ss:List Int)(k:Nat):Bool:=(ss.take k).all (Xg N)&&(ss.drop (k+1)).all (Xg N)
def Xk(N P:List Bool)(ss:List Int)(k:Nat)(s:Int):Bool:=decide (s<0)&&J6 N ss k&&Xj true P ss
def Um(N P:List Bool)(r:Rul)(k:Nat)(F:List Nat):List Nat:=match r.right[k]? with
 | none=>F
 | some s=>if Xk N P r.right k s then addAt r.left.toNat (Y6 (-1-s)) F else F
def Y2(N P:List Bool)(r:Rul)(k:Nat)(F:List Nat):List Nat:=(List.range k).foldl (λF p=>Um N P r p F) F
def Wo(N P:List Bool)(a:List Rul)(F:List Nat):List Nat:=a.foldl (λF r=>Y2 N P r r.right.length F) F
theorem Dp.nil:Dp [] []:=⟨rfl,λj t h=>by simp at h⟩
theorem Gi.nil:Gi [] []:=⟨rfl,λj t h=>by simp at h⟩
theorem Rfs.get(h:Rfs w A n c ss)(m:j<n):
 ∃b a s x y,A=some ⟨b,a,none⟩/\b<w.heap.size/\Hid (ss[j]? = some s)/\w.cell? ⟨b,a+j*2,none⟩=some (.string s)/\w.cell? ⟨b,a+j*2+1,none⟩=some (.complex .f64 x y):=by
 obtain⟨b,a,e,l,k⟩:=h.2.2.2 AA;have o:=h.1;have d:ss[j]? = some (ss[j]' AA):=AM AA;obtain⟨f,x,y,g⟩:=k j _ d;exact⟨b,a,_,x,y,e,l,LH d,f,g⟩
def Vu(w:World)(a:Nat->Prop)(cs:List Value)(ps:List Prd):Prop:=cs.length=ps.length*5/\∀(j:Nat) (p:Prd),ps[j]? = some p->∃Ar cr x y d f,
 cs[j*5+0]? = some (.string p.left)/\cs[j*5+1]? = some (.complex .f64 x y)/\cs[j*5+2]? = some (.slice Ar p.right.length cr)/\cs[j*5+3]? = some (.string p.prec)/\cs[j*5+4]? = some (.complex .f64 d f) /\
 Rfs w Ar p.right.length cr p.right/\∀b c,Ar=some ⟨b,c,none⟩->b<w.heap.size/\a b
theorem Vu.nil(w:World)(a:Nat->Prop):Vu w a [] []:=⟨rfl,λj t h=>by simp at h⟩
theorem Vu.keep{d f:Nat->Prop}(h:Vu w d cs ps)(l:w.heap.size<=w'.heap.size)(g:∀k,k<w.heap.size->d k->w'.heap[k]? = w.heap[k]? /\ f k):Vu w' f cs ps:=by
 refine⟨h.1,λj p u=>?_⟩;obtain⟨Ar,cr,x,y,v,z,m,n,o,q,r,s,c⟩:=h.2 j p u;exact⟨Ar,cr,x,y,v,z,m,n,o,q,r,s.keep l λb a e t=>(g b t (c b a e).2).1,λb a e=>⟨AJ (c b a e).1 l,(g b (c b a e).1 (c b a e).2).2⟩⟩
theorem Vu.one{c:Nat->Prop}(p:Prd){cr:Nat}(x y f g:Nat)(h:Rfs w Ar p.right.length cr p.right)(k:∀b l,Ar=some ⟨b,l,none⟩->b<w.heap.size/\c b):
 Vu w c [.string p.left,.complex .f64 x y,.slice Ar p.right.length cr,.string p.prec,.complex .f64 f g] [p]:=by
 refine⟨rfl,λj q a=>?_⟩;have d:j<[p].length:=(AN.1 a).1;simp at d;subst d;simp at a;subst a;exact⟨Ar,cr,x,y,f,g,rfl,rfl,rfl,rfl,rfl,h,k⟩
def Kz(w:World)(c:Nat->Prop)(cs:List Value)(a:List Rul):Prop:=cs.length=a.length*3/\∀(j:Nat) (r:Rul),a[j]? = some r->∃Ar cr,
 cs[j*3+0]? = some (.int .i64 r.left)/\cs[j*3+1]? = some (.slice Ar r.right.length cr)/\cs[j*3+2]? = some (.int .i64 r.prec)/\Za .i64 w Ar r.right.length cr r.right/\∀b d,Ar=some ⟨b,d,none⟩->b<w.heap.size/\c b
theorem Kz.nil(w:World)(a:Nat->Prop):Kz w a [] []:=⟨rfl,λj t h=>by simp at h⟩
theorem ints_keep{f:List Int}(h:Za k w A n c f)(q:w.heap.size<=w'.heap.size)(o:∀b d,A=some ⟨b,d,none⟩->b<w.heap.size->w'.heap[b]? = w.heap[b]?):Za k w' A n c f:=by
 refine⟨h.1,h.2.1,h.2.2.1,λp=>?_⟩;obtain⟨b,d,e,g,l⟩:=h.2.2.2 p;refine⟨b,d,e,AA,λj m=>?_⟩;rw[DO (a:=⟨b,d+j,none⟩) (o b d e g)];exact l j m
theorem Kz.keep{d f:Nat->Prop}{m:List Rul}(h:Kz w d cs m)(l:w.heap.size<=w'.heap.size)(g:∀k,k<w.heap.size->d k->w'.heap[k]? = w.heap[k]? /\ f k):Kz w' f cs m:=by
 refine⟨h.1,λj p t=>?_⟩;obtain⟨Ar,cr,n,o,q,r,c⟩:=h.2 j p t;exact⟨Ar,cr,n,o,q,ints_keep r l λb a e s=>(g b s (c b a e).2).1,λb a e=>⟨AJ (c b a e).1 l,(g b (c b a e).1 (c b a e).2).2⟩⟩
structure Wk (w:World) (p B:Nat) (h:GH) (G:Gr):Prop where
 blk:Blk w p 193 (Q0 h)
 r1:w.ownsRow (p+1) 91 3 (V1 h) h.n1 (V8 G.terms)
 r2:w.ownsRow (p+1) 9 1 (V2 h) h.n2 (G.nons.map Value.string)
 r3:∃cs,w.ownsRow (p+1) 52 3 (V3 h) h.n3 cs/\Kz w (λk=>¬J8 p h k/\k<B/\p<k) cs G.rules
 d12:Da (V1 h) (V2 h)
 d13:Da (V1 h) (V3 h)
 d23:Da (V2 h) (V3 h)
 st:G.start=0
 wf:∀r∈G.rules,∀s∈r.right,U3 s
 b1:h.n1<=24
 b2:h.n2<=16
 b3:h.n3<=40
theorem Wk.mono{p B:Nat}{h:GH}{G:Gr}(k:Wk w p B h G)(f:B<=c):Wk w p c h G:=by
 obtain⟨cs,d,g⟩:=k.r3;exact⟨k.blk,k.r1,k.r2,⟨cs,d,g.keep (AI _) λb _ a=>⟨rfl,a.1,AJ a.2.1 f,a.2.2⟩⟩,k.d12,k.d13,k.d23,k.st,k.wf,k.b1,k.b2,k.b3⟩
theorem Lim.nil:Lim []:=λ_ h=>by cases h
theorem Lim.take(h:Lim xs)(k:Nat):Lim (xs.take k):=λy a=>h y (List.mem_of_mem_take a)
theorem Ga(f:Nat):∀n,n<4294967296 ^ f->val (Ft f n)=n/\Lim (Ft f n):=by
 induction f with
 | zero=>intro n h;simp at h;subst h;exact⟨rfl,Lim.nil⟩
 | succ f b =>
   intro n h;unfold Ft;by_cases h0:n=0
   ·subst h0;simp[val,Lim.nil]
   rw[if_neg h0];have hd:n / 4294967296<4294967296 ^ f:=by
    rw[Nat.pow_succ] at h;exact Nat.div_lt_of_lt_mul (by rw[Ej];exact h)
   obtain⟨h1,a⟩:=b _ hd;refine⟨?_,Lim.mk (Nat.mod_lt _ AC) a⟩;simp only[val,h1];omega
theorem Yd(n:Nat):val (limbs n)=n:=(Ga _ n (Zth n)).1
theorem Z9(n:Nat):Lim (limbs n):=(Ga _ n (Zth n)).2
theorem limbsF_tight(f:Nat):∀n,n<4294967296 ^ f->Mo (Ft f n):=by
 induction f with
 | zero=>intro n _ ys x h;simp[Ft] at h
 | succ f d =>
   intro n h ys x a;unfold Ft at a;by_cases h0:n=0
   ·simp[h0] at a
   rw[if_neg h0] at a;have hd:n / 4294967296<4294967296 ^ f:=by
    rw[Nat.pow_succ] at h;exact Nat.div_lt_of_lt_mul (by rw[Ej];exact h)
   cases ys with
   | nil =>
     simp only[DG,List.cons.injEq] at a;obtain⟨h1,c⟩:=a;have b:=(Ga f _ hd).1;rw[c] at b;simp[val] at b;omega
   | cons y ys =>
     simp only[DU,List.cons.injEq] at a;exact d _ hd ys x a.2
theorem Fk(n:Nat):Mo (limbs n):=limbsF_tight _ n (Zth n)
theorem Zws(xs:List Nat)(k:Nat)(a:k<xs.length)(h0:xs.getD k 0=0):Xx (xs.take (k+1))=Xx (xs.take k):=by
 have:xs.take (k+1)=xs.take k++[0]:=by
  rw[List.take_succ_eq_append_getElem a];simp[AM a] at h0;rw[h0]
 rw[this,L4]
theorem Zxp(xs:List Nat)(k:Nat)(a:k<xs.length)(h0:xs.getD k 0≠0):Xx (xs.take (k+1))=xs.take (k+1):=by
 have:xs.take (k+1)=xs.take k++[xs[k]]:=List.take_succ_eq_append_getElem a;rw[this,Zxh];simpa [AM a] using h0
theorem Zx3(n:Nat):∀xs:List Nat,xs.length=n->val (Xx xs)=val xs/\Mo (Xx xs)/\(∃k,Xx xs=xs.take k):=by
 induction n with
 | zero=>intro xs h;have:xs=[]:=BL h;subst this;exact⟨rfl,by intro ys x h;simp[Xx] at h,0,rfl⟩
 | succ n f =>
   intro xs h;rcases List.eq_nil_or_concat xs with rfl | ⟨ys,x,rfl⟩
   ·simp at h
   rw[List.concat_eq_append] at *;simp at h;by_cases h0:x=0
   ·subst h0;rw[L4];obtain⟨h1,b,k,a⟩:=f ys h;refine⟨by rw[h1,Wf];simp,b,?_⟩;by_cases c:k<=ys.length
    ·exact⟨k,by rw[a,Es c]⟩
    exact⟨ys.length,by rw[a,Es (AI _),AQ AA,List.take_length]⟩
   rw[Zxh _ _ h0];refine⟨rfl,λg z d=>?_,(ys++[x]).length,by rw[List.take_length]⟩;have:=List.append_inj' d rfl;simp at this;omega
theorem neatL_lim(xs:List Nat)(h:Lim xs):Lim (Xx xs):=by
 obtain⟨_,_,k,a⟩:=Zx3 _ xs rfl;rw[a];exact h.take k
theorem Vt(n k:Nat):(limbs n).length<=k↔n<4294967296 ^ k:=by
 constructor
 ·intro h;have h1:=Ui _ (Z9 n);rw[Yd] at h1;exact AJ h1 (DD AC h)
 intro h;rcases BD k (limbs n).length with a | a
 ·exfalso;rcases List.eq_nil_or_concat (limbs n) with h0 | ⟨ys,x,b⟩
  ·simp[h0] at a
  rw[List.concat_eq_append] at b;have h0:=Fk n ys x b;have c:=Yd n;rw[b,Wf] at c;rw[b] at a;simp at a;have d:(4294967296:Nat) ^ k<=4294967296 ^ ys.length:=DD AC AA;have f:4294967296 ^ ys.length*1<=4294967296 ^ ys.length*x:=El _ AA;omega
 exact a
theorem Ym(n:Nat)(h:n<big):Zm (limbs n)=true:=by
 have h1:(limbs n).length<=32:=(Vt n 32).2 (by rw[<-Zwf];exact h);simp only[Zm,h1,decide_true,Bool.true_and,CJ,decide_eq_true_eq,BN,ne_eq];rcases List.eq_nil_or_concat (limbs n) with h0 | ⟨ys,x,a⟩
 ·simp[h0]
 rw[List.concat_eq_append] at a;right;rw[a];simpa using Fk n ys x a
theorem Zxn(xs ys:List Nat)(i:Nat):Lim (V4 xs ys i).1:=by
 induction i with
 | zero=>exact Lim.nil
 | succ i a=>exact a.append (Lim.mk (Nat.mod_lt _ AC) Lim.nil)
theorem Y5(xs:List Nat)(i:Nat):val (xs.take (i+1))=val (xs.take i)+4294967296 ^ i*xs.getD i 0:=by
 by_cases h:i<xs.length
 ·rw[List.take_succ_eq_append_getElem h,Wf,BY,Nat.min_eq_left AA];simp[AM h]
 rw[AQ AA,AQ AA];simp[BE (show xs.length<=i by omega)]
theorem addP_val(xs ys:List Nat)(i:Nat):
 val (V4 xs ys i).1+4294967296 ^ i*(V4 xs ys i).2=val (xs.take i)+val (ys.take i):=by
 induction i with
 | zero=>simp[V4,val]
 | succ i a =>
   rw[Y5,Y5];simp only[V4];rw[Wf,Mq,Nat.pow_succ];generalize (V4 xs ys i).1=b at *;generalize (V4 xs ys i).2=c at *;generalize xs.getD i 0=x at *;generalize ys.getD i 0=y at *;generalize (4294967296:Nat) ^ i=B at *;have e:4294967296*((x+y+c) / 4294967296)+(x+y+c) % 4294967296=x+y+c:=Nat.div_add_mod _ _;have:B*((x+y+c) % 4294967296)+B*4294967296*((x+y+c) / 4294967296)=B*x+B*y+B*c:=by
    rw[DV,<-Ee,Eo,e,Ee,Ee]
   omega
theorem Zx4(xs ys:List Nat)(i:Nat)(a:xs.length<=i)(b:ys.length<=i):
 val ((V4 xs ys i).1++[(V4 xs ys i).2])=val xs+val ys:=by
 rw[Wf,Mq,addP_val,AQ a,AQ b]
theorem Lq:(limbs n).length=0↔n=0:=by
 constructor
 ·intro h;have h1:limbs n=[]:=BL h;have a:=Yd n;rw[h1] at a;exact a.symm
 rintro rfl;rfl
structure Zyu (W0:World) (gO:Nat) (v1 v2:Value) (w:World) (A3:Option Addr) (c3:Nat) (rs:List Rul):Prop where
 off:Off (λk=>k=gO) W0 w
 out:Blk w gO 26 #[v1,v2,.slice A3 rs.length c3,.int .i64 0]
 rules:∃cs,w.ownsRow W0.heap.size 52 3 (.slice A3 rs.length c3) rs.length cs/\Kz w (λb=>W0.heap.size<=b/\(Value.slice A3 rs.length c3).ownBlock≠some b) cs rs
theorem Wx(x:Nat):Lim (Vk x).1:=by
 unfold Vk;split
 ·exact Z9 x
 exact λy a=>by cases a
def MulRel(w:World)(xs ys:List Nat)(i:Value)(wr:World):Prop :=
 ∃(k:Nat) (a:List Nat),k<=xs.length/\i = .int .i64 (k:Int)/\a.length=xs.length+ys.length/\Lim a/\val a=val (xs.take k)*val ys /\
  (∀j,k+ys.length<=j->a.getD j 0=0)/\Own wr w.heap.size 49 .u32 a/\Below w.heap.size w wr
section
open Go.RowKit Go.Shelf
attribute [local go_sem] Oper.semAt_some
theorem take_snocB(a:List ByteArray)(k:Nat)(s:ByteArray)(h:a[k]? = some s):a.take (k+1)=a.take k++[s]:=by
 rw[DA,h];rfl
theorem values1_in(n:Nat)(O:1<=n)(l o m b f cap:Nat)(a:List ByteArray)(P:a.length<=1000)(D:b<m)(J r:List ByteArray->World->Prop)(C:∀c x W,J c W->c.length<a.length->YieldAt Fence.wide (n-1) prog l #[.string x] W λe d =>
   (e = .returned (.bool true)/\J (c++[x]) d/\Below m W d)\/(e = .returned (.bool false)/\r (c++[x]) d))(W:World)(I:W.cell? ⟨o,0,none⟩=some (.slice (some ⟨b,f,none⟩) a.length cap))(L:a.length<=cap/\cap<=9223372036854775807)(t:∀j s,a[j]? = some s->W.cell? ⟨b,f+j,none⟩=some (.string s))(y:J [] W):
 CallsIn Fence.wide n prog 206 #[.func (.yield l) #[] #[],.pointer (some ⟨o,0,none⟩)] W λe d=>(∃v,e = .returned v) /\
  ((∃ys,ys=a/\J ys d)\/(∃c,c <+: a/\r c d)):=by
 refine callsIn_of_wp func206 rfl trivial ?_ rfl;simp only[ntmps206,List.size_toArray,AW,DS,Nat.reduceAdd,Nat.reduceSub,Array.replicate_succ,Array.replicate_zero,List.push_toArray,List.append_toArray,DG,DU]
 gi_wp2
 gi_loopw [4,7] (λ_ i wr=>∃k:Nat,k<=a.length/\i = .int .i64 k/\J (a.take k) wr/\Below m W wr)
  (λ_ i _=>a.length-(intOf i).toNat)
 case atStart=>exact⟨0,AU _,rfl,by simpa using y,AK _ _⟩
 obtain⟨k,N,rfl,g,u⟩:=hrel;by_cases G:k<a.length
 ·obtain⟨s,h⟩:∃s,a[k]? = some s:=⟨_,AM G⟩;have M:wr.cell? ⟨b,f+k,none⟩=some (.string s):=(u.cell (p:=⟨b,f+k,none⟩) D).trans (t k s h);have F:(a.take k).length=k:=by rw[BY];omega
  obtain⟨H,tmps,assign,body,R,B⟩:=C _ s wr g AA;have q:=LH (take_snocB a k s h);clear t h F
  gi_wp2
  refine B.mono ?_;rintro e W3 (⟨rfl,z,E⟩ | ⟨rfl,A⟩)
  ·gi_wp2
   go_roundw
   case rel=>exact⟨k+1,AA,AE,by rw[q.out];exact z,u.trans E⟩
   simp[intOf];omega
  gi_wp2
  refine AV (results_none rfl _ _ _) rfl ?_;exact⟨⟨_,rfl⟩,.inr ⟨_,by rw[<-q.out];exact List.take_prefix _ _,A⟩⟩
 obtain rfl:k=a.length:=AA
 gi_wp2
 go_end0
 exact⟨⟨_,rfl⟩,.inl ⟨_,rfl,by rw[AQ (AI _)] at g;exact g⟩⟩
theorem values_stops(n:Nat)(H:1<=n)(d k L cap:Nat)(A:Option Addr)(c:List ByteArray)(I:c.length<=1000)(w:World)(y:d<w.heap.size)(S:k<=w.heap.size)(C:w.cell? ⟨d,0,none⟩=some (.slice A L cap))(g:Js w A L cap c)(v:0<L->∀a,A=some a->a.block<k):
 SeqStopsK Fence.wide n prog 206 #[.pointer (some ⟨d,0,none⟩)] (λx:ByteArray=>#[Value.string x]) (Below k) (λys=>ys=c) (λN=>N <+: c) c.length w:=λl J u W o _ _ B m=>by
 have q:=(o.cell (p:=⟨d,0,none⟩) y).trans C;obtain rfl:=g.len;rcases DM c.length with h | h
 ·have M:=BL h;subst M;exact (values1_none n l d cap A J W q m).mono λe O ⟨F,G⟩=>⟨F,.inl ⟨_,rfl,G⟩⟩
 obtain⟨b,r,s,rfl,R,_,_⟩:=g.get h;have z:=g.below o;have E:∀j s,c[j]? = some s->W.cell? ⟨b,r+j,none⟩=some (.string s):=λj s f=>by
  obtain⟨P,T,U,e,_,t,D⟩:=z.get (AN.1 f).1;injection e with e;injection e with e1 e2;subst e1;subst e2;rw[t.out] at f;injection f with f;rw[D,f]
 exact values1_in n H l d k b r cap c I (v h _ rfl) J u B W q g.cap E m
theorem appendSeq_in(n:Nat)(hn:3<=n)(f L cap:Nat)(A:Option Addr)(m:List ByteArray)(Y:m.length<=1000)(w:World)(O:f<w.heap.size)(T:w.cell? ⟨f,0,none⟩=some (.slice A L cap))(u:Js w A L cap m):
 CallsIn Fence.wide n prog 230 #[.slice none 0 0,.func (.func 206) #[] #[.pointer (some ⟨f,0,none⟩)]] w λe w' =>
  ∃v,e = .returned v/\w'.ownsRow w 9 1 v m.length (m.map Value.string)/\Below w w w':=by
 have J:1<=n:=AA
 have V:(prog.info? 9).map (λi=>(i.zero,i.size,i.bytes))=some (some (.string ⟨#[]⟩),1,16):=AB
 obtain⟨i0,hi,ab,ad,ae⟩:=info_parts V;refine callsIn_of_wp_marks func230 rfl trivial ?_ rfl;simp only[ntmps230,List.size_toArray,AW,DS,Nat.reduceAdd,Nat.reduceSub,Array.replicate_succ,Array.replicate_zero,List.push_toArray,List.append_toArray,DG,DU]
 gi_wp2
 have E:=Boxed.new w 23 (.slice none 0 0);have t:Below w w (w.alloc (.cells #[.slice none 0 0] 23)):=(AK _ w).alloc (AI _) _;have M:0<L->∀a,A=some a->a.block<w.heap.size:=λh a R=>by
  obtain⟨b,ao,s,e,S,_⟩:=u.get h;rw[R] at e;injection e with e;rw[e];exact S
 have aa:=values_stops (n-1) AA f w L cap A m Y w O (AI _) T u M;refine wpIn_rangeFunc_ownG (F:=Fence.wide) (n:=n) rfl J (gf:=206) (lb:=#[.pointer (some ⟨f,0,none⟩)]) rfl trivial (enters_of func206 AB rfl)
  aa belowK_t (belowK_b AE) t (λ_=>rfl)
  (λd W=>(∃v,Boxed W w 23 v/\W.ownsRow w 9 1 v d.length (d.map Value.string)/\True)/\Below w w W)
  (λ_ _ _=>False)
  (OwnFrom.and (Own.from (holdsRow_own w w 23 9 1 (λd:List ByteArray=>d.length) (λd=>d.map Value.string) (λ_ _=>True)) _) (ownFrom_below (AI _) AE))
  (λ_ _ _ _ _ Z _ _=>Z)
  ⟨⟨_,E,⟨rfl,.inl ⟨rfl,rfl⟩⟩,trivial⟩,t⟩
  (λx=>{ tmps:=#[.slice none 0 0,.func (.func 206) #[] #[.pointer (some ⟨f,0,none⟩)],.pointer (some ⟨w,0,none⟩),undef,.slice none 0 0,.string x,.func (.func 206) #[] #[.pointer (some ⟨f,0,none⟩)],.string x,undef,undef,undef,undef,undef],defers:=[] }) ?assign ?body ?done ?stop
 case assign =>
  intro l x W K j
  gi_wp2
  exact j
 case body =>
  rintro l d x W⟨⟨v,g,k,_⟩,o⟩ al;have y:=g.cell;have U:=g.frozen;have N:=o.size;have an:=g.lt
  gi_wp2_with (gi_at_builtin;refine wpListIn_append_own _ rfl _ _ 23 rfl w 9 i0 (.string ⟨#[]⟩) 1 16 underlying23 hi ab ad ae rfl AC _ _ _ rfl (k.alloc _) ⟨W,0,none⟩ 1 1 [.string x] rfl rfl (cell_one_new _ _ _) (by simp[Value.oneCell']) (by simp[maxLen];omega) AA AG ?_;intro v' w3 q z X;have B:(W.alloc (.cells #[.string x] 9)).grownBy w3 v.ownBlock:=z;obtain⟨g',ah,rfl⟩:=ownsRow_succ q;have p:=g.appended AC k N (AI _) q B;have aj:=p.1.cell;have ak:=p.1.frozen;have C:=LH p;clear p z B q X k y U;go_frame)
  obtain⟨_,G,H,I,r⟩:=C.out;exact⟨I.from _,r,⟨_,G,by simpa using H,trivial⟩,o.trans r⟩
 case done =>
  rintro D ys W P rfl⟨⟨v,g,k,_⟩,o⟩ j;have y:=g.cell
  gi_wp2
  refine⟨AE,.inl ⟨_,_,rfl,run_takeDeferred j,?_⟩⟩;exact⟨_,results_tmp rfl _ _ _,v,rfl,ownsRow_putObj k _ j rfl,o.trans (belowK_b (w:=w) (AI _) W D _ _ (by simp at P;omega) j rfl rfl)⟩
 rintro D c d W _ _ h _;exact h.elim
end
section
open Go.RowKit Go.Shelf
attribute [local go_sem] Oper.semAt_some
open Go.RowKit Go.Shelf Go.Sort
theorem collect_s(b L cap:Nat)(A:Option Addr)(a:List ByteArray)(k:a.length<=1000)(w:World)(g:b<w.heap.size)(d:w.cell? ⟨b,0,none⟩=some (.slice A L cap))(c:Js w A L cap a):
 Calls prog 204 #[.func (.func 206) #[] #[.pointer (some ⟨b,0,none⟩)]] w λe w' =>
  ∃v,e = .returned v/\w'.ownsRow w 9 1 v a.length (a.map Value.string)/\Below w w w':=by
 have f:=(callsIn_wide (n:=3)).1 (appendSeq_in 3 AC b L cap A a k w g d c);have H:=LH f;clear f d c;go_enter func204,ntmps204;go_wp2_with (go_at_call 230;(with_reducible refine H.out.mono ?_);rintro e l⟨v,rfl,j,h⟩);go_ret;exact⟨v,rfl,j,h⟩
theorem Zr(w:World)(x:Ext w):Below w w (bl w x):=x.below
theorem Yt(w:World)(x:Ext w)(b o:Nat)(h:b<w.heap.size):(bl w x).cell? ⟨b,o,none⟩=w.cell? ⟨b,o,none⟩:=x.below.cell (p:=⟨b,o,none⟩) h
end
section
open Go.RowKit Go.Maps
def H0(l:List Trm):Bool:=l.all Up&&(decide (l.length<=24)&&Jh l)
end
section
open Go.Maps (Keyed IsMap Tidy)
theorem Zs3(x:Nat)(ys a:List Nat)(k:Nat):
 val (Vn x ys a k).1+4294967296 ^ k*(Vn x ys a k).2=x*val (ys.take k)+val (a.take k):=by
 induction k with
 | zero=>simp[Vn,val]
 | succ k d =>
   rw[Y5,Y5];simp only[Vn];rw[Wf,M1,Nat.pow_succ];generalize (Vn x ys a k).1=f at *;generalize (Vn x ys a k).2=c at *;generalize ys.getD k 0=y at *;generalize a.getD k 0=z at *;generalize (4294967296:Nat) ^ k=B at *;have e:4294967296*((x*y+z+c) / 4294967296)+(x*y+z+c) % 4294967296=x*y+z+c:=Nat.div_add_mod _ _;have:B*((x*y+z+c) % 4294967296)+B*4294967296*((x*y+z+c) / 4294967296)=B*(x*y)+B*z+B*c:=by
    rw[DV,<-Ee,Eo,e,Ee,Ee]
   rw[Ee];have b:x*(B*y)=B*(x*y):=by rw[<-DV,Ej x B,DV]
   omega
def Us(x:Nat)(ys a:List Nat)(i k:Nat):List Nat:=a.take i++(Vn x ys (a.drop i) k).1++a.drop (i+k)
theorem Zz7(x:Nat)(ys a:List Nat)(i:Nat):Us x ys a i 0=a:=by simp[Us,Vn]
theorem Zwa(x:Nat)(ys a:List Nat)(i k:Nat)(h:i+k<a.length):(Us x ys a i k)[i+k]? = a[i+k]? := by
 unfold Us;have b:(a.take i++(Vn x ys (a.drop i) k).1).length=i+k:=by
  rw[AS,BY,M1];omega
 rw[BX AA,b,Nat.sub_self,Ea,DJ]
theorem D0(x:Nat)(ys a:List Nat)(i k s:Nat)(h:i+k<a.length):
 (Us x ys a i k).set (i+k) s=a.take i++((Vn x ys (a.drop i) k).1++[s])++a.drop (i+k+1):=by
 unfold Us;have b:(a.take i++(Vn x ys (a.drop i) k).1).length=i+k:=by
  rw[AS,BY,M1];omega
 rw[List.set_append_right _ _ AA,b,Nat.sub_self,DW h,List.set_cons_zero];simp
theorem Zze(x:Nat)(ys a:List Nat)(i k:Nat)(h:i+k<a.length):
 (Us x ys a i k).set (i+k) ((x*ys.getD k 0+a.getD (i+k) 0+(Vn x ys (a.drop i) k).2) % 4294967296)=Us x ys a i (k+1):=by
 rw[D0 _ _ _ _ _ _ h];have:(a.drop i).getD k 0=a.getD (i+k) 0:=by simp[Ea]
 simp only[Us,Vn,this,Ed]
theorem Nq(x:Nat)(ys a:List Nat)(i k:Nat)(h:i+k<=a.length):(Us x ys a i k).length=a.length:=by
 unfold Us;rw[AS,AS,BY,DC,M1];omega
theorem Mn(a:List Nat)(i:Nat)(h:i<=a.length):val a=val (a.take i)+4294967296 ^ i*val (a.drop i):=by
 have:val (a.take i++a.drop i)=val (a.take i)+4294967296 ^ (a.take i).length*val (a.drop i):=Ny _ _;rw[List.take_append_drop,BY,Nat.min_eq_left h] at this;exact this
theorem mul_row(x:Nat)(ys a:List Nat)(i:Nat)(f:i+ys.length<a.length)(b:∀j,i+ys.length<=j->a.getD j 0=0):
 let c:=(Us x ys a i ys.length).set (i+ys.length) (Vn x ys (a.drop i) ys.length).2
 val c=val a+4294967296 ^ i*(x*val ys)/\c.length=a.length/\∀j,i+1+ys.length<=j->c.getD j 0=0:=by
 have g:=Zs3 x ys (a.drop i) ys.length;have m:=Mn a i AA;have n:=Mn (a.drop i) ys.length (by rw[DC];omega);have h:val ((a.drop i).drop ys.length)=0:=by
  rw[List.drop_drop];exact Ns a _ (λj d=>b j AA)
 have k:val (a.drop (i+ys.length+1))=0:=Ns a _ (λj d=>b j AA);rw[List.take_length] at g;refine⟨?_,?_,?_⟩
 ·rw[D0 _ _ _ _ _ _ f,Ny,Ny,Wf,k,BY,Nat.min_eq_left AA,M1,Nat.mul_zero,DJ];rw[m,n,h,Nat.mul_zero,DJ,g,Ee];omega
 ·rw[List.length_set,Nq _ _ _ _ _ AA]
 intro j d;rw[D0 _ _ _ _ _ _ f];have l:(a.take i++((Vn x ys (a.drop i) ys.length).1++[(Vn x ys (a.drop i) ys.length).2])).length=i+ys.length+1:=by
  rw[AS,AS,BY,M1];simp;omega
 rw[AO,BX AA,l,Ea];have:=b j AA;rw[AO] at this;rw[show i+ys.length+1+(j-(i+ys.length+1))=j from by omega];exact this
end
def MulRel2(w:World)(x:Nat)(ys a:List Nat)(i:Nat)(c q:Value)(wr:World):Prop :=
 ∃k:Nat,k<=ys.length/\q = .int .i64 (k:Int)/\c = .int .u64 ((Vn x ys (a.drop i) k).2:Int)/\Own wr w.heap.size 49 .u32 (Us x ys a i k)/\Below w.heap.size w wr
end Go.Proofs.YtggbjdmpjidhgaaGreatDoor
