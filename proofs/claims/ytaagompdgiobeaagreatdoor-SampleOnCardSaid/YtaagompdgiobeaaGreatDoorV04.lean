/- Words for slices that read as lists: no program in sight. -/
import Derived.Test.YtaagompdgiobeaaGreatDoorV01
import Derived.Test.YtaagompdgiobeaaGreatDoorV02
import Derived.Test.YtaagompdgiobeaaGreatDoorV03
set_option linter.all false
set_option maxHeartbeats 1500000
set_option maxRecDepth 100000
namespace Go.Proofs.YtaagompdgiobeaaGreatDoor
open Go.RowKit Go.Proofs.Tryz
variable{w w' c b w1:World}{A q Ar l:Option Addr}{n g cr p j m B k i use base e id:Nat}{ss rs:List ByteArray}{ts:List Tk}{cs xs:List Value}{d:List Nat × Nat}{f S:Nat->Prop}{ps done:List Prd}{s:Int}{a F o:List Nat}{h:GH}{N:List Bool}{t:TypeId}{r:Rul}{tab:Nat->Nat->Nat}{v:Value}{L:Array Bool->Act->Prop}{Q:Exit->Act->World->Prop}{J:Array Bool->Act->World->Prop}{args:Array Value}
theorem Q2.below(h:Q2 w)(c:Below w w w'):Q2 w':=λj d=>by
 have f:0<w.heap.size:=by
  have b:=h 0 AC;rcases BD 0 w with a | a
  ·exact a
  simp[World.cell?,CZ a] at b
 exact (c.cell (p:=⟨0,j,none⟩) f).trans (h j d)
theorem Js.below{c:Nat}(h:Js w A n c ss)(a:Below w w w'):Js w' A n c ss:=Sl.below h a
theorem N8.below{c:Nat}{ts:List Trm}(h:N8 w A n c ts)(a:Below w w w'):N8 w' A n c ts:=by
 refine⟨h.1,h.2.1,h.2.2.1,λk=>?_⟩;obtain⟨b,f,e,d,g⟩:=h.2.2.2 k;refine⟨b,f,e,AK d a.size,λj t l=>?_⟩;rw[a.cell (p:=⟨b,f+j*3,none⟩) d,a.cell (p:=⟨b,f+j*3+1,none⟩) d,a.cell (p:=⟨b,f+j*3+2,none⟩) d];exact g j t l
theorem Dv.below{c:Nat}{g:List Rul}(h:Dv w A n c g)(a:Below w w w'):Dv w' A n c g:=by
 refine⟨h.1,h.2.1,h.2.2.1,λs=>?_⟩;obtain⟨b,f,e,d,q⟩:=h.2.2.2 s;refine⟨b,f,e,AK d a.size,λj r t=>?_⟩;rw[a.cell (p:=⟨b,f+j*3,none⟩) d,a.cell (p:=⟨b,f+j*3+1,none⟩) d,a.cell (p:=⟨b,f+j*3+2,none⟩) d];obtain⟨Ar,cr,k,l,m,o⟩:=q j r t;exact⟨Ar,cr,k,l,m,o.below a⟩
def Zj(G:Gr):List Bool:=Z3 (Xs (λr N=>Xj false N r.right) G.rules) G.nons.length (List.replicate G.nons.length false)
def Xo(b:Bool)(r:Rul)(N:List Bool):Bool:=Xj b N r.right
def U5(b:Bool)(G:Gr):List Bool:=Z3 (Xs (Xo b) G.rules) G.nons.length (List.replicate G.nons.length false)
theorem Qe(G:Gr):Zj G=U5 false G:=rfl
def Zt(G:Gr):List Bool:=U5 true G
def J6(N:List Bool)(ss:List Int)(k:Nat):Bool:=(ss.take k).all (Xg N)&&(ss.drop (k+1)).all (Xg N)
def Xk(N P:List Bool)(ss:List Int)(k:Nat)(s:Int):Bool:=decide (s<0)&&J6 N ss k&&Xj true P ss
def Um(N P:List Bool)(r:Rul)(k:Nat)(F:List Nat):List Nat:=match r.right[k]? with
 | none=>F
 | some s=>if Xk N P r.right k s then addAt r.left.toNat (Y6 (-1-s)) F else F
def Y2(N P:List Bool)(r:Rul)(k:Nat)(F:List Nat):List Nat:=(List.range k).foldl (λF p=>Um N P r p F) F
theorem Uk(N P:List Bool)(r:Rul)(k:Nat)(F:List Nat):Y2 N P r (k+1) F=Um N P r k (Y2 N P r k F):=by
 unfold Y2;rw[DQ,Et];rfl
def Wo(N P:List Bool)(a:List Rul)(F:List Nat):List Nat:=a.foldl (λF r=>Y2 N P r r.right.length F) F
theorem Zz0(N P:List Bool)(a:List Rul)(r:Rul)(F:List Nat):Wo N P (a++[r]) F=Y2 N P r r.right.length (Wo N P a F):=by simp[Wo]
def Yz(G:Gr):List Nat:=Wo (Zj G) (Zt G) G.rules (List.replicate G.nons.length 0)
theorem growSt_len(N P:List Bool)(r:Rul)(k:Nat)(F:List Nat):(Um N P r k F).length=F.length:=by
 unfold Um;split
 ·rfl
 split
 ·simp[addAt]
 rfl
theorem Kb(N P:List Bool)(r:Rul)(F:List Nat):∀k,(Y2 N P r k F).length=F.length
 | 0=>rfl
 | k+1=>by rw[Uk,growSt_len,Kb N P r F k]
theorem De(N P:List Bool)(a:List Rul)(F:List Nat):(Wo N P a F).length=F.length:=by
 induction a generalizing F with
 | nil=>rfl
 | cons r a b=>show (Wo N P a (Y2 N P r r.right.length F)).length=_;rw[b,Kb]
theorem Wh(G:Gr):(Yz G).length=G.nons.length:=by unfold Yz;rw[De];simp
theorem Au(G:Gr)(l:G.Fits):InS (Yz G):=by
 have m:∀(r:Rul),r∈G.rules->∀(k:Nat) (F:List Nat),(∀i t,(F.getD i 0).testBit t=true->t<G.nons.length)->∀i t,((Um (Zj G) (Zt G) r k F).getD i 0).testBit t=true->t<G.nons.length:=by
  intro r d k F a i t h;unfold Um at h;split at h
  ·exact a i t h
  rename_i s u;split at h
  ·rename_i g;rw[Jo] at h;split at h
   ·rw[DS,CJ] at h;rcases h with h | h
    ·exact a _ t h
    have x:=l.sym r d s (AN u);unfold Xk at g;simp only[AU,decide_eq_true_eq] at g;obtain⟨j,n⟩:∃j:Nat,-1-s=(j:Int):=⟨(-1-s).toNat,AA⟩;rw[n,Uv,AU,BA,BA] at h;omega
   exact a i t h
  exact a i t h
 have p:∀(r:Rul),r∈G.rules->∀(k:Nat) (F:List Nat),(∀i t,(F.getD i 0).testBit t=true->t<G.nons.length)->∀i t,((Y2 (Zj G) (Zt G) r k F).getD i 0).testBit t=true->t<G.nons.length:=by
  intro r d k F a
  induction k with
  | zero=>exact a
  | succ k f=>rw[Uk];exact m r d k _ f
 have o:∀(b:List Rul),(∀r∈b,r∈G.rules)->∀(F:List Nat),(∀i t,(F.getD i 0).testBit t=true->t<G.nons.length)->∀i t,((Wo (Zj G) (Zt G) b F).getD i 0).testBit t=true->t<G.nons.length:=by
  intro b
  induction b with
  | nil=>exact λ_ F a=>a
  | cons r b f=>exact λh F a=>f (λv q=>h v (BO _ q)) _ (p r (h r (By ..)) _ F a)
 intro i t h;rw[Wh];refine o G.rules (λ_ h=>h) _ (λi t h=>?_) i t h;rw[AP] at h;rcases BD i G.nons.length with c | c
 ·simp[c] at h
 simp[BE,c] at h
theorem Dp.snoc(h:Dp cs ts)(t:Tk)(x y:Nat):Dp (cs++[.int .i64 t.1,.string t.2,.complex .f64 x y]) (ts++[t]):=by
 refine⟨by simp[h.1];omega,λj u b=>?_⟩;rcases H4 b with ⟨a,b⟩ | ⟨rfl,rfl⟩
 ·obtain⟨c,d,g,k,f⟩:=h.2 j u b;exact⟨by rw[Xe h.1 a AA];exact c,by rw[Xe h.1 a AA];exact d,g,k,by rw[Xe h.1 a AA];exact f⟩
 exact⟨by rw[Y7 h.1];rfl,by rw[Y7 h.1];rfl,x,y,by rw[Y7 h.1];rfl⟩
def Wc(w:World)(p:Nat)(ts:List Tk):Prop :=
 ts.length<=4000/\∃A c x y a b,Blk w p 186 #[.slice A ts.length c,.complex .f64 x y,.complex .f64 a b,.int .i64 0]/\Kq w p A ts.length c ts
theorem Gi.snoc(h:Gi cs ss)(s:ByteArray)(x y:Nat):Gi (cs++[.string s,.complex .f64 x y]) (ss++[s]):=by
 refine⟨by simp[h.1];omega,λj u a=>?_⟩;rcases H4 a with ⟨b,a⟩ | ⟨rfl,rfl⟩
 ·obtain⟨c,f,g,d⟩:=h.2 j u a;exact⟨by rw[Xe h.1 b AA];exact c,f,g,by rw[Xe h.1 b AA];exact d⟩
 exact⟨by rw[Y7 h.1];rfl,x,y,by rw[Y7 h.1];rfl⟩
def Vu(w:World)(a:Nat->Prop)(cs:List Value)(ps:List Prd):Prop:=cs.length=ps.length*5/\∀(j:Nat) (p:Prd),ps[j]? = some p->∃Ar cr x y d f,
 cs[j*5+0]? = some (.string p.left)/\cs[j*5+1]? = some (.complex .f64 x y)/\cs[j*5+2]? = some (.slice Ar p.right.length cr)/\cs[j*5+3]? = some (.string p.prec)/\cs[j*5+4]? = some (.complex .f64 d f) /\
 Rfs w Ar p.right.length cr p.right/\∀b c,Ar=some ⟨b,c,none⟩->b<w.heap.size/\a b
theorem Vu.keep{d:Nat->Prop}(h:Vu w d cs ps)(l:w.heap.size<=w'.heap.size)(g:∀k,k<w.heap.size->d k->w'.heap[k]? = w.heap[k]? /\ f k):Vu w' f cs ps:=by
 refine⟨h.1,λj p u=>?_⟩;obtain⟨Ar,cr,x,y,v,z,m,n,o,q,r,s,c⟩:=h.2 j p u;exact⟨Ar,cr,x,y,v,z,m,n,o,q,r,s.keep l λb a e t=>(g b t (c b a e).2).1,λb a e=>⟨AK (c b a e).1 l,(g b (c b a e).1 (c b a e).2).2⟩⟩
theorem Vu.app{c:Nat->Prop}{q:List Value}{s:List Prd}(h:Vu w c cs ps)(r:Vu w c q s):Vu w c (cs++q) (ps++s):=by
 refine⟨by rw[AV,AV,h.1,r.1];omega,λj p b=>?_⟩;rcases BD j ps.length with a | a
 ·rw[DB a] at b;obtain⟨Ar,cr,x,y,n,o,d,f,g,k,l,m⟩:=h.2 j p b;exact⟨Ar,cr,x,y,n,o,by rw[Xe h.1 a AA];exact d,by rw[Xe h.1 a AA];exact f,by rw[Xe h.1 a AA];exact g,by rw[Xe h.1 a AA];exact k,by rw[Xe h.1 a AA];exact l,m⟩
 rw[BV a] at b;obtain⟨Ar,cr,x,y,n,o,d,f,g,k,l,m⟩:=r.2 _ p b;have e:∀i,j*5+i=ps.length*5+((j-ps.length)*5+i):=λi=>AA
 exact⟨Ar,cr,x,y,n,o,by rw[e,Y7 h.1];exact d,by rw[e,Y7 h.1];exact f,by rw[e,Y7 h.1];exact g,by rw[e,Y7 h.1];exact k,by rw[e,Y7 h.1];exact l,m⟩
theorem Vu.one{c:Nat->Prop}(p:Prd)(x y f g:Nat)(h:Rfs w Ar p.right.length cr p.right)(k:∀b l,Ar=some ⟨b,l,none⟩->b<w.heap.size/\c b):
 Vu w c [.string p.left,.complex .f64 x y,.slice Ar p.right.length cr,.string p.prec,.complex .f64 f g] [p]:=by
 refine⟨rfl,λj q a=>?_⟩;have d:j<[p].length:=(AO.1 a).1;simp at d;subst d;simp at a;subst a;exact⟨Ar,cr,x,y,f,g,rfl,rfl,rfl,rfl,rfl,h,k⟩
structure V6 (w w':World) (p:Nat) (h h':GH):Prop where
 os:w'.os=w.os
 tape:w'.tape=w.tape
 output:w'.output=w.output
 size:w.heap.size<=w'.heap.size
 keep:∀k,k<w.heap.size->¬J8 p h k->w'.heap[k]? = w.heap[k]?
 back:∀k,k<w.heap.size->J8 p h' k->J8 p h k
theorem V6.refl(w:World)(p:Nat)(h:GH):V6 w w p h h:=⟨rfl,rfl,rfl,AJ _,λ_ _ _=>rfl,λ_ _ h=>h⟩
theorem V6.trans{a:World}{g j:GH}(x:V6 a b p h g)(y:V6 b c p g j):V6 a c p h j :=
 ⟨y.os.trans x.os,y.tape.trans x.tape,y.output.trans x.output,BC x.size y.size,λk d l=>(y.keep k (AK d x.size) λf=>l (x.back k d f)).trans (x.keep k d l),λk d f=>x.back k d (y.back k (AK d x.size) f)⟩
theorem V6.of_below(h:Below w w w')(p:Nat)(a:GH):V6 w w' p a a:=⟨h.os,h.tape,h.output,h.size,λk b _=>h.block k b,λ_ _ h=>h⟩
theorem Kz.keep{d:Nat->Prop}{m:List Rul}(h:Kz w d cs m)(l:w.heap.size<=w'.heap.size)(g:∀k,k<w.heap.size->d k->w'.heap[k]? = w.heap[k]? /\ f k):Kz w' f cs m:=by
 refine⟨h.1,λj p t=>?_⟩;obtain⟨Ar,cr,n,o,q,r,c⟩:=h.2 j p t;exact⟨Ar,cr,n,o,q,ints_keep r l λb a e s=>(g b s (c b a e).2).1,λb a e=>⟨AK (c b a e).1 l,(g b (c b a e).1 (c b a e).2).2⟩⟩
theorem Kz.snoc{a:Nat->Prop}{f:List Rul}(h:Kz w a cs f)(r:Rul)(q:Za .i64 w Ar r.right.length cr r.right)(p:∀b s,Ar=some ⟨b,s,none⟩->b<w.heap.size/\a b):
 Kz w a (cs++[.int .i64 r.left,.slice Ar r.right.length cr,.int .i64 r.prec]) (f++[r]):=by
 refine⟨by simp[h.1];omega,λj u d=>?_⟩;rcases H4 d with ⟨c,d⟩ | ⟨rfl,rfl⟩
 ·obtain⟨g,k,l,m,n,o⟩:=h.2 j u d;exact⟨g,k,by rw[Xe h.1 c AA];exact l,by rw[Xe h.1 c AA];exact m,by rw[Xe h.1 c AA];exact n,o⟩
 exact⟨Ar,cr,by rw[Y7 h.1];rfl,by rw[Y7 h.1];rfl,by rw[Y7 h.1];rfl,q,p⟩
structure Wk (w:World) (p B:Nat) (h:GH) (G:Gr):Prop where
 blk:Blk w p 126 (Q0 h)
 r1:w.ownsRow (p+1) 140 3 (V1 h) h.n1 (V8 G.terms)
 r2:w.ownsRow (p+1) 9 1 (V2 h) h.n2 (G.nons.map Value.string)
 r3:∃cs,w.ownsRow (p+1) 60 3 (V3 h) h.n3 cs/\Kz w (λk=>¬J8 p h k/\k<B/\p<k) cs G.rules
 d12:Da (V1 h) (V2 h)
 d13:Da (V1 h) (V3 h)
 d23:Da (V2 h) (V3 h)
 st:G.start=0
 wf:∀r∈G.rules,∀s∈r.right,U3 s
 b1:h.n1<=24
 b2:h.n2<=16
 b3:h.n3<=40
theorem Wk.mono{c:Nat}{G:Gr}(k:Wk w p B h G)(f:B<=c):Wk w p c h G:=by
 obtain⟨cs,d,g⟩:=k.r3;exact⟨k.blk,k.r1,k.r2,⟨cs,d,g.keep (AJ _) λb _ a=>⟨rfl,a.1,AK a.2.1 f,a.2.2⟩⟩,k.d12,k.d13,k.d23,k.st,k.wf,k.b1,k.b2,k.b3⟩
theorem V6.nf{a:GH}(T:V6 w w' p h a)(b:g<w.heap.size)(d:¬J8 p h g):¬J8 p a g:=λc=>d (T.back g b c)
theorem Wc.len(h:Wc w p ts):ts.length<=4000:=h.1
structure Zyt (wr wx:World) (p gB:Nat) (Ar:Option Addr) (cr:Nat) (L:ByteArray) (x y:Nat) (rs:List ByteArray) (us:List Tk):Prop where
 lo:wr.heap.size<=gB
 blk:Blk wx gB 132 #[.string L,.complex .f64 x y,.slice Ar rs.length cr,.string ⟨#[]⟩,.complex .f64 0 0]
 row:Rfs wx Ar rs.length cr rs
 fresh:∀b off,Ar=some ⟨b,off,none⟩->wr.heap.size<=b/\b<wx.heap.size
 rd:Wc wx p us
 gr:wr.grownBy wx (some p)
theorem prdCs_one{j:Nat->Prop}(h:Vu w j cs ps):∀u∈cs,u.oneCell'=true:=by
 intro u m;obtain⟨i,hi⟩:=BU m;have l:i<cs.length:=(AO.1 hi).1;rw[h.1] at l;have k:i / 5<ps.length:=AA
 obtain⟨Ar,cr,x,y,n,o,b,c,d,f,g,_⟩:=h.2 (i / 5) (ps[i / 5]) (AM k);have a:i % 5=0\/i % 5=1\/i % 5=2\/i % 5=3\/i % 5=4:=AA
 rcases a with a | a | a | a | a
 ·rw[show i / 5*5+0=i by omega,hi] at b;injection b with b;subst b;rfl
 ·rw[show i / 5*5+1=i by omega,hi] at c;injection c with c;subst c;rfl
 ·rw[show i / 5*5+2=i by omega,hi] at d;injection d with d;subst d;rfl
 ·rw[show i / 5*5+3=i by omega,hi] at f;injection f with f;subst f;rfl
 rw[show i / 5*5+4=i by omega,hi] at g;injection g with g;subst g;rfl
theorem alone_true{ss:List Int}(h:∀p s,ss[p]? = some s->p≠k->Xg N s=true):J6 N ss k=true:=by
 unfold J6;rw[AU,BG,BG];constructor
 ·intro s b;obtain⟨p,a⟩:=BU b;rw[El] at a;split at a
  ·exact h p s a AA
  cases a
 intro s b;obtain⟨p,a⟩:=BU b;rw[DY] at a;exact h _ s a AA
theorem alone_false{ss:List Int}(a:ss[p]? = some s)(d:p≠k)(h:Xg N s=false):J6 N ss k=false:=by
 unfold J6;rw[Bool.and_eq_false_iff];rcases BD p k with b | c
 ·left;rw[List.all_eq_false];refine⟨s,?_,by rw[h];simp⟩;exact AN (i:=p) (by rw[El,if_pos b];exact a)
 right;rw[List.all_eq_false];refine⟨s,?_,by rw[h];simp⟩;exact AN (i:=p-(k+1)) (by rw[DY,show k+1+(p-(k+1))=p by omega];exact a)
def Vh(G:Gr):Nat:=if G.right then cycS (Yz G) else 0
theorem Zva(Q:Nat->Nat->Prop)(N P:List Bool)(b:List Rul)(m:∀r∈b,∀k s,r.right[k]? = some s->Xk N P r.right k s=true->Q r.left.toNat (Zp s)):
 ∀(F:List Nat),(∀i t,(F.getD i 0).testBit t=true->Q i t)->∀i t,((Wo N P b F).getD i 0).testBit t=true->Q i t:=by
 have n:∀(r:Rul),r∈b->∀(k:Nat) (F:List Nat),(∀i t,(F.getD i 0).testBit t=true->Q i t)->∀i t,((Um N P r k F).getD i 0).testBit t=true->Q i t:=by
  intro r c k F a i t h;unfold Um at h;split at h
  ·exact a i t h
  rename_i s y;split at h
  ·rename_i d;rw[Jo] at h;split at h
   ·rename_i g;rw[DS,CJ] at h;rcases h with h | h
    ·rw[g.1];exact a _ t h
    have v:=m r c k s y d;unfold Xk at d;simp only[AU,decide_eq_true_eq] at d;obtain⟨j,o⟩:∃j:Nat,-1-s=(j:Int):=⟨(-1-s).toNat,AA⟩;rw[o,Uv,AU,BA,BA] at h;have p:Zp s=t:=by unfold Zp;omega
    rw[g.1,<-p];exact v
   exact a i t h
  exact a i t h
 have u:∀(r:Rul),r∈b->∀(k:Nat) (F:List Nat),(∀i t,(F.getD i 0).testBit t=true->Q i t)->∀i t,((Y2 N P r k F).getD i 0).testBit t=true->Q i t:=by
  intro r c k F a
  induction k with
  | zero=>exact a
  | succ k f=>rw[Uk];exact n r c k _ f
 have q:∀(l:List Rul),(∀r∈l,r∈b)->∀(F:List Nat),(∀i t,(F.getD i 0).testBit t=true->Q i t)->∀i t,((Wo N P l F).getD i 0).testBit t=true->Q i t:=by
  intro l
  induction l with
  | nil=>exact λ_ F a=>a
  | cons r l f=>exact λh F a=>f (λz x=>h z (BO _ x)) _ (u r (h r (By ..)) _ F a)
 exact q b λ_ h=>h
theorem Zyz{b:Bool}(X:Nat->Prop):∀(c:List Rul),(∀r∈c,(∀s∈r.right,(0<=s->b=true)/\(s<0->X (Zp s)))->X r.left.toNat)->
 ∀{N:List Bool},(∀i,N.getD i false=true->X i)->∀i,(Xs (Xo b) c N).getD i false=true->X i
 | [],_,N,hN,i,h=>hN i h
 | r::c,hX,N,hN,i,h=>by
   refine Zyz X c (λq f=>hX q (BO _ f)) (N:=Qa (Xo b) r N) (λj a=>?_) i h;unfold Qa at a;split at a
   ·rename_i d;rcases (Uh _ _ _).1 a with a | ⟨rfl,_⟩
    ·exact hN j a
    refine hX r (By ..) λs g=>?_;have h1:(if 0<=s then b else N.getD (Zp s) false)=true:=BG.1 d s g;refine⟨λh0=>?_,λh0=>?_⟩
    ·rwa [if_pos h0] at h1
    rw[if_neg AA] at h1;exact hN _ h1
   exact hN j a
theorem Zz2{b:Bool}{G:Gr}(X:Nat->Prop)(a:∀r∈G.rules,(∀s∈r.right,(0<=s->b=true)/\(s<0->X (Zp s)))->X r.left.toNat)(h:(U5 b G).getD i false=true):X i:=by
 unfold U5 at h;have key:∀(k i:Nat),(Z3 (Xs (Xo b) G.rules) k (List.replicate G.nons.length false)).getD i false=true->X i:=by
  intro k
  induction k with
  | zero=>intro i h;rw[Z3,Zve] at h;cases h
  | succ k c=>intro i h;exact Zyz X G.rules a c i h
 exact key _ i h
theorem Zv6(N P:List Bool)(r:Rul)(k:Nat){t:Nat}(h:(F.getD i 0).testBit t=true):((Um N P r k F).getD i 0).testBit t=true:=by
 unfold Um;split
 ·exact h
 split
 ·rw[Jo];split
  ·rename_i a;rw[DS,<-a.1,h];rfl
  exact h
 exact h
theorem Zs7(N P:List Bool)(r:Rul){t:Nat}(h:(F.getD i 0).testBit t=true):∀k,((Y2 N P r k F).getD i 0).testBit t=true
 | 0=>h
 | k+1=>by rw[Uk];exact Zv6 N P r k (Zs7 N P r h k)
theorem Zvb(N P:List Bool):∀(a:List Rul) {F:List Nat} {i t:Nat},(F.getD i 0).testBit t=true->((Wo N P a F).getD i 0).testBit t=true
 | [],F,i,t,h=>h
 | r::a,F,i,t,h=>Zvb N P a (Zs7 N P r h _)
theorem Zw8{P:List Bool}(c:r.right[k]? = some s)(d:Xk N P r.right k s=true)(b:r.left.toNat<F.length)(h0:s<0)(a:Zp s<32):
 ∀m,k<m->((Y2 N P r m F).getD r.left.toNat 0).testBit (Zp s)=true
 | 0,h=>AA
 | m+1,h=>by
   rw[Uk];by_cases f:k=m
   ·subst f;unfold Um;rw[c];simp only[];rw[if_pos d,Jo,if_pos ⟨rfl,by rw[Kb];exact b⟩,DS];rw[show (-1-s)=((Zp s:Nat):Int) by unfold Zp;omega,Uv];simp[a]
   exact Zv6 N P r m (Zw8 c d b h0 a m AA)
theorem Zxd{P:List Bool}(c:r.right[k]? = some s)(f:Xk N P r.right k s=true)(h0:s<0)(d:Zp s<32):
 ∀(a:List Rul) {F:List Nat},r∈a->r.left.toNat<F.length->((Wo N P a F).getD r.left.toNat 0).testBit (Zp s)=true
 | q::a,F,b,hl=>by
   rcases BZ.1 b with rfl | b
   ·exact Zvb N P a (Zw8 c f hl h0 d _ (AO.1 c).1)
   exact Zxd c f h0 d a b (by rw[Kb];exact hl)
theorem steps_mem{G:Gr}(f:G.Fits){t:Nat}:((Yz G).getD i 0).testBit t=true↔∃r∈G.rules,∃k s,r.right[k]? = some s/\Xk (Zj G) (Zt G) r.right k s=true/\r.left.toNat=i/\Zp s=t:=by
 constructor
 ·intro h;refine Zva (λi t=>∃r∈G.rules,∃k s,r.right[k]? = some s/\Xk (Zj G) (Zt G) r.right k s=true/\r.left.toNat=i/\Zp s=t) (Zj G) (Zt G) G.rules (λr b k s d a=>⟨r,b,k,s,d,a,rfl,rfl⟩) _ (λi t h=>?_) i t h;rw[AP] at h;rcases BD i G.nons.length with c | c
  ·simp[c] at h
  simp[BE,c] at h
 rintro⟨r,b,k,s,d,a,rfl,rfl⟩;have h0:s<0:=by
  unfold Xk at a;simp only[AU,decide_eq_true_eq] at a;exact a.1.1
 have j:=f.sym r b s (AN d);have g:=f.n2;have c:=f.left r b;exact Zxd d a h0 (by unfold Zp;omega) G.rules b (by rw[Eg];omega)
theorem Fc(c:o.Nodup)(h:o[k]? = some i):toI o i=(k:Int):=by
 unfold toI;refine Q4 h AE λj b y d=>?_;rw[AZ];rintro rfl;have h1:=(AO.1 h);have a:=(AO.1 d);have:=List.pairwise_iff_getElem.1 c j k a.1 h1.1 b;exact this (a.2.trans h1.2.symm)
theorem toI_mem(b:o.Nodup)(h:i∈o):∃k,k<o.length/\o[k]? = some i/\toI o i=(k:Int):=by
 obtain⟨k,a⟩:=BU h;exact⟨k,(AO.1 a).1,a,Fc b a⟩
theorem toI_app(a:(o++[i]).Nodup):toI (o++[i]) i=(o.length:Int):=Fc a AE
def Yc(T:Int->Nat->Nat)(a:List Rul)(i n:Nat):Nat:=Vi ((a.filter λr=>decide (r.left.toNat=i)).map λr=>Zx T r.right n)
def Qw(G:Gr):Nat->Int->Nat->Nat
 | 0,s,n=>if 0<=s then K0 n else 0
 | f+1,s,n=>if 0<=s then K0 n else Yc (Qw G f) G.rules (Zp s) n
theorem Un(G:Gr)(f:Nat)(h:0<=s)(n:Nat):Qw G f s n=K0 n:=by
 cases f <;> simp[Qw,h]
theorem Fg(G:Gr)(f:Nat)(h:s<0)(n:Nat):Qw G (f+1) s n=Yc (Qw G f) G.rules (Zp s) n:=by
 unfold Qw;rw[if_neg AA]
theorem Lu{T c:Int->Nat->Nat}{b:List Rul}(h:∀r∈b,r.left.toNat=i->Zx T r.right n=Zx c r.right n):Yc T b i n=Yc c b i n:=by
 unfold Yc;refine Lx λr a=>?_;rw[List.mem_filter,BA] at a;exact h r a.1 a.2
def mu(G:Gr)(n:Nat)(s:Int):Nat:=n*4294967296+(Xu (Yz G)).getD (Zp s) 0
structure Xq (G:Gr):Prop where
 fits:G.Fits
 prod:∀i,i<G.nons.length->(Zt G).getD i false=true
 none:∀i,i<G.nons.length->Yw (Yz G) i i=false
theorem D2{G:Gr}(c:Xq G)(f:r∈G.rules)(h:r.right[p]? = some s)(h0:s<0)(d:∀(q:Nat) s',q≠p->r.right[q]? = some s'->Xg (Zj G) s'=true):
 ((Yz G).getD r.left.toNat 0).testBit (Zp s)=true:=by
 refine (steps_mem c.fits).2 ⟨r,f,p,s,h,?_,rfl,rfl⟩;unfold Xk J6;simp only[AU,decide_eq_true_eq,BG];refine⟨⟨h0,λq b=>?_,λq b=>?_⟩,U8.2 λq b=>⟨λ_=>rfl,λk=>?_⟩⟩
 ·obtain⟨j,a⟩:=BU b;have g:=(AO.1 a).1;rw[BS] at g;rw[List.getElem?_take_of_lt AA] at a;exact d j q AA a
 ·obtain⟨j,a⟩:=BU b;rw[DY] at a;exact d (p+1+j) q AA a
 have:=c.fits.sym r f q b;exact c.prod _ (by unfold Zp;omega)
def Zv(G:Gr)(s:Int)(n:Nat):Nat:=Qw G (fuelN n) s n
theorem Xb(G:Gr)(h:0<=s)(n:Nat):Zv G s n=K0 n:=Un G _ h n
structure Ni (G:Gr) (ord:List Nat):Prop where
 lt:∀i∈ord,i<G.nons.length
 pre:∀(p i:Nat),ord[p]? = some i->∀t,((Yz G).getD i 0).testBit t=true->t∈ord.take p
 all:∀i,i<G.nons.length->i∈ord
structure Ll (G:Gr) (ord:List Nat) (tab:Nat->Nat->Nat) (m p:Nat):Prop where
 low:∀k,k<m->∀i,i<G.nons.length->tab k i=Zv G (-1-(i:Int)) k
 now:∀i,i∈ord.take p->tab m i=Zv G (-1-(i:Int)) m
 rest:∀i,i∉ord.take p->tab m i=0
theorem Ll.row{G:Gr}(c:Ni G a)(h:Ll G a tab m a.length)(h0:∀i,tab (m+1) i=0):Ll G a tab (m+1) 0:=by
 refine⟨λk b i hi=>?_,λi hi=>by simp at hi,λi _=>h0 i⟩;rcases (AA:k<m\/k=m) with b | rfl
 ·exact h.low k b i hi
 exact h.now i (by rw[List.take_length];exact c.all i hi)
theorem told_forest{G:Gr}(h:∀k,k<=n->∀i,i<G.nons.length->tab k i=Zv G (-1-(i:Int)) k){l:List Int}(a:∀s∈l,s<0->Zp s<G.nons.length)(d:m<=n):
 Zx (Yk tab) l m=Zx (Zv G) l m:=by
 refine Wp λq b k c=>?_;unfold Yk;split
 ·rename_i h0;exact (Xb G h0 k).symm
 rename_i h0;rw[h k AA _ (a q b AA),Fr AA]
theorem Gg(T:Int->Nat->Nat)(a:List Rul)(r:Rul)(i n:Nat):Yc T (a++[r]) i n=Yc T a i n+(if r.left.toNat=i then Zx T r.right n else 0):=by
 unfold Yc;rw[List.filter_append,DJ,Na];by_cases h:r.left.toNat=i
 ·simp[h,Vi]
 simp[h,Vi]
theorem Off.of_below(h:Below w w w'):Off S w w':=⟨h.os,h.tape,h.output,h.size,λk a _=>h.block k a⟩
structure Red2 (W0:World) (gO gT n:Nat) (v1:Value) (G:Gr) (w:World) (Ak:Option Addr) (ck:Nat) (An:Option Addr) (cn:Nat) (ks old:List Nat):Prop where
 off:Off (λk=>k=gT\/k=gO) W0 w
 tos:Blk w gT 3 (ints .i64 (toL n old)).toArray
 out:Blk w gO 26 #[v1,.slice An old.length cn,.slice none 0 0,.int .i64 0]
 kept:w.ownsRow W0.heap.size 3 1 (.slice Ak ks.length ck) ks.length (ints .i64 (Z6 ks))
 nons:w.ownsRow W0.heap.size 9 1 (.slice An old.length cn) old.length (old.map λi=>Value.string (Ws G i))
structure Zyu (W0:World) (gO:Nat) (v1 v2:Value) (w:World) (A3:Option Addr) (c3:Nat) (rs:List Rul):Prop where
 off:Off (λk=>k=gO) W0 w
 out:Blk w gO 26 #[v1,v2,.slice A3 rs.length c3,.int .i64 0]
 rules:∃cs,w.ownsRow W0.heap.size 60 3 (.slice A3 rs.length c3) rs.length cs/\Kz w (λb=>W0.heap.size<=b/\(Value.slice A3 rs.length c3).ownBlock≠some b) cs rs
theorem wk_decls(p:Nat)(h:GH)(G:Gr)(w:World)(k:Wk w p B h G):
 Calls prog 71 #[.pointer (some ⟨p,0,none⟩),.slice none 0 0] w λe w'=>e = .returned (.tuple #[])/\w=w':=by
 clear k;go_enter func71,ntmps71;go_wp2_with fail;go_loopw [4] (λi wr=>i = .int .i64 0/\wr=w) (λ_ _=>0)
 case atStart=>exact⟨rfl,rfl⟩
 obtain⟨rfl,rfl⟩:=hrel;go_wp2_with fail;(try simp only[Exit.inBlock,Exit.then]);refine bodyPost_end (results_none rfl _ _ _) rfl ?_;exact⟨rfl,rfl⟩
theorem tr_Del_nil(b:Value)(w:World):Calls prog 198 #[.slice none 0 0,b] w λe w'=>e = .returned (.slice none 0 0)/\w=w':=by
 have a:=Tryz.slices_IndexFunc_empty_f153 (α:=Int) none 0 b w;have c:=LH a;clear a;go_enter func198,ntmps198;go_wp2_with (go_at_call 153;refine c.out.mono ?_;rintro e w'⟨rfl,rfl⟩);go_ret;exact⟨rfl,rfl⟩
theorem cyc22A:Vh Xt=0:=AB
theorem Cel.mono{S':Nat->Prop}{X a:World}{l:Bool}{m:Value}(h:Cel S j X v l m)(x:∀q,S q->S' q)(s:∀g t f,v = .pointer (some ⟨g,0,none⟩)->Blk X g t f->Blk a g t f):Cel S' j a v l m:=by
 obtain⟨g,A,n,c,d,e,h1,o,p,r⟩:=h;exact⟨g,A,n,c,d,e,h1,x _ o,s _ _ _ e p,r⟩
section
open Go.RowKit Go.Maps
theorem Blk.lt{cs:Array Value}(h:Blk w g t cs):g<w.heap.size:=by
 rcases BD g w with b | a
 ·exact b
 unfold Blk at h;rw[CZ a] at h;cases h
theorem Blk.grown{cs:Array Value}{row:Option Nat}(h:Blk w g t cs)(a:w.grownBy w' row)(b:some g≠row):Blk w' g t cs:=(a.block g h.lt b).trans h
def V0(w:World)(g:Nat)(F:List Nat):Prop:=Blk w g 41 (nums .u32 F).toArray
theorem V0.put(h:V0 w g F)(i v:Nat):V0 (w.setCell ⟨g,i,none⟩ (.int .u32 (v:Int))) g (F.set i v):=by
 have:=Blk.set h i (.int .u32 (v:Int));unfold V0;rwa [show (nums .u32 (F.set i v)).toArray=(nums .u32 F).toArray.setIfInBounds i (.int .u32 (v:Int)) by simp[nums,List.map_set]]
end
theorem OrdI.step{S:List Nat}(g:use<4294967296)(h:OrdI S use n d):OrdI S use n (Zza S use n d):=by
 cases c:Qx (U2 S use d.2) n with
 | none=>rw[Ln c];exact h
 | some i =>
   rw[Ly c];obtain⟨hi,b⟩:=Cj c;unfold U2 at b;simp only[AU] at b;have f:=Ztx g b.1.1;refine⟨Ct h.lt (Ua _),λt=>?_,λt a=>?_⟩
   ·rw[DS,Uv,CJ,h.mem t,DD,BP];simp[f]
   rcases DD.1 a with a | a
   ·exact h.use t a
   rw[BP] at a;subst a;exact⟨b.1.1,hi⟩
theorem Dl(S:List Nat)(n:Nat)(a:use<4294967296):∀k,OrdI S use n (Y4 S use n k)
 | 0=>⟨by show 0<4294967296;decide,λt=>by simp[Y4,Z3],λt h=>by simp[Y4,Z3] at h⟩
 | k+1=>by rw[Nf];exact (Dl S n a k).step a
theorem Kq.grown{c:Nat}(h:Kq w B A n c ts)(b:w.grownBy w' (some p))(g:B<=p):Kq w' B A n c ts :=
 h.keep b.size λk f d=>b.block k d (by intro a;injection a with a;omega)
theorem Wk.lt{G:Gr}(k:Wk w p B h G):p<w.heap.size:=k.blk.lt
theorem Yq{size c:Nat}(h:w.ownsRow base e size (.slice A n c) n xs)(d:∀b,base<=b->(Value.slice A n c).ownBlock=some b->b<w.heap.size->w'.heap[b]? = w.heap[b]?):w'.ownsRow base e size (.slice A n c) n xs :=
 Wv h λb a f=>d b (h.lt b a).1 a f
theorem Wk.put1{G:Gr}(k:Wk w p B h G)(t:Trm)(l:h.n1<24)(c:Option Addr)(d:Nat)(D:w1.ownsRow (p+1) 140 3 (.slice c (h.n1+1) d) (h.n1+1) (V8 G.terms++[.string t.name,.int .i64 t.level,.int .i64 t.assoc]))(m:w.grownBy w1 (V1 h).ownBlock)(q:∀b,(Value.slice c (h.n1+1) d).ownBlock=some b->b<w.heap.size->(V1 h).ownBlock=some b):
 Wk (w1.setCell ⟨p,0,none⟩ (.slice c (h.n1+1) d)) p B { h with a1:=c,n1:=h.n1+1,c1:=d } { G with terms:=G.terms++[t] } /\
 V6 w (w1.setCell ⟨p,0,none⟩ (.slice c (h.n1+1) d)) p h { h with a1:=c,n1:=h.n1+1,c1:=d }:=by
 obtain⟨cs,s,z⟩:=k.r3;have E:∀b,(V1 h).ownBlock=some b->b≠p:=λb a=>by have:=(k.r1.lt b a).1;omega
 have u:∀b,b≠p->(w1.setCell ⟨p,0,none⟩ (.slice c (h.n1+1) d)).heap[b]? = w1.heap[b]? := λb a=>Eb w1 ⟨p,0,none⟩ _ b a;have v:w.heap.size<=(w1.setCell ⟨p,0,none⟩ (.slice c (h.n1+1) d)).heap.size:=by simpa using m.size
 have r:∀b,b<w.heap.size->b≠p->(V1 h).ownBlock≠some b->(w1.setCell ⟨p,0,none⟩ (.slice c (h.n1+1) d)).heap[b]? = w.heap[b]? := λb a C n =>
  (u b C).trans (m.block b a λe=>n e.symm)
 have o:V6 w (w1.setCell ⟨p,0,none⟩ (.slice c (h.n1+1) d)) p h { h with a1:=c,n1:=h.n1+1,c1:=d }:=by
  refine⟨m.os,m.tape,m.output,v,λb a l=>r b a (λe=>l (.inl e)) λe=>l (.inr (.inl e)),?_⟩;rintro b a (f | f | f | f)
  ·exact .inl f
  ·exact .inr (.inl (q b f a))
  ·exact .inr (.inr (.inl f))
  exact .inr (.inr (.inr f))
 refine⟨⟨?_,?_,?_,⟨cs,?_,?_⟩,?_,?_,?_,k.st,k.wf,by show h.n1+1<=24;omega,k.b2,k.b3⟩,o⟩
 ·have y:Blk w1 p 126 (Q0 h):=k.blk.grown m λe=>E p e.symm rfl;exact Blk.set y 0 (.slice c (h.n1+1) d)
 ·rw[trmCs_snoc];exact Yq D λb a _ _=>u b AA
 ·exact Yq k.r2 λb a g j=>r b j AA λe=>k.d12 b e g
 ·exact Yq s λb a x j=>r b j AA λe=>k.d13 b e x
 ·exact z.keep v λb a l=>⟨o.keep b a l.1,λA=>l.1 (o.back b a A),l.2⟩
 ·intro b n g;have j:=(k.r2.lt b g).2;exact k.d12 b (q b n j) g
 ·intro b n g;have j:=(s.lt b g).2;exact k.d13 b (q b n j) g
 exact k.d23
theorem Wk.put2{G:Gr}(k:Wk w p B h G)(s:ByteArray)(j:h.n2<16)(c:Option Addr)(d:Nat)(D:w1.ownsRow (p+1) 9 1 (.slice c (h.n2+1) d) (h.n2+1) (G.nons.map Value.string++[.string s]))(n:w.grownBy w1 (V2 h).ownBlock)(q:∀b,(Value.slice c (h.n2+1) d).ownBlock=some b->b<w.heap.size->(V2 h).ownBlock=some b):
 Wk (w1.setCell ⟨p,1,none⟩ (.slice c (h.n2+1) d)) p B { h with a2:=c,n2:=h.n2+1,c2:=d } { G with nons:=G.nons++[s] } /\
 V6 w (w1.setCell ⟨p,1,none⟩ (.slice c (h.n2+1) d)) p h { h with a2:=c,n2:=h.n2+1,c2:=d }:=by
 obtain⟨cs,t,z⟩:=k.r3;have E:∀b,(V2 h).ownBlock=some b->b≠p:=λb a=>by have:=(k.r2.lt b a).1;omega
 have u:∀b,b≠p->(w1.setCell ⟨p,1,none⟩ (.slice c (h.n2+1) d)).heap[b]? = w1.heap[b]? := λb a=>Eb w1 ⟨p,1,none⟩ _ b a;have v:w.heap.size<=(w1.setCell ⟨p,1,none⟩ (.slice c (h.n2+1) d)).heap.size:=by simpa using n.size
 have r:∀b,b<w.heap.size->b≠p->(V2 h).ownBlock≠some b->(w1.setCell ⟨p,1,none⟩ (.slice c (h.n2+1) d)).heap[b]? = w.heap[b]? := λb a C l =>
  (u b C).trans (n.block b a λe=>l e.symm)
 have o:V6 w (w1.setCell ⟨p,1,none⟩ (.slice c (h.n2+1) d)) p h { h with a2:=c,n2:=h.n2+1,c2:=d }:=by
  refine⟨n.os,n.tape,n.output,v,λb a j=>r b a (λe=>j (.inl e)) λe=>j (.inr (.inr (.inl e))),?_⟩;rintro b a (f | f | f | f)
  ·exact .inl f
  ·exact .inr (.inl f)
  ·exact .inr (.inr (.inl (q b f a)))
  exact .inr (.inr (.inr f))
 refine⟨⟨?_,?_,?_,⟨cs,?_,?_⟩,?_,?_,?_,k.st,k.wf,k.b1,by show h.n2+1<=16;omega,k.b3⟩,o⟩
 ·have y:Blk w1 p 126 (Q0 h):=k.blk.grown n λe=>E p e.symm rfl;exact Blk.set y 1 (.slice c (h.n2+1) d)
 ·exact Yq k.r1 λb a m g=>r b g AA λe=>k.d12 b m e
 ·show World.ownsRow _ _ _ _ _ _ ((G.nons++[s]).map Value.string);rw[DJ];exact Yq D λb a _ _=>u b AA
 ·exact Yq t λb a x g=>r b g AA λe=>k.d23 b e x
 ·exact z.keep v λb a j=>⟨o.keep b a j.1,λA=>j.1 (o.back b a A),j.2⟩
 ·intro b l m;have g:=(k.r1.lt b l).2;exact k.d12 b l (q b m g)
 ·exact k.d13
 intro b l m;have g:=(t.lt b m).2;exact k.d23 b (q b l g) m
theorem Wk.put3{G:Gr}(k:Wk w p B h G)(t:Nat)(D:B<=t)(r:Rul)(R:∀s∈r.right,U3 s)(f:h.n3<40)(c:Option Addr)(d:Nat)(Ar:Option Addr)(cr:Nat)(N:Za .i64 w Ar r.right.length cr r.right)(O:∀b S,Ar=some ⟨b,S,none⟩->b<w.heap.size/\¬J8 p h b/\b<t/\p<b)(J:∀cs,w.ownsRow (p+1) 60 3 (V3 h) h.n3 cs->Kz w (λk=>¬J8 p h k/\k<B/\p<k) cs G.rules->w1.ownsRow (p+1) 60 3 (.slice c (h.n3+1) d) (h.n3+1) (cs++[.int .i64 r.left,.slice Ar r.right.length cr,.int .i64 r.prec]))(n:w.grownBy w1 (V3 h).ownBlock)(v:∀b,(Value.slice c (h.n3+1) d).ownBlock=some b->b<w.heap.size->(V3 h).ownBlock=some b):
 Wk (w1.setCell ⟨p,2,none⟩ (.slice c (h.n3+1) d)) p t { h with a3:=c,n3:=h.n3+1,c3:=d } { G with rules:=G.rules++[r] } /\
 V6 w (w1.setCell ⟨p,2,none⟩ (.slice c (h.n3+1) d)) p h { h with a3:=c,n3:=h.n3+1,c3:=d }:=by
 obtain⟨cs,y,z⟩:=k.r3;have L:=J cs y z;have M:∀b,(V3 h).ownBlock=some b->b≠p:=λb a=>by have:=(y.lt b a).1;omega
 have A:∀b,b≠p->(w1.setCell ⟨p,2,none⟩ (.slice c (h.n3+1) d)).heap[b]? = w1.heap[b]? := λb a=>Eb w1 ⟨p,2,none⟩ _ b a;have C:w.heap.size<=(w1.setCell ⟨p,2,none⟩ (.slice c (h.n3+1) d)).heap.size:=by simpa using n.size
 have x:∀b,b<w.heap.size->b≠p->(V3 h).ownBlock≠some b->(w1.setCell ⟨p,2,none⟩ (.slice c (h.n3+1) d)).heap[b]? = w.heap[b]? := λb a I j =>
  (A b I).trans (n.block b a λe=>j e.symm)
 have u:V6 w (w1.setCell ⟨p,2,none⟩ (.slice c (h.n3+1) d)) p h { h with a3:=c,n3:=h.n3+1,c3:=d }:=by
  refine⟨n.os,n.tape,n.output,C,λb a f=>x b a (λe=>f (.inl e)) λe=>f (.inr (.inr (.inr e))),?_⟩;rintro b a (g | g | g | g)
  ·exact .inl g
  ·exact .inr (.inl g)
  ·exact .inr (.inr (.inl g))
  exact .inr (.inr (.inr (v b g a)))
 refine⟨⟨?_,?_,?_,⟨cs++[.int .i64 r.left,.slice Ar r.right.length cr,.int .i64 r.prec],?_,?_⟩,?_,?_,?_,k.st,?_,k.b1,k.b2,by show h.n3+1<=40;omega⟩,u⟩
 ·have E:Blk w1 p 126 (Q0 h):=k.blk.grown n λe=>M p e.symm rfl;exact Blk.set E 2 (.slice c (h.n3+1) d)
 ·exact Yq k.r1 λb a l m=>x b m AA λe=>k.d13 b l e
 ·exact Yq k.r2 λb a l m=>x b m AA λe=>k.d23 b l e
 ·exact Yq L λb a _ _=>A b AA
 ·have F:Kz w (λk=>¬J8 p h k/\k<t/\p<k) cs G.rules:=z.keep (AJ _) λb _ f=>⟨rfl,f.1,AK f.2.1 D,f.2.2⟩;exact (F.snoc r N O).keep C λb a f=>⟨u.keep b a f.1,λH=>f.1 (u.back b a H),f.2⟩
 ·exact k.d12
 ·intro b j l;have m:=(k.r1.lt b j).2;exact k.d13 b j (v b l m)
 ·intro b j l;have m:=(k.r2.lt b j).2;exact k.d23 b j (v b l m)
 intro q o;rcases DD.1 o with o | o
 ·exact k.wf q o
 rw[BP.1 o];exact R
theorem Wk.away{G:Gr}(k:Wk w p B h G)(m:w.heap.size<=w'.heap.size)(c:∀b,b<w.heap.size->(J8 p h b\/b<B)->w'.heap[b]? = w.heap[b]?):Wk w' p B h G:=by
 obtain⟨cs,g,l⟩:=k.r3;exact⟨(c p k.lt (.inl (.inl rfl))).trans k.blk,Yq k.r1 λb _ a d=>c b d (.inl (.inr (.inl a))),Yq k.r2 λb _ a d=>c b d (.inl (.inr (.inr (.inl a)))),
  ⟨cs,Yq g λb _ a d=>c b d (.inl (.inr (.inr (.inr a)))),l.keep m λb j f=>⟨c b j (.inr f.2.1),f⟩⟩,k.d12,k.d13,k.d23,k.st,k.wf,k.b1,k.b2,k.b3⟩
theorem Wk.foot_lt{G:Gr}(k:Wk w p B h G){b:Nat}(d:J8 p h b):b<w.heap.size:=by
 obtain⟨cs,c,_⟩:=k.r3;rcases d with a | a | a | a
 ·rw[a];exact k.lt
 ·exact (k.r1.lt b a).2
 ·exact (k.r2.lt b a).2
 exact (c.lt b a).2
theorem V6.blk{b:GH}{cs:Array Value}(T:V6 w w' p h b)(a:Blk w g t cs)(c:¬J8 p h g):Blk w' g t cs:=(T.keep g a.lt c).trans a
theorem Wc.lt(h:Wc w p ts):p<w.heap.size:=by
 obtain⟨b,A,c,x,y,f,g,a,d⟩:=h;exact a.lt
theorem below_appendG{wr:World}{size:Nat}{c:Nat}(a:Below base w wr)(d:wr.grownBy w' (Value.slice A n c).ownBlock)(g:wr.ownsRow base e size (.slice A n c) n xs)(b:base<=wr.heap.size):Below base w w' :=
 a.grown d b λk f=>(g.lt k f).1
theorem Wc.keep(h:Wc w p ts)(j:w.heap.size<=w'.heap.size)(b:∀k,k<=p->k<w.heap.size->w'.heap[k]? = w.heap[k]?):Wc w' p ts:=by
 obtain⟨g,A,c,x,y,m,n,a,l⟩:=h;exact⟨g,A,c,x,y,m,n,(b p (AJ _) a.lt).trans a,l.keep j λk d f=>b k (DT d) f⟩
theorem Wc.app{size c:Nat}(h:Wc w p ts)(a:w.grownBy w' (Value.slice A n c).ownBlock)(d:w.ownsRow base e size (.slice A n c) n xs)(g:p<base):Wc w' p ts :=
 h.keep a.size λk f b=>a.block k b λe=>by have:=(d.lt k e.symm).1;omega
theorem Qg{size c:Nat}(a:w.ownsRow base e size (.slice A n c) n xs)(g:w.grownBy w' (some p))(h:p<base):w'.ownsRow base e size (.slice A n c) n xs :=
 Wv a λb d f=>g.block b f λe=>by injection e with e;have:=(a.lt b d).1;omega
theorem grown_app{size c:Nat}(h:w.grownBy w1 (some p))(a:w1.grownBy w' (Value.slice A n c).ownBlock)(f:w1.ownsRow base e size (.slice A n c) n xs)(g:w.heap.size<=base):w.grownBy w' (some p) :=
 ⟨a.os.trans h.os,a.tape.trans h.tape,a.output.trans h.output,BC h.size a.size,λk b d=>(a.block k (AK b h.size) λe=>by have:=(f.lt k e.symm).1;omega).trans (h.block k b d)⟩
theorem Zs9{g wr t n:World}{d c v G x y:Nat}{u:Option Addr}{e:TypeId}{L:ByteArray}{D:List Tk}(J:p<g.heap.size)(j:g.grownBy wr (some p))(F:wr.ownsRow g e 5 (.slice A d c) d cs)(E:Vu wr (λb=>g.heap.size<=b/\(Value.slice A d c).ownBlock≠some b) cs done)(a:Zyt wr t p G Ar cr L x y rs D)(f:t.grownBy n (Value.slice A d c).ownBlock)(z:∀b,(Value.slice u (d+1) v).ownBlock=some b->b<t.heap.size->(Value.slice A d c).ownBlock=some b):
 Vu n (λb=>g.heap.size<=b/\(Value.slice u (d+1) v).ownBlock≠some b) (cs++[.string L,.complex .f64 x y,.slice Ar rs.length cr,.string ⟨#[]⟩,.complex .f64 0 0]) (done++[⟨L,rs,⟨#[]⟩⟩])/\g.grownBy n (some p)/\Wc n p D:=by
 have M:=j.size;have N:=a.gr.size;have C:=f.size;have m:∀b,(Value.slice A d c).ownBlock=some b->g.heap.size<=b/\b<wr.heap.size:=λb h=>F.lt b h;refine⟨Vu.app (E.keep AA λk r H=>?_) (Vu.one ⟨L,rs,⟨#[]⟩⟩ x y 0 0 ?_ λb s q=>?_),?_,?_⟩
 ·obtain⟨h1,l⟩:=H;refine⟨?_,h1,λo=>l (z k o AA)⟩;rw[f.block k AA (λh=>l h.symm),a.gr.block k r (λh=>by injection h with h;omega)]
 ·refine a.row.keep C λb s q I=>f.block b I λh=>?_;have:=(a.fresh b s q).1;have:=(m b h.symm).2;omega
 ·have h1:=a.fresh b s q;refine⟨AA,AA,λo=>?_⟩;have:=(m b (z b o AA)).2;omega
 ·refine⟨f.os.trans (a.gr.os.trans j.os),f.tape.trans (a.gr.tape.trans j.tape),f.output.trans (a.gr.output.trans j.output),AA,λk r B=>?_⟩;rw[f.block k AA (λh=>by have:=(m k h.symm).1;omega),a.gr.block k AA B,j.block k r B]
 exact a.rd.keep C λk h1 l=>f.block k l λh=>by have:=(m k h.symm).1;omega
theorem Vu.grown(h:Vu w (λb=>B<=b/\v.ownBlock≠some b) cs ps)(c:w.grownBy w' (some p))(f:p<B):Vu w' (λb=>B<=b/\v.ownBlock≠some b) cs ps :=
 h.keep c.size λk d a=>⟨c.block k d λe=>by injection e with e;have:=a.1;omega,a⟩
theorem own_cells{size c:Nat}(h:w.ownsRow base e size (.slice A n c) n xs)(o:0<n):∃g,A=some ⟨g,0,none⟩/\base<=g/\g<w.heap.size/\∀j u,xs[j]? = some u->w.cell? ((⟨g,0,none⟩:Addr).add j)=some u:=by
 rcases h.2 with ⟨a,rfl⟩ | ⟨g,cap,f,a,b,m,p,k,l,q⟩
 ·omega
 injection a with h1 h2 h3;subst h1;have d:=h.lt g rfl;exact⟨g,rfl,b,d.2,h.cells rfl⟩
theorem Ll.put{G:Gr}{c:List Nat}(h:Ll G c tab m p)(hi:c[p]? = some i)(v:Nat)(l:v=Zv G (-1-(i:Int)) m):Ll G c (U6 tab m i v) m (p+1):=by
 have d:c.take (p+1)=c.take p++[i]:=by rw[Du,hi];rfl
 refine⟨λk g j a=>?_,λj a=>?_,λj a=>?_⟩
 ·unfold U6;rw[if_neg AA];exact h.low k g j a
 ·unfold U6;split
  ·rename_i b;rw[b.2];exact l
  rename_i b;rw[d,DD,BP] at a;rcases a with a | a
  ·exact h.now j a
  exact absurd ⟨rfl,a⟩ b
 rw[d,DD,BP] at a;unfold U6;rw[if_neg (by rintro⟨_,b⟩;exact a (.inr b))];exact h.rest j λf=>a (.inl f)
theorem Off.trans{T:Nat->Prop}{a:World}(x:Off S a b)(y:Off T b c)(h:∀k,k<a.heap.size->T k->S k):Off S a c :=
 ⟨y.os.trans x.os,y.tape.trans x.tape,y.output.trans x.output,BC x.size y.size,λk d f=>(y.keep k (AK d x.size) λg=>f (h k d g)).trans (x.keep k d f)⟩
theorem Off.is_below(x:Off S w w')(a:B<=w.heap.size)(b:∀k,S k->B<=k):Below B w w' :=
 ⟨x.os,x.tape,x.output,x.size,λk c=>x.keep k (AK c a) λd=>by have:=b k d;omega⟩
theorem Off.blk{cs:Array Value}(x:Off S w w')(a:Blk w g t cs)(b:¬S g):Blk w' g t cs:=(x.keep g a.lt b).trans a
theorem Off.row{size c:Nat}(x:Off S w w')(h:w.ownsRow base e size (.slice A n c) n xs)(f:∀b,(Value.slice A n c).ownBlock=some b->¬S b):w'.ownsRow base e size (.slice A n c) n xs :=
 Wv h λb a d=>x.keep b d (f b a)
theorem offX{a:World}{r:Nat}(h:Off (λk=>k=g) w a)(c:Off (λk=>k=r) a b):Off (λk=>k=g\/k=r) w b :=
 (Off.trans (S:=λk=>k=g\/k=r) ⟨h.os,h.tape,h.output,h.size,λk d f=>h.keep k d λe=>f (.inl e)⟩ c λ_ _ e => .inr e)
theorem Red2.put{d f:Nat}{x:Value}{G:Gr}{s:Option Addr}{u:Nat}{v:List Nat}(r:Red2 c d f n x G w l m s u a v)(B:f<c.heap.size)(A:d<c.heap.size)(j:Nat)(q:Option Addr)(t:Nat)(z:w1.ownsRow c 3 1 (.slice q (a.length+1) t) (a.length+1) (ints .i64 (Z6 a)++[.int .i64 (j:Int)]))(y:w.grownBy w1 (Value.slice l a.length m).ownBlock):
 Red2 c d f n x G w1 q t s u (a++[j]) v:=by
 have g:=Off.of_grown y;have p:∀b,(Value.slice l a.length m).ownBlock=some b->c.heap.size<=b:=λb o=>(r.kept.lt b o).1;refine⟨r.off.trans g λk C h=>?_,g.blk r.tos λh=>?_,g.blk r.out λh=>?_,?_,g.row r.nons λb o h=>Fe r.kept r.nons AC h o⟩
 ·have:=p k h;omega
 ·have:=p f h;omega
 ·have:=p d h;omega
 have e:ints .i64 (Z6 (a++[j]))=ints .i64 (Z6 a)++[.int .i64 (j:Int)]:=by simp[ints,Z6]
 rw[e,AV,CX];exact z
theorem Zyu.put{u:Value}{f:Option Addr}{c3:Nat}{a:List Rul}(r:Zyu c j u v w f c3 a)(E:j<c.heap.size)(q:Rul)(C:Za .i64 w Ar q.right.length cr q.right)(z:∀b D,Ar=some ⟨b,D,none⟩->b<w.heap.size/\c.heap.size<=b/\(Value.slice f a.length c3).ownBlock≠some b)(d:Option Addr)(g:Nat)(B:∀cs,w.ownsRow c 60 3 (.slice f a.length c3) a.length cs->w1.ownsRow c 60 3 (.slice d (a.length+1) g) (a.length+1) (cs++[.int .i64 q.left,.slice Ar q.right.length cr,.int .i64 q.prec]))(A:w.grownBy w1 (Value.slice f a.length c3).ownBlock)(l:∀b,(Value.slice d (a.length+1) g).ownBlock=some b->b<w.heap.size->(Value.slice f a.length c3).ownBlock=some b):
 Zyu c j u v (w1.setCell ⟨j,2,none⟩ (.slice d (a.length+1) g)) d g (a++[q]):=by
 obtain⟨cs,h1,x⟩:=r.rules;have m:=Off.of_grown A;have o:=Off.of_set w1 j 2 (.slice d (a.length+1) g);have s:∀b,(Value.slice f a.length c3).ownBlock=some b->c.heap.size<=b:=λb l=>(h1.lt b l).1;have t:=B cs h1;refine⟨(r.off.trans m λk n h=>?_).trans o λk _ h=>h,?_,cs++[.int .i64 q.left,.slice Ar q.right.length cr,.int .i64 q.prec],?_,?_⟩
 ·have:=s k h;omega
 ·have y:=m.blk r.out λh=>by have:=s j h;omega
  have:=Blk.set y 2 (.slice d (a.length+1) g);rw[AV,CX];exact this
 ·rw[AV,CX];refine o.row t λb l h=>?_;have:=(t.lt b l).1;omega
 rw[AV,CX];refine (x.snoc q C z).keep (by have:=m.size;have:=o.size;omega) λk n p=>⟨(o.keep k (AK n m.size) λh=>AA).trans (m.keep k n p.2),p.1,λe=>p.2 (l k e n)⟩
theorem Off.maps_trans{k:CH}{a:World}(x:Off k.maps a b)(y:Off k.maps b c):Off k.maps a c:=x.trans y λ_ _ h=>h
theorem Off.maps_new{k:CH}{a:World}(x:Off k.maps a b)(y:Off (λq=>q=g) b c)(d:a.heap.size<=g):Off k.maps a c:=x.trans y λq f h=>AA
theorem nodup_ne{b:List Nat}(h:b.Nodup){a:Nat}(o:b[m]? = some g)(p:b[a]? = some j)(q:a≠m):j≠g:=by
 rintro rfl;obtain⟨l,d⟩:=AO.1 o;obtain⟨n,f⟩:=AO.1 p;have k:=List.pairwise_iff_getElem.1 h;rcases (AA:m<a\/a<m) with c | c
 ·exact k m a l n c (d.trans f.symm)
 exact k a m n l c (f.trans d.symm)
section
variable {P:Program} {ops:Array Oper} {md:Region.Mode} {C:World->Prop}
theorem headQ_first{r:Oper}(hi:ops[i]? = some r)(F:∀(j:Nat) (o:Oper) cs b,ops[j]? = some o->o.op ≠ .select cs b)(x:Region.sinkB md ops n=true)(z:Region.chainB md ops n=true)(A:i<n)(N:∀listed a,L listed a->∀j∈Region.ready md ops listed,n<=j):
 ∀(f:Nat) (listed:Array Bool) (a:Act),HeadInv md ops n listed->
  (∀j d,ops[j]? = some d->j≠i->listed.getD j true=false->(∀e∈d.after,Region.binds md e=true->e.on≠i)->r.apart ops d=true)->
  i∈Region.ready md ops listed->YieldsIn P ops C r v a->
  headQ P md ops C n L f (listed.setIfInBounds i true) (a.put r.dst v)->headQ P md ops C n L (f+1) listed a:=by
 intro f
 induction f with
 | zero =>
   intro listed a inv u m t H;have p:=(mem_ready.1 m).1;have Z:n<=ops.size:=by
    rcases BD ops.size n with h | h
    ·exfalso;have q:=BG.1 x (ops.size) (BQ.2 h);obtain⟨j,c,B⟩:=Ep.1 q;simp only[AU,decide_eq_true_eq] at B;obtain⟨d,g,_⟩:=Region.waitsFor_spec B.2;have:=(Array.getElem?_eq_some_iff.1 g).1;omega
    exact h
   refine⟨λh=>(by rw[h] at m;cases m),λj c=>?_⟩;have s:j<n:=by
    rcases BD j n with h | h
    ·exact h
    have V:j<ops.size:=by
     obtain⟨_,d,g,_⟩:=mem_ready.1 c;exact (Array.getElem?_eq_some_iff.1 g).1
    exact absurd c (tail_waits x z AA inv _ i rfl A p j h)
   refine⟨s,?_⟩;by_cases l:j=i
   ·subst l;exact t.qOp hi H
   ·have:=N _ _ H j (ready_mono c l);omega
 | succ f Y =>
   intro listed a inv u m t H;have p:=(mem_ready.1 m).1;refine⟨λh=>(by rw[h] at m;cases m),λj c=>?_⟩;have s:j<n:=by
    rcases BD j n with h | h
    ·exact h
    have V:j<ops.size:=by
     obtain⟨_,d,g,_⟩:=mem_ready.1 c;exact (Array.getElem?_eq_some_iff.1 g).1
    exact absurd c (tail_waits x z AA inv _ i rfl A p j h)
   refine⟨s,?_⟩;by_cases l:j=i
   ·subst l;exact t.qOp hi H
   have q:=(H.2 j (ready_mono c l)).2;obtain⟨E,d,g,J⟩:=mem_ready.1 c;have X:∀e∈d.after,Region.binds md e=true->e.on≠i:=λe O M R=>by
    have q:=J e O M;rw[R,getD_both p] at q;cases q
   have I:=qOp_put g (u j d g l E X) (λcs b=>F i r cs b hi) (λcs b=>F j d cs b g) t q;have S:∀k ok,ops[k]? = some ok->k≠i->(listed.setIfInBounds j true).getD k true=false->
    (∀e∈ok.after,Region.binds md e=true->e.on≠i)->r.apart ops ok=true:=λk ok T U p W=>by
    refine u k ok T U ?_ W;by_cases D:j=k
    ·subst D;exact E
    rw[getD_set_ne true D] at p;exact p
   refine qOp_mono (λG y=>Y (listed.setIfInBounds j true) G (inv.set c s) S (ready_mono m (Ne.symm l)) y.1 ?_) I;rw[Array.setIfInBounds_comm _ _ l];exact y.2
theorem Zvv{c:Act->Prop}(r:Region.noSelect ops=true)(q:Region.sinkB md ops n=true)(f:Region.chainB md ops n=true):
 ∀(l:List Oper) (k:Nat) (listed:Array Bool) (a:Act),(∀j,j<l.length->l[j]? = ops[k+j]?)->k+l.length=n->HeadInv md ops n listed->
 Region.lexHead md ops g l.length k listed=true->wpQuiet P ops C c l a->
 headQ P md ops C n (λs d=>Region.seqB md ops g n s=true/\c d) l.length listed a
 | [],k,listed,a,_,hk,_,hB,h=>by
   have:k=n:=by simpa using hk
   subst this;exact⟨by simpa [Region.lexHead] using hB,h⟩
 | o::l,k,listed,a,hl,hk,inv,hB,h=>by
   have b:ops[k]? = some o:=by simpa using (hl 0 AE).symm
   simp only[AY,Region.lexHead,AU] at hB;obtain⟨⟨z,y⟩,t⟩:=hB;have m:k<n:=by simp only[AY] at hk;omega
   have p:k∈Region.ready md ops listed:=by simpa using z
   have A:qOp P ops C k (wpQuiet P ops C c l) a:=by unfold qOp;simp only[b];exact h
   obtain⟨v,B,u⟩:=yieldsIn_of_qOp b A;exact headQ_first b (Region.noSelect_spec r) q f m (λs d x=>seqB_ready x.1) l.length listed a inv (Region.free_spec b y) p B
    (Zvv r q f l (k+1) _ _ (λj D=>by have:=hl (j+1) AG;simpa [DZ,Eo 1 j] using this) (by simp only[AY] at hk;omega) (inv.set p m) t u)
theorem wp_region_quiet_tail{a:Act}{l:List Oper}(n:Nat)(u:P.follows .mixedOrders=true)(d:Region.lexTailB .any l.toArray n=true)(p:C { w with drawn:=w.drawn+1 })(h:wpQuiet P l.toArray C (λc=>∀w',C w'->wpList P l.toArray Q (l.drop n) c w') (l.take n) a):(Code.region id l.toArray true).wp P Q a w:=by
 simp only[Region.lexTailB,AU,decide_eq_true_eq] at d;obtain⟨⟨⟨⟨y,v⟩,x⟩,q⟩,s⟩:=d;have D:n<l.length:=by simpa using v
 have b:(l.take n).length=n:=AG
 have k:(l.drop n).length=l.toArray.size-n:=AE
 have B:HeadInv .any l.toArray n (Array.replicate l.toArray.size false) :=
  ⟨AE,λj E _ o=>(by rw[getD_replicate_false] at o;cases o),λt _ z=>getD_in (by simpa using z) (getD_replicate_false _ _)⟩
 have H:=Zvv (md := .any) (g:=l.toArray.size-n) y x q (l.take n) 0 _ a (λj m=>by
  have r:j<n:=by rw[b] at m;exact m
  simp[r]) (by simpa using b) B (by rw[b];exact s) h
 refine wp_region_any u ?_;have:=Bh (Q':=Q) (g:=l.toArray.size-n) (λlisted c w' A f=>by
  have:=wpAny_of_seq (md := .any) (Q':=Q) (l.drop n) n listed c w' (λj=>by simp[DY]) (by rw[k];exact f.1) (f.2 w' A);rwa [k] at this) _ _ _ _ p H
 rw[b,show n+(l.toArray.size-n)=l.toArray.size by omega] at this;exact this
theorem Yx{a:Act}{l:List Oper}(n:Nat)(d:P.follows .mixedOrders=true)(c:Region.lexTailB .any l.toArray n=true)(h:wpQuiet P l.toArray (λw'=>∃x,w'=bl w x) (λb=>∀w',(∃x,w'=bl w x)->wpList P l.toArray Q (l.drop n) b w') (l.take n) a):(Code.region id l.toArray true).wp P Q a w :=
 wp_region_quiet_tail (C:=λw'=>∃x,w'=bl w x) n d c ⟨⟨_,(AL w w).drew⟩,rfl⟩ h
end
section
variable {G:Gr}
theorem cyc_bit(b:G.Fits)(i:Nat):(cycS (Yz G)).testBit i=true↔i<G.nons.length/\Yw (Yz G) i i=true:=by
 unfold cycS;rw[J3,Wh];simp only[AU,decide_eq_true_eq];have:=b.n2;constructor
 ·rintro⟨_,h1,a⟩;exact⟨h1,a⟩
 rintro⟨h1,a⟩;exact⟨AA,h1,a⟩
end
section
variable {P:Program}
def Xw(P:Program)(ops:Array Oper)(Q:Exit->Act->World->Prop)(J:Array Bool->Act->World->Prop):Nat->List Oper->Prop
 | _,[]=>True
 | i,o::rest=>(∀(listed:Array Bool) (a:Act) (w:World),J listed a w->listed.getD i true=false->(∀e∈o.after,Region.binds .any e=true->listed.getD e.on false=true)->
    ∀K:Act->World->Prop,(∀b w',J (listed.setIfInBounds i true) b w'->K b w')->if Region.wanted o (yielded ops a.tmps) then o.wp P a w K Q else K (a.put o.dst undef) w)/\Xw P ops Q J (i+1) rest
theorem Xw.cons{ops:Array Oper}{o:Oper}{rest:List Oper}(h:∀(listed:Array Bool) (a:Act) (w:World),J listed a w->listed.getD i true=false->(∀e∈o.after,Region.binds .any e=true->listed.getD e.on false=true)->
   ∀K:Act->World->Prop,(∀b w',J (listed.setIfInBounds i true) b w'->K b w')->if Region.wanted o (yielded ops a.tmps) then o.wp P a w K Q else K (a.put o.dst undef) w)(t:Xw P ops Q J (i+1) rest):Xw P ops Q J i (o::rest):=⟨h,t⟩
theorem Xc.cons{o:Oper}{rest:List Oper}(c:o.guard=none)(h:∀(Q:Exit->Act->World->Prop) (listed:Array Bool) (a:Act) (w:World),J listed a w->listed.getD i true=false->(∀e∈o.after,Region.binds .any e=true->listed.getD e.on false=true)->
   ∀K:Act->World->Prop,(∀b w',J (listed.setIfInBounds i true) b w'->K b w')->o.wp P a w K Q)(t:Xc P J (i+1) rest):Xc P J i (o::rest):=⟨⟨c,h⟩,t⟩
theorem Xc.inv{ops:Array Oper}:∀{l:List Oper} {i:Nat},Xc P J i l->Xw P ops Q J i l
 | [],_,_=>trivial
 | o::l,i,h=>by
   refine⟨λlisted a w b f d K c=>?_,Xc.inv h.2⟩;have e:Region.wanted o (yielded ops a.tmps)=true:=by unfold Region.wanted;rw[h.1.1]
   rw[if_pos e];exact h.1.2 Q listed a w b f d K c
end
section
open Go.Maps (Keyed IsMap Tidy)
def numR:List Nat->DataW Unit
 | [] => .map []
 | i::r=>(numR r).put (Dc i) (.lit (.int .i64 (r.length:Int)))
def Zys(a:List Nat):DataW Unit:=numR a.reverse
theorem Zvz(a:List Nat)(i:Nat):Zys (a++[i])=(Zys a).put (Dc i) (.lit (.int .i64 (a.length:Int))):=by
 unfold Zys;rw[List.reverse_append,List.reverse_singleton,List.singleton_append];show (numR a.reverse).put (Dc i) (.lit (.int .i64 (a.reverse.length:Int)))=_;rw[List.length_reverse]
theorem D8:∀r:List Nat,IsMap (numR r)
 | []=>Maps.isMap_empty
 | i::r=>(D8 r).put _ _
theorem Zsm(i:Nat):∀r:List Nat,Maps.has (numR r) (Dc i)=decide (i∈r)
 | []=>by simp[numR,Maps.has_eq]
 | j::r=>by
   show Maps.has ((numR r).put (Dc j) _) (Dc i)=_;by_cases h:i=j
   ·subst h;rw[Maps.has_put_same (D8 r) (Zt4 i)];simp
   rw[Maps.has_put_other (nKey_ne h),Zsm i r];simp[h]
theorem Zt6(a:List Nat)(i:Nat):Maps.has (Zys a) (Dc i)=decide (i∈a):=by
 unfold Zys;rw[Zsm];simp
def NumM(w:World)(g:Nat)(a:List Nat):Prop:=w.ownsMap Tryz.prog 3 (plainElem (H:=Unit) Tryz.prog 3) g a.length (Zys a)
structure Dm (W0:World) (gO gM:Nat) (v1:Value) (G:Gr) (w:World) (Ak:Option Addr) (ck:Nat) (An:Option Addr) (cn:Nat) (ks old:List Nat):Prop where
 off:Off (λk=>k=gM\/k=gO) W0 w
 num:NumM w gM old
 out:Blk w gO 26 #[v1,.slice An old.length cn,.slice none 0 0,.int .i64 0]
 kept:w.ownsRow W0.heap.size 3 1 (.slice Ak ks.length ck) ks.length (ints .i64 (Z6 ks))
 nons:w.ownsRow W0.heap.size 9 1 (.slice An old.length cn) old.length (old.map λi=>Value.string (Ws G i))
theorem NumM.block(h:NumM w g a)(c:w'.heap[g]? = w.heap[g]?):NumM w' g a:=by
 obtain⟨b,clock,d,r⟩:=h;exact⟨b,clock,c.trans d,r⟩
theorem Dm.put{f d:Nat}{G:Gr}{t:Nat}{u:List Nat}(r:Dm c f d v G w l m q t a u)(z:d<c.heap.size)(A:f<c.heap.size)(j:Nat)(p:Option Addr)(s:Nat)(y:w1.ownsRow c 3 1 (.slice p (a.length+1) s) (a.length+1) (ints .i64 (Z6 a)++[.int .i64 (j:Int)]))(x:w.grownBy w1 (Value.slice l a.length m).ownBlock):
 Dm c f d v G w1 p s q t (a++[j]) u:=by
 have g:=Off.of_grown x;have o:∀b,(Value.slice l a.length m).ownBlock=some b->c.heap.size<=b:=λb n=>(r.kept.lt b n).1;refine⟨r.off.trans g λk B h=>?_,r.num.block (g.keep d r.num.lt λh=>?_),g.blk r.out λh=>?_,?_,g.row r.nons λb n h=>Fe r.kept r.nons AC h n⟩
 ·have:=o k h;omega
 ·have:=o d h;omega
 ·have:=o f h;omega
 have e:ints .i64 (Z6 (a++[j]))=ints .i64 (Z6 a)++[.int .i64 (j:Int)]:=by simp[ints,Z6]
 rw[e,AV,CX];exact y
structure Zvs (W0:World) (gO gM:Nat) (v1:Value) (G:Gr) (w:World) (Ak:Option Addr) (ck:Nat) (An:Option Addr) (cn:Nat) (ks old:List Nat) (l:Nat):Prop where
 off:Off (λk=>k=gM\/k=gO) W0 w
 num:NumM w gM (old++[l])
 out:Blk w gO 26 #[v1,.slice An old.length cn,.slice none 0 0,.int .i64 0]
 kept:w.ownsRow W0.heap.size 3 1 (.slice Ak ks.length ck) ks.length (ints .i64 (Z6 ks))
 nons:w.ownsRow W0.heap.size 9 1 (.slice An old.length cn) old.length (old.map λi=>Value.string (Ws G i))
theorem Dm.number{d:World}{f a:Nat}{s:Value}{G:Gr}{m:Option Addr}{o:Nat}{n:Option Addr}{q c:List Nat}(r:Dm d f a s G w m o n p q c)(x:a<d.heap.size)(y:f<d.heap.size)(t:a≠f){l:Nat}(z:l∉c)(v:w1.ownsMap prog 3 (plainElem (H:=Unit) prog 3) a (c.length+1) ((Zys c).put (Dc l) (.lit (.int .i64 (c.length:Int)))))(u:w.grownBy w1 (some a)):
 Zvs d f a s G w1 m o n p q c l:=by
 have g:=Off.of_grown u;refine⟨r.off.trans g λk _ h=>?_,?_,g.blk r.out λh=>?_,g.row r.kept λb j h=>?_,g.row r.nons λb j h=>?_⟩
 ·injection h with h;exact .inl h.symm
 ·unfold NumM;rw[Zvz,AV,CX];exact v
 ·injection h with h;exact t h
 ·injection h with h;have:=(r.kept.lt b j).1;omega
 injection h with h;have:=(r.nons.lt b j).1;omega
theorem Zf.of_below(h:Below w w w'):Zf w w':=⟨h.size,λb a _=>h.block b a⟩
theorem Zf.of_off(h:Off S w w')(a:∀g,S g->Qf w g):Zf w w':=⟨h.size,λb c ⟨o,k,z,d⟩=>h.keep b c λf=>a b f o k z d⟩
theorem Zq.kept{k:IntKind}{c:Nat}{xs:List Nat}(h:Zq k w A n c xs)(m:Zf w w'):Zq k w' A n c xs:=by
 refine⟨h.1,h.2.1,h.2.2.1,λd=>?_⟩;obtain⟨b,f,e,g,l⟩:=h.2.2.2 d;have h0:=l 0 d;have hi:∃o q z,w.cell? ⟨b,o,none⟩=some (Value.int q z):=by
  have s:0<xs.length:=by simpa [nums] using d
  refine⟨f+0,k,((xs[0]:Nat):Int),?_⟩;rw[h0];simp[nums,s]
 have p:=m.2 b g hi;exact⟨b,f,e,AK g m.1,λj r=>(DH (a:=⟨b,f+j,none⟩) p).trans (l j r)⟩
theorem Lk{P:Program}{f:FuncId}(h:Calls P f args (w.drewN n) λe w'=>e = .returned v/\w.drewN n=w'):Calls P f args (w.drewN n) λe c=>e = .returned v/\∃m,c=w.drewN m :=
 h.mono λ_ _ ⟨a,b⟩=>⟨a,n,b.symm⟩
theorem Zsh(d:Blk c g 26 #[.slice none 0 0,.slice none 0 0,.slice none 0 0,.int .i64 0])(a:Below w w c)(b:w.heap.size<=g):
 Below w w ((((c.setCell ⟨g,0,none⟩ (.slice none 0 0)).setCell ⟨g,1,none⟩ (.slice none 0 0)).setCell ⟨g,2,none⟩ (.slice none 0 0)).setCell ⟨g,3,none⟩ (.int .i64 0)) :=
 (((a.trans (Zn (Zd _ _ _ _) a.size b)).trans (Zn (Zd _ _ _ _) (by simpa using a.size) b)).trans (Zn (Zd _ _ _ _) (by simpa using a.size) b)).trans (Zn (Zd _ _ _ _) (by simpa using a.size) b)
end
section
open Ieee
open Go.Maps (Keyed IsMap Tidy)
theorem Am(h:i<n):toI (List.range n) i=(i:Int):=Fc List.nodup_range (List.getElem?_range h)
end
section
open Ieee
open Go.Maps (Keyed IsMap Tidy)
open Go.Maps (Keyed IsMap Tidy)
theorem Off.map_trans{k:BkH}{a:World}(x:Off k.map a b)(y:Off k.map b c):Off k.map a c:=x.trans y λ_ _ h=>h
end
