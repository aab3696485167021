/- the reading of a grammar, its counts, and what is drawn: lemmas -/
import Derived.Test.YtaagompdgiobeaaGreatDoorJ00
set_option linter.all false
set_option maxHeartbeats 1500000
set_option maxRecDepth 100000
namespace Go.Proofs.YtaagompdgiobeaaGreatDoor
open Go.RowKit Go.Proofs.Tryz
open Go.Value renaming slice→K,slice→aK,int→aI,bool→aB,pointer→aP,string→aS,agg→aG open Go.IntKind renaming i64→aJ open Go.Obj renaming cells→aC open Go.Ending renaming returned→aR open List renaming length→Q,length→aQ open Option renaming none→aN
section
variable{w w' c b w1:World}{A q Ar l:Option Addr}{n g cr p j m B k i use base e id:Nat}{ss rs:List ByteArray}{ts:List Tk}{cs xs:List Value}{d:List Nat × Nat}{f S:Nat->Prop}{ps done:List Prd}{s:Int}{a F o:List Nat}{h:GH}{N:List Bool}{t:TypeId}{r:Rul}{tab:Nat->Nat->Nat}{v:Value}{L:Array Bool->Act->Prop}{J:Array Bool->Act->World->Prop}{args:Array Value}
def Q2.below(h:Q2 w)(c:Below w w w'):Q2 w':=λj d=>by
 have f:0<w.heap.size:=by
  have b:=h 0 AC;rcases BD 0 w with a | a
  ·exact a
  simp[World.cell?,CZ a] at b
 exact (c.cell (p:=⟨0,j,aN⟩) f).trans (h j d)
def Js.below{c:Nat}(h:Js w A n c ss)(a:Below w w w'):Js w' A n c ss:=Sl.below h a
def N8.below{c:Nat}{ts:List Trm}(h:N8 w A n c ts)(a:Below w w w'):N8 w' A n c ts:=by
 refine⟨h.1,h.2.1,h.2.2.1,λk=>?_⟩;obtain⟨b,f,e,d,g⟩:=h.2.2.2 k;refine⟨b,f,e,AK d a.size,λj t l=>?_⟩;rw[a.cell (p:=⟨b,f+j*3,aN⟩) d,a.cell (p:=⟨b,f+j*3+1,aN⟩) d,a.cell (p:=⟨b,f+j*3+2,aN⟩) d];exact g j t l
def Dv.below{c:Nat}{g:List Rul}(h:Dv w A n c g)(a:Below w w w'):Dv w' A n c g:=by
 refine⟨h.1,h.2.1,h.2.2.1,λs=>?_⟩;obtain⟨b,f,e,d,q⟩:=h.2.2.2 s;refine⟨b,f,e,AK d a.size,λj r t=>?_⟩;rw[a.cell (p:=⟨b,f+j*3,aN⟩) d,a.cell (p:=⟨b,f+j*3+1,aN⟩) d,a.cell (p:=⟨b,f+j*3+2,aN⟩) d];obtain⟨Ar,cr,k,l,m,o⟩:=q j r t;exact⟨Ar,cr,k,l,m,o.below a⟩
def Zj(G:Gr):List Bool:=Z3 (Xs (λr N=>Xj false N r.rt) G.U) G.O.length (List.replicate G.O.length false)
def Xo(b:Bool)(r:Rul)(N:List Bool):Bool:=Xj b N r.rt
def U5(b:Bool)(G:Gr):List Bool:=Z3 (Xs (Xo b) G.U) G.O.length (List.replicate G.O.length false)
def Qe(G:Gr):Zj G=U5 false G:=rfl
def Zt(G:Gr):List Bool:=U5 true G
def J6(N:List Bool)(ss:List Int)(k:Nat):Bool:=(ss.take k).all (Xg N)&&(ss.drop (k+1)).all (Xg N)
def Xk(N P:List Bool)(ss:List Int)(k:Nat)(s:Int):Bool:=decide (s<0)&&J6 N ss k&&Xj true P ss
def Um(N P:List Bool)(r:Rul)(k:Nat)(F:List Nat):List Nat:=match r.rt[k]? with
 | none=>F
 | some s=>if Xk N P r.rt k s then addAt r.L.toNat (Y6 (-1-s)) F else F
def Y2(N P:List Bool)(r:Rul)(k:Nat)(F:List Nat):List Nat:=(List.range k).foldl (λF p=>Um N P r p F) F
def Uk(N P:List Bool)(r:Rul)(k:Nat)(F:List Nat):Y2 N P r (k+1) F=Um N P r k (Y2 N P r k F):=by
 unfold Y2;rw[DP,Et];rfl
def Wo(N P:List Bool)(a:List Rul)(F:List Nat):List Nat:=a.foldl (λF r=>Y2 N P r r.rt.length F) F
def Zz0(N P:List Bool)(a:List Rul)(r:Rul)(F:List Nat):Wo N P (a++[r]) F=Y2 N P r (Q r.rt) (Wo N P a F):=by simp[Wo]
def Yz(G:Gr):List Nat:=Wo (Zj G) (Zt G) G.U (List.replicate G.O.length 0)
def growSt_len(N P:List Bool)(r:Rul)(k:Nat)(F:List Nat):(Um N P r k F).length=(Q F):=by
 unfold Um;split
 ·rfl
 split
 ·simp[addAt]
 rfl
def Kb(N P:List Bool)(r:Rul)(F:List Nat):∀k,(Y2 N P r k F).length=(Q F)
 | 0=>rfl
 | k+1=>by rw[Uk,growSt_len,Kb N P r F k]
def De(N P:List Bool)(a:List Rul)(F:List Nat):(Wo N P a F).length=(Q F):=by
 induction a generalizing F with
 | nil=>rfl
 | cons r a b=>show (Wo N P a (Y2 N P r (Q r.rt) F)).length=_;rw[b,Kb]
def Wh(G:Gr):(Yz G).length=(Q G.O):=by unfold Yz;rw[De];simp
def Au(G:Gr)(l:G.Fits):InS (Yz G):=by
 have m:∀(r:Rul),r∈G.U->∀(k:Nat) (F:List Nat),(∀i t,(F.getD i 0).testBit t=true->t<(Q G.O))->∀i t,((Um (Zj G) (Zt G) r k F).getD i 0).testBit t=true->t<(Q G.O):=by
  intro r d k F a i t h;unfold Um at h;split at h
  ·exact a i t h
  rename_i s u;split at h
  ·rename_i g;rw[Jo] at h;split at h
   ·rw[DR,Cs] at h;rcases h with h | h
    ·exact a _ t h
    have x:=l.sym r d s (AM u);unfold Xk at g;simp only[AS,decide_eq_true_eq] at g;obtain⟨j,n⟩:∃j:Nat,-1-s=(j:Int):=⟨(-1-s).toNat,AA⟩;rw[n,Uv,AS,BA,BA] at h;omega
   exact a i t h
  exact a i t h
 have p:∀(r:Rul),r∈G.U->∀(k:Nat) (F:List Nat),(∀i t,(F.getD i 0).testBit t=true->t<(Q G.O))->∀i t,((Y2 (Zj G) (Zt G) r k F).getD i 0).testBit t=true->t<(Q G.O):=by
  intro r d k F a
  induction k with
  | zero=>exact a
  | succ k f=>rw[Uk];exact m r d k _ f
 have o:∀(b:List Rul),(∀r∈b,r∈G.U)->∀(F:List Nat),(∀i t,(F.getD i 0).testBit t=true->t<(Q G.O))->∀i t,((Wo (Zj G) (Zt G) b F).getD i 0).testBit t=true->t<(Q G.O):=by
  intro b
  induction b with
  | nil=>exact λ_ F a=>a
  | cons r b f=>exact λh F a=>f (λv q=>h v (BN _ q)) _ (p r (h r (By ..)) _ F a)
 intro i t h;rw[Wh];refine o G.U (λ_ h=>h) _ (λi t h=>?_) i t h;rw[AO] at h;rcases BD i (Q G.O) with c | c
 ·simp[c] at h
 simp[BE,c] at h
def Dp.snoc(h:Dp cs ts)(t:Tk)(x y:Nat):Dp (cs++[aI aJ t.1,aS t.2,.complex .f64 x y]) (ts++[t]):=by
 refine⟨by simp[h.1];omega,λj u b=>?_⟩;rcases H4 b with ⟨a,b⟩ | ⟨rfl,rfl⟩
 ·obtain⟨c,d,g,k,f⟩:=h.2 j u b;exact⟨by rw[Xe h.1 a AA];exact c,by rw[Xe h.1 a AA];exact d,g,k,by rw[Xe h.1 a AA];exact f⟩
 exact⟨by rw[Y7 h.1];rfl,by rw[Y7 h.1];rfl,x,y,by rw[Y7 h.1];rfl⟩
def Wc(w:World)(p:Nat)(ts:List Tk):Prop :=
 ts.length<=4000/\∃A c x y a b,Blk w p 186 #[K A ts.length c,.complex .f64 x y,.complex .f64 a b,aI aJ 0]/\Kq w p A ts.length c ts
def Gi.snoc(h:Gi cs ss)(s:ByteArray)(x y:Nat):Gi (cs++[aS s,.complex .f64 x y]) (ss++[s]):=by
 refine⟨by simp[h.1];omega,λj u a=>?_⟩;rcases H4 a with ⟨b,a⟩ | ⟨rfl,rfl⟩
 ·obtain⟨c,f,g,d⟩:=h.2 j u a;exact⟨by rw[Xe h.1 b AA];exact c,f,g,by rw[Xe h.1 b AA];exact d⟩
 exact⟨by rw[Y7 h.1];rfl,x,y,by rw[Y7 h.1];rfl⟩
def Vu(w:World)(a:Nat->Prop)(cs:List Value)(ps:List Prd):Prop:=cs.length=ps.length*5/\∀(j:Nat) (p:Prd),ps[j]? = some p->∃Ar cr x y d f,
 cs[j*5+0]? = some (aS p.L)/\cs[j*5+1]? = some (.complex .f64 x y)/\cs[j*5+2]? = some (K Ar p.rt.length cr)/\cs[j*5+3]? = some (aS p.P)/\cs[j*5+4]? = some (.complex .f64 d f) /\
 Rfs w Ar p.rt.length cr p.rt/\∀b c,Ar=some ⟨b,c,none⟩->b<w.heap.size/\a b
def Vu.keep{d:Nat->Prop}(h:Vu w d cs ps)(l:w.heap.size<=w'.heap.size)(g:∀k,k<w.heap.size->d k->w'.heap[k]? = w.heap[k]? /\ f k):Vu w' f cs ps:=by
 refine⟨h.1,λj p u=>?_⟩;obtain⟨Ar,cr,x,y,v,z,m,n,o,q,r,s,c⟩:=h.2 j p u;exact⟨Ar,cr,x,y,v,z,m,n,o,q,r,s.keep l λb a e t=>(g b t (c b a e).2).1,λb a e=>⟨AK (c b a e).1 l,(g b (c b a e).1 (c b a e).2).2⟩⟩
def Vu.app{c:Nat->Prop}{q:List Value}{s:List Prd}(h:Vu w c cs ps)(r:Vu w c q s):Vu w c (cs++q) (ps++s):=by
 refine⟨by rw[AU,AU,h.1,r.1];omega,λj p b=>?_⟩;rcases BD j (Q ps) with a | a
 ·rw[DF a] at b;obtain⟨Ar,cr,x,y,n,o,d,f,g,k,l,m⟩:=h.2 j p b;exact⟨Ar,cr,x,y,n,o,by rw[Xe h.1 a AA];exact d,by rw[Xe h.1 a AA];exact f,by rw[Xe h.1 a AA];exact g,by rw[Xe h.1 a AA];exact k,by rw[Xe h.1 a AA];exact l,m⟩
 rw[BX a] at b;obtain⟨Ar,cr,x,y,n,o,d,f,g,k,l,m⟩:=r.2 _ p b;have e:∀i,j*5+i=(Q ps)*5+((j-(Q ps))*5+i):=λi=>AA
 exact⟨Ar,cr,x,y,n,o,by rw[e,Y7 h.1];exact d,by rw[e,Y7 h.1];exact f,by rw[e,Y7 h.1];exact g,by rw[e,Y7 h.1];exact k,by rw[e,Y7 h.1];exact l,m⟩
def Vu.one{c:Nat->Prop}(p:Prd)(x y f g:Nat)(h:Rfs w Ar (Q p.rt) cr p.rt)(k:∀b l,Ar=some ⟨b,l,aN⟩->b<w.heap.size/\c b):
 Vu w c [aS p.L,.complex .f64 x y,K Ar (Q p.rt) cr,aS p.P,.complex .f64 f g] [p]:=by
 refine⟨rfl,λj q a=>?_⟩;have d:j<[p].length:=(AN.1 a).1;simp at d;subst d;simp at a;subst a;exact⟨Ar,cr,x,y,f,g,rfl,rfl,rfl,rfl,rfl,h,k⟩
structure V6 (w w':World) (p:Nat) (h h':GH):Prop where
 os:w'.os=w.os
 tape:w'.tape=w.tape
 output:w'.output=w.output
 size:w.heap.size<=w'.heap.size
 keep:∀k,k<w.heap.size->¬J8 p h k->w'.heap[k]? = w.heap[k]?
 back:∀k,k<w.heap.size->J8 p h' k->J8 p h k
def V6.refl(w:World)(p:Nat)(h:GH):V6 w w p h h:=⟨rfl,rfl,rfl,AJ _,λ_ _ _=>rfl,λ_ _ h=>h⟩
def V6.trans{a:World}{g j:GH}(x:V6 a b p h g)(y:V6 b c p g j):V6 a c p h j :=
 ⟨y.os.trans x.os,y.tape.trans x.tape,y.output.trans x.output,BC x.size y.size,λk d l=>(y.keep k (AK d x.size) λf=>l (x.back k d f)).trans (x.keep k d l),λk d f=>x.back k d (y.back k (AK d x.size) f)⟩
def V6.of_below(h:Below w w w')(p:Nat)(a:GH):V6 w w' p a a:=⟨h.os,h.tape,h.output,h.size,λk b _=>h.block k b,λ_ _ h=>h⟩
def Kz.keep{d:Nat->Prop}{m:List Rul}(h:Kz w d cs m)(l:w.heap.size<=w'.heap.size)(g:∀k,k<w.heap.size->d k->w'.heap[k]? = w.heap[k]? /\ f k):Kz w' f cs m:=by
 refine⟨h.1,λj p t=>?_⟩;obtain⟨Ar,cr,n,o,q,r,c⟩:=h.2 j p t;exact⟨Ar,cr,n,o,q,ints_keep r l λb a e s=>(g b s (c b a e).2).1,λb a e=>⟨AK (c b a e).1 l,(g b (c b a e).1 (c b a e).2).2⟩⟩
def Kz.snoc{a:Nat->Prop}{f:List Rul}(h:Kz w a cs f)(r:Rul)(q:Za .i64 w Ar (Q r.rt) cr r.rt)(p:∀b s,Ar=some ⟨b,s,aN⟩->b<w.heap.size/\a b):
 Kz w a (cs++[aI aJ r.L,K Ar (Q r.rt) cr,aI aJ r.P]) (f++[r]):=by
 refine⟨by simp[h.1];omega,λj u d=>?_⟩;rcases H4 d with ⟨c,d⟩ | ⟨rfl,rfl⟩
 ·obtain⟨g,k,l,m,n,o⟩:=h.2 j u d;exact⟨g,k,by rw[Xe h.1 c AA];exact l,by rw[Xe h.1 c AA];exact m,by rw[Xe h.1 c AA];exact n,o⟩
 exact⟨Ar,cr,by rw[Y7 h.1];rfl,by rw[Y7 h.1];rfl,by rw[Y7 h.1];rfl,q,p⟩
structure Wk (w:World) (p B:Nat) (h:GH) (G:Gr):Prop where
 blk:Blk w p 126 (Q0 h)
 r1:w.ownsRow (p+1) 140 3 (V1 h) h.n1 (V8 G.T)
 r2:w.ownsRow (p+1) 9 1 (V2 h) h.n2 (G.O.map aS)
 r3:∃cs,w.ownsRow (p+1) 60 3 (V3 h) h.n3 cs/\Kz w (λk=>¬J8 p h k/\k<B/\p<k) cs G.U
 d12:Da (V1 h) (V2 h)
 d13:Da (V1 h) (V3 h)
 d23:Da (V2 h) (V3 h)
 st:G.zt=0
 wf:∀r∈G.U,∀s∈r.rt,U3 s
 b1:h.n1<=24
 b2:h.n2<=16
 b3:h.n3<=40
def Wk.mono{c:Nat}{G:Gr}(k:Wk w p B h G)(f:B<=c):Wk w p c h G:=by
 obtain⟨cs,d,g⟩:=k.r3;exact⟨k.blk,k.r1,k.r2,⟨cs,d,g.keep (AJ _) λb _ a=>⟨rfl,a.1,AK a.2.1 f,a.2.2⟩⟩,k.d12,k.d13,k.d23,k.st,k.wf,k.b1,k.b2,k.b3⟩
def V6.nf{a:GH}(T:V6 w w' p h a)(b:g<w.heap.size)(d:¬J8 p h g):¬J8 p a g:=λc=>d (T.back g b c)
def Wc.len(h:Wc w p ts):(Q ts)<=4000:=h.1
structure Zyt (wr wx:World) (p gB:Nat) (Ar:Option Addr) (cr:Nat) (L:ByteArray) (x y:Nat) (rs:List ByteArray) (us:List Tk):Prop where
 lo:wr.heap.size<=gB
 blk:Blk wx gB 132 #[aS L,.complex .f64 x y,K Ar rs.length cr,aS ⟨#[]⟩,.complex .f64 0 0]
 row:Rfs wx Ar rs.length cr rs
 fresh:∀b off,Ar=some ⟨b,off,none⟩->wr.heap.size<=b/\b<wx.heap.size
 rd:Wc wx p us
 gr:wr.grownBy wx (some p)
def prdCs_one{j:Nat->Prop}(h:Vu w j cs ps):∀u∈cs,u.oneCell'=true:=by
 intro u m;obtain⟨i,hi⟩:=BQ m;have l:i<(Q cs):=(AN.1 hi).1;rw[h.1] at l;have k:i / 5<(Q ps):=AA
 obtain⟨Ar,cr,x,y,n,o,b,c,d,f,g,_⟩:=h.2 (i / 5) (ps[i / 5]) (AL k);have a:i % 5=0\/i % 5=1\/i % 5=2\/i % 5=3\/i % 5=4:=AA
 rcases a with a | a | a | a | a
 ·rw[show i / 5*5+0=i by omega,hi] at b;injection b with b;subst b;rfl
 ·rw[show i / 5*5+1=i by omega,hi] at c;injection c with c;subst c;rfl
 ·rw[show i / 5*5+2=i by omega,hi] at d;injection d with d;subst d;rfl
 ·rw[show i / 5*5+3=i by omega,hi] at f;injection f with f;subst f;rfl
 rw[show i / 5*5+4=i by omega,hi] at g;injection g with g;subst g;rfl
def alone_true{ss:List Int}(h:∀p s,ss[p]? = some s->p≠k->Xg N s=true):J6 N ss k=true:=by
 unfold J6;rw[AS,BG,BG];constructor
 ·intro s b;obtain⟨p,a⟩:=BQ b;rw[Ej] at a;split at a
  ·exact h p s a AA
  cases a
 intro s b;obtain⟨p,a⟩:=BQ b;rw[DX] at a;exact h _ s a AA
def alone_false{ss:List Int}(a:ss[p]? = some s)(d:p≠k)(h:Xg N s=false):J6 N ss k=false:=by
 unfold J6;rw[Bool.and_eq_false_iff];rcases BD p k with b | c
 ·left;rw[List.all_eq_false];refine⟨s,?_,by rw[h];simp⟩;exact AM (i:=p) (by rw[Ej,if_pos b];exact a)
 right;rw[List.all_eq_false];refine⟨s,?_,by rw[h];simp⟩;exact AM (i:=p-(k+1)) (by rw[DX,show k+1+(p-(k+1))=p by omega];exact a)
def Vh(G:Gr):Nat:=if G.rt then cycS (Yz G) else 0
def Zva(Q:Nat->Nat->Prop)(N P:List Bool)(b:List Rul)(m:∀r∈b,∀k s,r.rt[k]? = some s->Xk N P r.rt k s=true->Q r.L.toNat (Zp s)):
 ∀(F:List Nat),(∀i t,(F.getD i 0).testBit t=true->Q i t)->∀i t,((Wo N P b F).getD i 0).testBit t=true->Q i t:=by
 have n:∀(r:Rul),r∈b->∀(k:Nat) (F:List Nat),(∀i t,(F.getD i 0).testBit t=true->Q i t)->∀i t,((Um N P r k F).getD i 0).testBit t=true->Q i t:=by
  intro r c k F a i t h;unfold Um at h;split at h
  ·exact a i t h
  rename_i s y;split at h
  ·rename_i d;rw[Jo] at h;split at h
   ·rename_i g;rw[DR,Cs] at h;rcases h with h | h
    ·rw[g.1];exact a _ t h
    have v:=m r c k s y d;unfold Xk at d;simp only[AS,decide_eq_true_eq] at d;obtain⟨j,o⟩:∃j:Nat,-1-s=(j:Int):=⟨(-1-s).toNat,AA⟩;rw[o,Uv,AS,BA,BA] at h;have p:Zp s=t:=by unfold Zp;omega
    rw[g.1,<-p];exact v
   exact a i t h
  exact a i t h
 have u:∀(r:Rul),r∈b->∀(k:Nat) (F:List Nat),(∀i t,(F.getD i 0).testBit t=true->Q i t)->∀i t,((Y2 N P r k F).getD i 0).testBit t=true->Q i t:=by
  intro r c k F a
  induction k with
  | zero=>exact a
  | succ k f=>rw[Uk];exact n r c k _ f
 have q:∀(l:List Rul),(∀r∈l,r∈b)->∀(F:List Nat),(∀i t,(F.getD i 0).testBit t=true->Q i t)->∀i t,((Wo N P l F).getD i 0).testBit t=true->Q i t:=by
  intro l
  induction l with
  | nil=>exact λ_ F a=>a
  | cons r l f=>exact λh F a=>f (λz x=>h z (BN _ x)) _ (u r (h r (By ..)) _ F a)
 exact q b λ_ h=>h
def Zyz{b:Bool}(X:Nat->Prop):∀(c:List Rul),(∀r∈c,(∀s∈r.rt,(0<=s->b=true)/\(s<0->X (Zp s)))->X r.L.toNat)->
 ∀{N:List Bool},(∀i,N.getD i false=true->X i)->∀i,(Xs (Xo b) c N).getD i false=true->X i
 | [],_,N,hN,i,h=>hN i h
 | r::c,hX,N,hN,i,h=>by
   refine Zyz X c (λq f=>hX q (BN _ f)) (N:=Qa (Xo b) r N) (λj a=>?_) i h;unfold Qa at a;split at a
   ·rename_i d;rcases (Uh _ _ _).1 a with a | ⟨rfl,_⟩
    ·exact hN j a
    refine hX r (By ..) λs g=>?_;have h1:=BG.1 d s g;refine⟨λh0=>?_,λh0=>?_⟩
    ·rwa [if_pos h0] at h1
    rw[if_neg AA] at h1;exact hN _ h1
   exact hN j a
def Zz2{b:Bool}{G:Gr}(X:Nat->Prop)(a:∀r∈G.U,(∀s∈r.rt,(0<=s->b=true)/\(s<0->X (Zp s)))->X r.L.toNat)(h:(U5 b G).getD i false=true):X i:=by
 unfold U5 at h;have key:∀(k i:Nat),(Z3 (Xs (Xo b) G.U) k (List.replicate (Q G.O) false)).getD i false=true->X i:=by
  intro k
  induction k with
  | zero=>intro i h;rw[Z3,Zve] at h;cases h
  | succ k c=>intro i h;exact Zyz X G.U a c i h
 exact key _ i h
def Zv6(N P:List Bool)(r:Rul)(k:Nat){t:Nat}(h:(F.getD i 0).testBit t=true):((Um N P r k F).getD i 0).testBit t=true:=by
 unfold Um;split
 ·exact h
 split
 ·rw[Jo];split
  ·rename_i a;rw[DR,<-a.1,h];rfl
  exact h
 exact h
def Zs7(N P:List Bool)(r:Rul){t:Nat}(h:(F.getD i 0).testBit t=true):∀k,((Y2 N P r k F).getD i 0).testBit t=true
 | 0=>h
 | k+1=>by rw[Uk];exact Zv6 N P r k (Zs7 N P r h k)
def Zvb(N P:List Bool):∀(a:List Rul) {F:List Nat} {i t:Nat},(F.getD i 0).testBit t=true->((Wo N P a F).getD i 0).testBit t=true
 | [],F,i,t,h=>h
 | r::a,F,i,t,h=>Zvb N P a (Zs7 N P r h _)
def Zw8{P:List Bool}(c:r.rt[k]? = some s)(d:Xk N P r.rt k s=true)(b:r.L.toNat<(Q F))(h0:s<0)(a:Zp s<32):
 ∀m,k<m->((Y2 N P r m F).getD r.L.toNat 0).testBit (Zp s)=true
 | 0,h=>AA
 | m+1,h=>by
   rw[Uk];by_cases f:k=m
   ·subst f;unfold Um;rw[c];simp only[];rw[if_pos d,Jo,if_pos ⟨rfl,by rw[Kb];exact b⟩,DR];rw[show (-1-s)=((Zp s:Nat):Int) by unfold Zp;omega,Uv];simp[a]
   exact Zv6 N P r m (Zw8 c d b h0 a m AA)
def Zxd{P:List Bool}(c:r.rt[k]? = some s)(f:Xk N P r.rt k s=true)(h0:s<0)(d:Zp s<32):
 ∀(a:List Rul) {F:List Nat},r∈a->r.L.toNat<(Q F)->((Wo N P a F).getD r.L.toNat 0).testBit (Zp s)=true
 | q::a,F,b,hl=>by
   rcases BY.1 b with rfl | b
   ·exact Zvb N P a (Zw8 c f hl h0 d _ (AN.1 c).1)
   exact Zxd c f h0 d a b (by rw[Kb];exact hl)
def steps_mem{G:Gr}(f:G.Fits){t:Nat}:((Yz G).getD i 0).testBit t=true↔∃r∈G.U,∃k s,r.rt[k]? = some s/\Xk (Zj G) (Zt G) r.rt k s=true/\r.L.toNat=i/\Zp s=t:=by
 constructor
 ·intro h;refine Zva (λi t=>∃r∈G.U,∃k s,r.rt[k]? = some s/\Xk (Zj G) (Zt G) r.rt k s=true/\r.L.toNat=i/\Zp s=t) (Zj G) (Zt G) G.U (λr b k s d a=>⟨r,b,k,s,d,a,rfl,rfl⟩) _ (λi t h=>?_) i t h;rw[AO] at h;rcases BD i (Q G.O) with c | c
  ·simp[c] at h
  simp[BE,c] at h
 rintro⟨r,b,k,s,d,a,rfl,rfl⟩;have h0:s<0:=by
  unfold Xk at a;simp only[AS,decide_eq_true_eq] at a;exact a.1.1
 have j:=f.sym r b s (AM d);have g:=f.n2;have c:=f.L r b;exact Zxd d a h0 (by unfold Zp;omega) G.U b (by rw[Ee];omega)
def Fc(c:o.Nodup)(h:o[k]? = some i):toI o i=(k:Int):=by
 unfold toI;refine Q4 h AE λj b y d=>?_;rw[AZ];rintro rfl;have h1:=(AN.1 h);have a:=(AN.1 d);have:=List.pairwise_iff_getElem.1 c j k a.1 h1.1 b;exact this (a.2.trans h1.2.symm)
def toI_mem(b:o.Nodup)(h:i∈o):∃k,k<(Q o)/\o[k]? = some i/\toI o i=(k:Int):=by
 obtain⟨k,a⟩:=BQ h;exact⟨k,(AN.1 a).1,a,Fc b a⟩
def toI_app(a:(o++[i]).Nodup):toI (o++[i]) i=((Q o):Int):=Fc a AE
def Yc(T:Int->Nat->Nat)(a:List Rul)(i n:Nat):Nat:=Vi ((a.filter λr=>decide (r.L.toNat=i)).map λr=>Zx T r.rt n)
def Qw(G:Gr):Nat->Int->Nat->Nat
 | 0,s,n=>if 0<=s then K0 n else 0
 | f+1,s,n=>if 0<=s then K0 n else Yc (Qw G f) G.U (Zp s) n
def Un(G:Gr)(f:Nat)(h:0<=s)(n:Nat):Qw G f s n=K0 n:=by
 cases f <;> simp[Qw,h]
def Fg(G:Gr)(f:Nat)(h:s<0)(n:Nat):Qw G (f+1) s n=Yc (Qw G f) G.U (Zp s) n:=by
 unfold Qw;rw[if_neg AA]
def Lu{T c:Int->Nat->Nat}{b:List Rul}(h:∀r∈b,r.L.toNat=i->Zx T r.rt n=Zx c r.rt n):Yc T b i n=Yc c b i n:=by
 unfold Yc;refine Lx λr a=>?_;rw[List.mem_filter,BA] at a;exact h r a.1 a.2
def mu(G:Gr)(n:Nat)(s:Int):Nat:=n*4294967296+(Xu (Yz G)).getD (Zp s) 0
structure Xq (G:Gr):Prop where
 fits:G.Fits
 prod:∀i,i<G.O.length->(Zt G).getD i false=true
 none:∀i,i<G.O.length->Yw (Yz G) i i=false
def D2{G:Gr}(c:Xq G)(f:r∈G.U)(h:r.rt[p]? = some s)(h0:s<0)(d:∀(q:Nat) s',q≠p->r.rt[q]? = some s'->Xg (Zj G) s'=true):
 ((Yz G).getD r.L.toNat 0).testBit (Zp s)=true:=by
 refine (steps_mem c.fits).2 ⟨r,f,p,s,h,?_,rfl,rfl⟩;unfold Xk J6;simp only[AS,decide_eq_true_eq,BG];refine⟨⟨h0,λq b=>?_,λq b=>?_⟩,U8.2 λq b=>⟨λ_=>rfl,λk=>?_⟩⟩
 ·obtain⟨j,a⟩:=BQ b;have g:=(AN.1 a).1;rw[BU] at g;rw[List.getElem?_take_of_lt AA] at a;exact d j q AA a
 ·obtain⟨j,a⟩:=BQ b;rw[DX] at a;exact d (p+1+j) q AA a
 have:=c.fits.sym r f q b;exact c.prod _ (by unfold Zp;omega)
def Zv(G:Gr)(s:Int)(n:Nat):Nat:=Qw G (fuelN n) s n
def Xb(G:Gr)(h:0<=s)(n:Nat):Zv G s n=K0 n:=Un G _ h n
structure Ni (G:Gr) (ord:List Nat):Prop where
 lt:∀i∈ord,i<G.O.length
 pre:∀(p i:Nat),ord[p]? = some i->∀t,((Yz G).getD i 0).testBit t=true->t∈ord.take p
 all:∀i,i<G.O.length->i∈ord
structure Ll (G:Gr) (ord:List Nat) (tab:Nat->Nat->Nat) (m p:Nat):Prop where
 low:∀k,k<m->∀i,i<G.O.length->tab k i=Zv G (-1-(i:Int)) k
 now:∀i,i∈ord.take p->tab m i=Zv G (-1-(i:Int)) m
 rest:∀i,i∉ord.take p->tab m i=0
def Ll.row{G:Gr}(c:Ni G a)(h:Ll G a tab m (Q a))(h0:∀i,tab (m+1) i=0):Ll G a tab (m+1) 0:=by
 refine⟨λk b i hi=>?_,λi hi=>by simp at hi,λi _=>h0 i⟩;rcases (AA:k<m\/k=m) with b | rfl
 ·exact h.low k b i hi
 exact h.now i (by rw[List.take_length];exact c.all i hi)
def told_forest{G:Gr}(h:∀k,k<=n->∀i,i<(Q G.O)->tab k i=Zv G (-1-(i:Int)) k){l:List Int}(a:∀s∈l,s<0->Zp s<(Q G.O))(d:m<=n):
 Zx (Yk tab) l m=Zx (Zv G) l m:=by
 refine Wp λq b k c=>?_;unfold Yk;split
 ·rename_i h0;exact (Xb G h0 k).symm
 rename_i h0;rw[h k AA _ (a q b AA),Fr AA]
def Gg(T:Int->Nat->Nat)(a:List Rul)(r:Rul)(i n:Nat):Yc T (a++[r]) i n=Yc T a i n+(if r.L.toNat=i then Zx T r.rt n else 0):=by
 unfold Yc;rw[List.filter_append,DI,Na];by_cases h:r.L.toNat=i
 ·simp[h,Vi]
 simp[h,Vi]
def Off.of_below(h:Below w w w'):Off S w w':=⟨h.os,h.tape,h.output,h.size,λk a _=>h.block k a⟩
structure Red2 (W0:World) (gO gT n:Nat) (v1:Value) (G:Gr) (w:World) (Ak:Option Addr) (ck:Nat) (An:Option Addr) (cn:Nat) (ks old:List Nat):Prop where
 off:Off (λk=>k=gT\/k=gO) W0 w
 tos:Blk w gT 3 (ints .i64 (toL n old)).toArray
 out:Blk w gO 26 #[v1,K An old.length cn,K none 0 0,aI aJ 0]
 kept:w.ownsRow W0.heap.size 3 1 (K Ak ks.length ck) ks.length (ints .i64 (Z6 ks))
 O:w.ownsRow W0.heap.size 9 1 (K An old.length cn) old.length (old.map λi=>aS (Ws G i))
structure Zyu (W0:World) (gO:Nat) (v1 v2:Value) (w:World) (A3:Option Addr) (c3:Nat) (rs:List Rul):Prop where
 off:Off (λk=>k=gO) W0 w
 out:Blk w gO 26 #[v1,v2,K A3 rs.length c3,aI aJ 0]
 U:∃cs,w.ownsRow W0.heap.size 60 3 (K A3 rs.length c3) rs.length cs/\Kz w (λb=>W0.heap.size<=b/\(K A3 rs.length c3).ownBlock≠some b) cs rs
def wk_decls(p:Nat)(h:GH)(G:Gr)(w:World)(k:Wk w p B h G):
 Calls prog 71 #[aP (some ⟨p,0,aN⟩),K aN 0 0] w λe w'=>e = aR (.tuple #[])/\w=w':=by
 clear k;go_enter func71,ntmps71;go_wp2_with fail;go_loopw [4] (λi wr=>i = aI aJ 0/\wr=w) (λ_ _=>0)
 case atStart=>exact⟨rfl,rfl⟩
 obtain⟨rfl,rfl⟩:=hrel;go_wp2_with fail;(try simp only[Exit.inBlock,Exit.then]);refine bodyPost_end (results_none rfl _ _ _) rfl ?_;exact⟨rfl,rfl⟩
def tr_Del_nil(b:Value)(w:World):Calls prog 198 #[K aN 0 0,b] w λe w'=>e = aR (K aN 0 0)/\w=w':=by
 have a:=Tryz.slices_IndexFunc_empty_f153 (α:=Int) aN 0 b w;have c:=LH a;clear a;go_enter func198,ntmps198;go_wp2_with (go_at_call 153;refine c.out.mono ?_;rintro e w'⟨rfl,rfl⟩);go_ret;exact⟨rfl,rfl⟩
def cyc22A:Vh Xt=0:=AB
section
open Go.RowKit Go.Maps
def Blk.lt{cs:Array Value}(h:Blk w g t cs):g<w.heap.size:=by
 rcases BD g w with b | a
 ·exact b
 unfold Blk at h;rw[CZ a] at h;cases h
def Blk.grown{cs:Array Value}{row:Option Nat}(h:Blk w g t cs)(a:w.grownBy w' row)(b:some g≠row):Blk w' g t cs:=(a.block g h.lt b).trans h
def V0(w:World)(g:Nat)(F:List Nat):Prop:=Blk w g 41 (nums .u32 F).toArray
def V0.put(h:V0 w g F)(i v:Nat):V0 (w.setCell ⟨g,i,aN⟩ (aI .u32 (v:Int))) g (F.set i v):=by
 have:=Blk.set h i (aI .u32 (v:Int));unfold V0;rwa [show (nums .u32 (F.set i v)).toArray=(nums .u32 F).toArray.setIfInBounds i (aI .u32 (v:Int)) by simp[nums,List.map_set]]
end
def OrdI.step{S:List Nat}(g:use<4294967296)(h:OrdI S use n d):OrdI S use n (Zza S use n d):=by
 cases c:Qx (U2 S use d.2) n with
 | none=>rw[Ln c];exact h
 | some i =>
   rw[Ly c];obtain⟨hi,b⟩:=Cj c;unfold U2 at b;simp only[AS] at b;have f:=Ztx g b.1.1;refine⟨Ct h.lt (Ua _),λt=>?_,λt a=>?_⟩
   ·rw[DR,Uv,Cs,h.mem t,DB,BO];simp[f]
   rcases DB.1 a with a | a
   ·exact h.use t a
   rw[BO] at a;subst a;exact⟨b.1.1,hi⟩
def Dl(S:List Nat)(n:Nat)(a:use<4294967296):∀k,OrdI S use n (Y4 S use n k)
 | 0=>⟨by show 0<4294967296;decide,λt=>by simp[Y4,Z3],λt h=>by simp[Y4,Z3] at h⟩
 | k+1=>by rw[Nf];exact (Dl S n a k).step a
def Kq.grown{c:Nat}(h:Kq w B A n c ts)(b:w.grownBy w' (some p))(g:B<=p):Kq w' B A n c ts :=
 h.keep b.size λk f d=>b.block k d (by intro a;injection a with a;omega)
def Wk.lt{G:Gr}(k:Wk w p B h G):p<w.heap.size:=k.blk.lt
def Yq{size c:Nat}(h:w.ownsRow base e size (K A n c) n xs)(d:∀b,base<=b->(K A n c).ownBlock=some b->b<w.heap.size->w'.heap[b]? = w.heap[b]?):w'.ownsRow base e size (K A n c) n xs :=
 Wv h λb a f=>d b (h.lt b a).1 a f
def Wk.put1{G:Gr}(k:Wk w p B h G)(t:Trm)(l:h.n1<24)(c:Option Addr)(d:Nat)(D:w1.ownsRow (p+1) 140 3 (K c (h.n1+1) d) (h.n1+1) (V8 G.T++[aS t.name,aI aJ t.V,aI aJ t.S]))(m:w.grownBy w1 (V1 h).ownBlock)(q:∀b,(K c (h.n1+1) d).ownBlock=some b->b<w.heap.size->(V1 h).ownBlock=some b):
 Wk (w1.setCell ⟨p,0,aN⟩ (K c (h.n1+1) d)) p B { h with a1:=c,n1:=h.n1+1,c1:=d } { G with T:=G.T++[t] } /\
 V6 w (w1.setCell ⟨p,0,aN⟩ (K c (h.n1+1) d)) p h { h with a1:=c,n1:=h.n1+1,c1:=d }:=by
 obtain⟨cs,s,z⟩:=k.r3;have E:∀b,(V1 h).ownBlock=some b->b≠p:=λb a=>by have:=(k.r1.lt b a).1;omega
 have u:∀b,b≠p->(w1.setCell ⟨p,0,aN⟩ (K c (h.n1+1) d)).heap[b]? = w1.heap[b]? := λb a=>Ea w1 ⟨p,0,aN⟩ _ b a;have v:w.heap.size<=(w1.setCell ⟨p,0,aN⟩ (K c (h.n1+1) d)).heap.size:=by simpa using m.size
 have r:∀b,b<w.heap.size->b≠p->(V1 h).ownBlock≠some b->(w1.setCell ⟨p,0,aN⟩ (K c (h.n1+1) d)).heap[b]? = w.heap[b]? := λb a C n =>
  (u b C).trans (m.block b a λe=>n e.symm)
 have o:V6 w (w1.setCell ⟨p,0,aN⟩ (K c (h.n1+1) d)) p h { h with a1:=c,n1:=h.n1+1,c1:=d }:=by
  refine⟨m.os,m.tape,m.output,v,λb a l=>r b a (λe=>l (.inl e)) λe=>l (.inr (.inl e)),?_⟩;rintro b a (f | f | f | f)
  ·exact .inl f
  ·exact .inr (.inl (q b f a))
  ·exact .inr (.inr (.inl f))
  exact .inr (.inr (.inr f))
 refine⟨⟨?_,?_,?_,⟨cs,?_,?_⟩,?_,?_,?_,k.st,k.wf,by show h.n1+1<=24;omega,k.b2,k.b3⟩,o⟩
 ·have y:Blk w1 p 126 (Q0 h):=k.blk.grown m λe=>E p e.symm rfl;exact Blk.set y 0 (K c (h.n1+1) d)
 ·rw[trmCs_snoc];exact Yq D λb a _ _=>u b AA
 ·exact Yq k.r2 λb a g j=>r b j AA λe=>k.d12 b e g
 ·exact Yq s λb a x j=>r b j AA λe=>k.d13 b e x
 ·exact z.keep v λb a l=>⟨o.keep b a l.1,λA=>l.1 (o.back b a A),l.2⟩
 ·intro b n g;have j:=(k.r2.lt b g).2;exact k.d12 b (q b n j) g
 ·intro b n g;have j:=(s.lt b g).2;exact k.d13 b (q b n j) g
 exact k.d23
def Wk.put2{G:Gr}(k:Wk w p B h G)(s:ByteArray)(j:h.n2<16)(c:Option Addr)(d:Nat)(D:w1.ownsRow (p+1) 9 1 (K c (h.n2+1) d) (h.n2+1) (G.O.map aS++[aS s]))(n:w.grownBy w1 (V2 h).ownBlock)(q:∀b,(K c (h.n2+1) d).ownBlock=some b->b<w.heap.size->(V2 h).ownBlock=some b):
 Wk (w1.setCell ⟨p,1,aN⟩ (K c (h.n2+1) d)) p B { h with a2:=c,n2:=h.n2+1,c2:=d } { G with O:=G.O++[s] } /\
 V6 w (w1.setCell ⟨p,1,aN⟩ (K c (h.n2+1) d)) p h { h with a2:=c,n2:=h.n2+1,c2:=d }:=by
 obtain⟨cs,t,z⟩:=k.r3;have E:∀b,(V2 h).ownBlock=some b->b≠p:=λb a=>by have:=(k.r2.lt b a).1;omega
 have u:∀b,b≠p->(w1.setCell ⟨p,1,aN⟩ (K c (h.n2+1) d)).heap[b]? = w1.heap[b]? := λb a=>Ea w1 ⟨p,1,aN⟩ _ b a;have v:w.heap.size<=(w1.setCell ⟨p,1,aN⟩ (K c (h.n2+1) d)).heap.size:=by simpa using n.size
 have r:∀b,b<w.heap.size->b≠p->(V2 h).ownBlock≠some b->(w1.setCell ⟨p,1,aN⟩ (K c (h.n2+1) d)).heap[b]? = w.heap[b]? := λb a C l =>
  (u b C).trans (n.block b a λe=>l e.symm)
 have o:V6 w (w1.setCell ⟨p,1,aN⟩ (K c (h.n2+1) d)) p h { h with a2:=c,n2:=h.n2+1,c2:=d }:=by
  refine⟨n.os,n.tape,n.output,v,λb a j=>r b a (λe=>j (.inl e)) λe=>j (.inr (.inr (.inl e))),?_⟩;rintro b a (f | f | f | f)
  ·exact .inl f
  ·exact .inr (.inl f)
  ·exact .inr (.inr (.inl (q b f a)))
  exact .inr (.inr (.inr f))
 refine⟨⟨?_,?_,?_,⟨cs,?_,?_⟩,?_,?_,?_,k.st,k.wf,k.b1,by show h.n2+1<=16;omega,k.b3⟩,o⟩
 ·have y:Blk w1 p 126 (Q0 h):=k.blk.grown n λe=>E p e.symm rfl;exact Blk.set y 1 (K c (h.n2+1) d)
 ·exact Yq k.r1 λb a m g=>r b g AA λe=>k.d12 b m e
 ·show World.ownsRow _ _ _ _ _ _ ((G.O++[s]).map aS);rw[DI];exact Yq D λb a _ _=>u b AA
 ·exact Yq t λb a x g=>r b g AA λe=>k.d23 b e x
 ·exact z.keep v λb a j=>⟨o.keep b a j.1,λA=>j.1 (o.back b a A),j.2⟩
 ·intro b l m;have g:=(k.r1.lt b l).2;exact k.d12 b l (q b m g)
 ·exact k.d13
 intro b l m;have g:=(t.lt b m).2;exact k.d23 b (q b l g) m
def Wk.put3{G:Gr}(k:Wk w p B h G)(t:Nat)(D:B<=t)(r:Rul)(R:∀s∈r.rt,U3 s)(f:h.n3<40)(c:Option Addr)(d:Nat)(Ar:Option Addr)(cr:Nat)(N:Za .i64 w Ar (Q r.rt) cr r.rt)(O:∀b S,Ar=some ⟨b,S,aN⟩->b<w.heap.size/\¬J8 p h b/\b<t/\p<b)(J:∀cs,w.ownsRow (p+1) 60 3 (V3 h) h.n3 cs->Kz w (λk=>¬J8 p h k/\k<B/\p<k) cs G.U->w1.ownsRow (p+1) 60 3 (K c (h.n3+1) d) (h.n3+1) (cs++[aI aJ r.L,K Ar (Q r.rt) cr,aI aJ r.P]))(n:w.grownBy w1 (V3 h).ownBlock)(v:∀b,(K c (h.n3+1) d).ownBlock=some b->b<w.heap.size->(V3 h).ownBlock=some b):
 Wk (w1.setCell ⟨p,2,aN⟩ (K c (h.n3+1) d)) p t { h with a3:=c,n3:=h.n3+1,c3:=d } { G with U:=G.U++[r] } /\
 V6 w (w1.setCell ⟨p,2,aN⟩ (K c (h.n3+1) d)) p h { h with a3:=c,n3:=h.n3+1,c3:=d }:=by
 obtain⟨cs,y,z⟩:=k.r3;have L:=J cs y z;have M:∀b,(V3 h).ownBlock=some b->b≠p:=λb a=>by have:=(y.lt b a).1;omega
 have A:∀b,b≠p->(w1.setCell ⟨p,2,aN⟩ (K c (h.n3+1) d)).heap[b]? = w1.heap[b]? := λb a=>Ea w1 ⟨p,2,aN⟩ _ b a;have C:w.heap.size<=(w1.setCell ⟨p,2,aN⟩ (K c (h.n3+1) d)).heap.size:=by simpa using n.size
 have x:∀b,b<w.heap.size->b≠p->(V3 h).ownBlock≠some b->(w1.setCell ⟨p,2,aN⟩ (K c (h.n3+1) d)).heap[b]? = w.heap[b]? := λb a I j =>
  (A b I).trans (n.block b a λe=>j e.symm)
 have u:V6 w (w1.setCell ⟨p,2,aN⟩ (K c (h.n3+1) d)) p h { h with a3:=c,n3:=h.n3+1,c3:=d }:=by
  refine⟨n.os,n.tape,n.output,C,λb a f=>x b a (λe=>f (.inl e)) λe=>f (.inr (.inr (.inr e))),?_⟩;rintro b a (g | g | g | g)
  ·exact .inl g
  ·exact .inr (.inl g)
  ·exact .inr (.inr (.inl g))
  exact .inr (.inr (.inr (v b g a)))
 refine⟨⟨?_,?_,?_,⟨cs++[aI aJ r.L,K Ar (Q r.rt) cr,aI aJ r.P],?_,?_⟩,?_,?_,?_,k.st,?_,k.b1,k.b2,by show h.n3+1<=40;omega⟩,u⟩
 ·have E:Blk w1 p 126 (Q0 h):=k.blk.grown n λe=>M p e.symm rfl;exact Blk.set E 2 (K c (h.n3+1) d)
 ·exact Yq k.r1 λb a l m=>x b m AA λe=>k.d13 b l e
 ·exact Yq k.r2 λb a l m=>x b m AA λe=>k.d23 b l e
 ·exact Yq L λb a _ _=>A b AA
 ·have F:Kz w (λk=>¬J8 p h k/\k<t/\p<k) cs G.U:=z.keep (AJ _) λb _ f=>⟨rfl,f.1,AK f.2.1 D,f.2.2⟩;exact (F.snoc r N O).keep C λb a f=>⟨u.keep b a f.1,λH=>f.1 (u.back b a H),f.2⟩
 ·exact k.d12
 ·intro b j l;have m:=(k.r1.lt b j).2;exact k.d13 b j (v b l m)
 ·intro b j l;have m:=(k.r2.lt b j).2;exact k.d23 b j (v b l m)
 intro q o;rcases DB.1 o with o | o
 ·exact k.wf q o
 rw[BO.1 o];exact R
def Wk.away{G:Gr}(k:Wk w p B h G)(m:w.heap.size<=w'.heap.size)(c:∀b,b<w.heap.size->(J8 p h b\/b<B)->w'.heap[b]? = w.heap[b]?):Wk w' p B h G:=by
 obtain⟨cs,g,l⟩:=k.r3;exact⟨(c p k.lt (.inl (.inl rfl))).trans k.blk,Yq k.r1 λb _ a d=>c b d (.inl (.inr (.inl a))),Yq k.r2 λb _ a d=>c b d (.inl (.inr (.inr (.inl a)))),
  ⟨cs,Yq g λb _ a d=>c b d (.inl (.inr (.inr (.inr a)))),l.keep m λb j f=>⟨c b j (.inr f.2.1),f⟩⟩,k.d12,k.d13,k.d23,k.st,k.wf,k.b1,k.b2,k.b3⟩
def Wk.foot_lt{G:Gr}(k:Wk w p B h G){b:Nat}(d:J8 p h b):b<w.heap.size:=by
 obtain⟨cs,c,_⟩:=k.r3;rcases d with a | a | a | a
 ·rw[a];exact k.lt
 ·exact (k.r1.lt b a).2
 ·exact (k.r2.lt b a).2
 exact (c.lt b a).2
def V6.blk{b:GH}{cs:Array Value}(T:V6 w w' p h b)(a:Blk w g t cs)(c:¬J8 p h g):Blk w' g t cs:=(T.keep g a.lt c).trans a
def Wc.lt(h:Wc w p ts):p<w.heap.size:=by
 obtain⟨b,A,c,x,y,f,g,a,d⟩:=h;exact a.lt
def below_appendG{wr:World}{size:Nat}{c:Nat}(a:Below base w wr)(d:wr.grownBy w' (K A n c).ownBlock)(g:wr.ownsRow base e size (K A n c) n xs)(b:base<=wr.heap.size):Below base w w' :=
 a.grown d b λk f=>(g.lt k f).1
def Wc.keep(h:Wc w p ts)(j:w.heap.size<=w'.heap.size)(b:∀k,k<=p->k<w.heap.size->w'.heap[k]? = w.heap[k]?):Wc w' p ts:=by
 obtain⟨g,A,c,x,y,m,n,a,l⟩:=h;exact⟨g,A,c,x,y,m,n,(b p (AJ _) a.lt).trans a,l.keep j λk d f=>b k (DS d) f⟩
def Wc.app{size c:Nat}(h:Wc w p ts)(a:w.grownBy w' (K A n c).ownBlock)(d:w.ownsRow base e size (K A n c) n xs)(g:p<base):Wc w' p ts :=
 h.keep a.size λk f b=>a.block k b λe=>by have:=(d.lt k e.symm).1;omega
def Qg{size c:Nat}(a:w.ownsRow base e size (K A n c) n xs)(g:w.grownBy w' (some p))(h:p<base):w'.ownsRow base e size (K A n c) n xs :=
 Wv a λb d f=>g.block b f λe=>by injection e with e;have:=(a.lt b d).1;omega
def grown_app{size c:Nat}(h:w.grownBy w1 (some p))(a:w1.grownBy w' (K A n c).ownBlock)(f:w1.ownsRow base e size (K A n c) n xs)(g:w.heap.size<=base):w.grownBy w' (some p) :=
 ⟨a.os.trans h.os,a.tape.trans h.tape,a.output.trans h.output,BC h.size a.size,λk b d=>(a.block k (AK b h.size) λe=>by have:=(f.lt k e.symm).1;omega).trans (h.block k b d)⟩
def Zs9{g wr t n:World}{d c v G x y:Nat}{u:Option Addr}{e:TypeId}{L:ByteArray}{D:List Tk}(J:p<g.heap.size)(j:g.grownBy wr (some p))(F:wr.ownsRow g e 5 (K A d c) d cs)(E:Vu wr (λb=>g.heap.size<=b/\(K A d c).ownBlock≠some b) cs done)(a:Zyt wr t p G Ar cr L x y rs D)(f:t.grownBy n (K A d c).ownBlock)(z:∀b,(K u (d+1) v).ownBlock=some b->b<t.heap.size->(K A d c).ownBlock=some b):
 Vu n (λb=>g.heap.size<=b/\(K u (d+1) v).ownBlock≠some b) (cs++[aS L,.complex .f64 x y,K Ar (Q rs) cr,aS ⟨#[]⟩,.complex .f64 0 0]) (done++[⟨L,rs,⟨#[]⟩⟩])/\g.grownBy n (some p)/\Wc n p D:=by
 have M:=j.size;have N:=a.gr.size;have C:=f.size;have m:∀b,(K A d c).ownBlock=some b->g.heap.size<=b/\b<wr.heap.size:=λb h=>F.lt b h;refine⟨Vu.app (E.keep AA λk r H=>?_) (Vu.one ⟨L,rs,⟨#[]⟩⟩ x y 0 0 ?_ λb s q=>?_),?_,?_⟩
 ·obtain⟨h1,l⟩:=H;refine⟨?_,h1,λo=>l (z k o AA)⟩;rw[f.block k AA (λh=>l h.symm),a.gr.block k r (λh=>by injection h with h;omega)]
 ·refine a.row.keep C λb s q I=>f.block b I λh=>?_;have:=(a.fresh b s q).1;have:=(m b h.symm).2;omega
 ·have h1:=a.fresh b s q;refine⟨AA,AA,λo=>?_⟩;have:=(m b (z b o AA)).2;omega
 ·refine⟨f.os.trans (a.gr.os.trans j.os),f.tape.trans (a.gr.tape.trans j.tape),f.output.trans (a.gr.output.trans j.output),AA,λk r B=>?_⟩;rw[f.block k AA (λh=>by have:=(m k h.symm).1;omega),a.gr.block k AA B,j.block k r B]
 exact a.rd.keep C λk h1 l=>f.block k l λh=>by have:=(m k h.symm).1;omega
def Vu.grown(h:Vu w (λb=>B<=b/\v.ownBlock≠some b) cs ps)(c:w.grownBy w' (some p))(f:p<B):Vu w' (λb=>B<=b/\v.ownBlock≠some b) cs ps :=
 h.keep c.size λk d a=>⟨c.block k d λe=>by injection e with e;have:=a.1;omega,a⟩
def own_cells{size c:Nat}(h:w.ownsRow base e size (K A n c) n xs)(o:0<n):∃g,A=some ⟨g,0,aN⟩/\base<=g/\g<w.heap.size/\∀j u,xs[j]? = some u->w.cell? ((⟨g,0,aN⟩:Addr).add j)=some u:=by
 rcases h.2 with ⟨a,rfl⟩ | ⟨g,cap,f,a,b,m,p,k,l,q⟩
 ·omega
 injection a with h1 h2 h3;subst h1;have d:=h.lt g rfl;exact⟨g,rfl,b,d.2,h.cells rfl⟩
def Ll.put{G:Gr}{c:List Nat}(h:Ll G c tab m p)(hi:c[p]? = some i)(v:Nat)(l:v=Zv G (-1-(i:Int)) m):Ll G c (U6 tab m i v) m (p+1):=by
 have d:c.take (p+1)=c.take p++[i]:=by rw[Du,hi];rfl
 refine⟨λk g j a=>?_,λj a=>?_,λj a=>?_⟩
 ·unfold U6;rw[if_neg AA];exact h.low k g j a
 ·unfold U6;split
  ·rename_i b;rw[b.2];exact l
  rename_i b;rw[d,DB,BO] at a;rcases a with a | a
  ·exact h.now j a
  exact absurd ⟨rfl,a⟩ b
 rw[d,DB,BO] at a;unfold U6;rw[if_neg (by rintro⟨_,b⟩;exact a (.inr b))];exact h.rest j λf=>a (.inl f)
def Off.trans{T:Nat->Prop}{a:World}(x:Off S a b)(y:Off T b c)(h:∀k,k<a.heap.size->T k->S k):Off S a c :=
 ⟨y.os.trans x.os,y.tape.trans x.tape,y.output.trans x.output,BC x.size y.size,λk d f=>(y.keep k (AK d x.size) λg=>f (h k d g)).trans (x.keep k d f)⟩
def Off.is_below(x:Off S w w')(a:B<=w.heap.size)(b:∀k,S k->B<=k):Below B w w' :=
 ⟨x.os,x.tape,x.output,x.size,λk c=>x.keep k (AK c a) λd=>by have:=b k d;omega⟩
def Off.blk{cs:Array Value}(x:Off S w w')(a:Blk w g t cs)(b:¬S g):Blk w' g t cs:=(x.keep g a.lt b).trans a
def Off.row{size c:Nat}(x:Off S w w')(h:w.ownsRow base e size (K A n c) n xs)(f:∀b,(K A n c).ownBlock=some b->¬S b):w'.ownsRow base e size (K A n c) n xs :=
 Wv h λb a d=>x.keep b d (f b a)
def offX{a:World}{r:Nat}(h:Off (λk=>k=g) w a)(c:Off (λk=>k=r) a b):Off (λk=>k=g\/k=r) w b :=
 (Off.trans (S:=λk=>k=g\/k=r) ⟨h.os,h.tape,h.output,h.size,λk d f=>h.keep k d λe=>f (.inl e)⟩ c λ_ _ e => .inr e)
def Red2.put{d f:Nat}{x:Value}{G:Gr}{s:Option Addr}{u:Nat}{v:List Nat}(r:Red2 c d f n x G w l m s u a v)(B:f<c.heap.size)(A:d<c.heap.size)(j:Nat)(q:Option Addr)(t:Nat)(z:w1.ownsRow c 3 1 (K q ((Q a)+1) t) ((Q a)+1) (ints .i64 (Z6 a)++[aI aJ (j:Int)]))(y:w.grownBy w1 (K l (Q a) m).ownBlock):
 Red2 c d f n x G w1 q t s u (a++[j]) v:=by
 have g:=Off.of_grown y;have p:∀b,(K l (Q a) m).ownBlock=some b->c.heap.size<=b:=λb o=>(r.kept.lt b o).1;refine⟨r.off.trans g λk C h=>?_,g.blk r.tos λh=>?_,g.blk r.out λh=>?_,?_,g.row r.O λb o h=>Fe r.kept r.O AC h o⟩
 ·have:=p k h;omega
 ·have:=p f h;omega
 ·have:=p d h;omega
 have e:ints .i64 (Z6 (a++[j]))=ints .i64 (Z6 a)++[aI aJ (j:Int)]:=by simp[ints,Z6]
 rw[e,AU,CW];exact z
def Zyu.put{u:Value}{f:Option Addr}{c3:Nat}{a:List Rul}(r:Zyu c j u v w f c3 a)(E:j<c.heap.size)(q:Rul)(C:Za .i64 w Ar (Q q.rt) cr q.rt)(z:∀b D,Ar=some ⟨b,D,aN⟩->b<w.heap.size/\c.heap.size<=b/\(K f (Q a) c3).ownBlock≠some b)(d:Option Addr)(g:Nat)(B:∀cs,w.ownsRow c 60 3 (K f (Q a) c3) (Q a) cs->w1.ownsRow c 60 3 (K d ((Q a)+1) g) ((Q a)+1) (cs++[aI aJ q.L,K Ar (Q q.rt) cr,aI aJ q.P]))(A:w.grownBy w1 (K f (Q a) c3).ownBlock)(l:∀b,(K d ((Q a)+1) g).ownBlock=some b->b<w.heap.size->(K f (Q a) c3).ownBlock=some b):
 Zyu c j u v (w1.setCell ⟨j,2,aN⟩ (K d ((Q a)+1) g)) d g (a++[q]):=by
 obtain⟨cs,h1,x⟩:=r.U;have m:=Off.of_grown A;have o:=Off.of_set w1 j 2 (K d ((Q a)+1) g);have s:∀b,(K f (Q a) c3).ownBlock=some b->c.heap.size<=b:=λb l=>(h1.lt b l).1;have t:=B cs h1;refine⟨(r.off.trans m λk n h=>?_).trans o λk _ h=>h,?_,cs++[aI aJ q.L,K Ar (Q q.rt) cr,aI aJ q.P],?_,?_⟩
 ·have:=s k h;omega
 ·have y:=m.blk r.out λh=>by have:=s j h;omega
  have:=Blk.set y 2 (K d ((Q a)+1) g);rw[AU,CW];exact this
 ·rw[AU,CW];refine o.row t λb l h=>?_;have:=(t.lt b l).1;omega
 rw[AU,CW];refine (x.snoc q C z).keep (by have:=m.size;have:=o.size;omega) λk n p=>⟨(o.keep k (AK n m.size) λh=>AA).trans (m.keep k n p.2),p.1,λe=>p.2 (l k e n)⟩
def Off.maps_trans{k:CH}{a:World}(x:Off k.maps a b)(y:Off k.maps b c):Off k.maps a c:=x.trans y λ_ _ h=>h
def Off.maps_new{k:CH}{a:World}(x:Off k.maps a b)(y:Off (λq=>q=g) b c)(d:a.heap.size<=g):Off k.maps a c:=x.trans y λq f h=>AA
def nodup_ne{b:List Nat}(h:b.Nodup){a:Nat}(o:b[m]? = some g)(p:b[a]? = some j)(q:a≠m):j≠g:=by
 rintro rfl;obtain⟨l,d⟩:=AN.1 o;obtain⟨n,f⟩:=AN.1 p;have k:=List.pairwise_iff_getElem.1 h;rcases (AA:m<a\/a<m) with c | c
 ·exact k m a l n c (d.trans f.symm)
 exact k a m n l c (f.trans d.symm)
section
variable {P:Program} {ops:Array Oper} {md:Region.Mode} {C:World->Prop}
def headQ_first{r:Oper}(hi:ops[i]? = some r)(F:∀(j:Nat) (o:Oper) cs b,ops[j]? = some o->o.op ≠ .select cs b)(x:Region.sinkB md ops n=true)(z:Region.chainB md ops n=true)(A:i<n)(N:∀listed a,L listed a->∀j∈Region.ready md ops listed,n<=j):
 ∀(f:Nat) (listed:Array Bool) (a:Act),HeadInv md ops n listed->
  (∀j d,ops[j]? = some d->j≠i->listed.getD j true=false->(∀e∈d.after,Region.binds md e=true->e.on≠i)->r.apart ops d=true)->
  i∈Region.ready md ops listed->YieldsIn P ops C r v a->
  headQ P md ops C n L f (listed.setIfInBounds i true) (a.put r.dst v)->headQ P md ops C n L (f+1) listed a:=by
 intro f
 induction f with
 | zero =>
   intro listed a inv u m t H;have p:=(mem_ready.1 m).1;have Z:n<=ops.size:=by
    rcases BD ops.size n with h | h
    ·exfalso;have q:=BG.1 x (ops.size) (BP.2 h);obtain⟨j,c,B⟩:=Eo.1 q;simp only[AS,decide_eq_true_eq] at B;obtain⟨d,g,_⟩:=Region.waitsFor_spec B.2;have:=(Array.getElem?_eq_some_iff.1 g).1;omega
    exact h
   refine⟨λh=>(by rw[h] at m;cases m),λj c=>?_⟩;have s:j<n:=by
    rcases BD j n with h | h
    ·exact h
    have V:j<ops.size:=by
     obtain⟨_,d,g,_⟩:=mem_ready.1 c;exact (Array.getElem?_eq_some_iff.1 g).1
    exact absurd c (tail_waits x z AA inv _ i rfl A p j h)
   refine⟨s,?_⟩;by_cases l:j=i
   ·subst l;exact t.qOp hi H
   ·have:=N _ _ H j (ready_mono c l);omega
 | succ f Y =>
   intro listed a inv u m t H;have p:=(mem_ready.1 m).1;refine⟨λh=>(by rw[h] at m;cases m),λj c=>?_⟩;have s:j<n:=by
    rcases BD j n with h | h
    ·exact h
    have V:j<ops.size:=by
     obtain⟨_,d,g,_⟩:=mem_ready.1 c;exact (Array.getElem?_eq_some_iff.1 g).1
    exact absurd c (tail_waits x z AA inv _ i rfl A p j h)
   refine⟨s,?_⟩;by_cases l:j=i
   ·subst l;exact t.qOp hi H
   have q:=(H.2 j (ready_mono c l)).2;obtain⟨E,d,g,J⟩:=mem_ready.1 c;have X:∀e∈d.after,Region.binds md e=true->e.on≠i:=λe O M R=>by
    have q:=J e O M;rw[R,getD_both p] at q;cases q
   have I:=qOp_put g (u j d g l E X) (λcs b=>F i r cs b hi) (λcs b=>F j d cs b g) t q;have S:∀k ok,ops[k]? = some ok->k≠i->(listed.setIfInBounds j true).getD k true=false->
    (∀e∈ok.after,Region.binds md e=true->e.on≠i)->r.apart ops ok=true:=λk ok T U p W=>by
    refine u k ok T U ?_ W;by_cases D:j=k
    ·subst D;exact E
    rw[getD_set_ne true D] at p;exact p
   refine qOp_mono (λG y=>Y (listed.setIfInBounds j true) G (inv.set c s) S (ready_mono m (Ne.symm l)) y.1 ?_) I;rw[Array.setIfInBounds_comm _ _ l];exact y.2
def Zvv{c:Act->Prop}(r:Region.noSelect ops=true)(q:Region.sinkB md ops n=true)(f:Region.chainB md ops n=true):
 ∀(l:List Oper) (k:Nat) (listed:Array Bool) (a:Act),(∀j,j<(Q l)->l[j]? = ops[k+j]?)->k+(Q l)=n->HeadInv md ops n listed->
 Region.lexHead md ops g (Q l) k listed=true->wpQuiet P ops C c l a->
 headQ P md ops C n (λs d=>Region.seqB md ops g n s=true/\c d) (Q l) listed a
 | [],k,listed,a,_,hk,_,hB,h=>by
   have:k=n:=by simpa using hk
   subst this;exact⟨by simpa [Region.lexHead] using hB,h⟩
 | o::l,k,listed,a,hl,hk,inv,hB,h=>by
   have b:ops[k]? = some o:=by simpa using (hl 0 AE).symm
   simp only[AY,Region.lexHead,AS] at hB;obtain⟨⟨z,y⟩,t⟩:=hB;have m:k<n:=by simp only[AY] at hk;omega
   have p:k∈Region.ready md ops listed:=by simpa using z
   have A:qOp P ops C k (wpQuiet P ops C c l) a:=by unfold qOp;simp only[b];exact h
   obtain⟨v,B,u⟩:=yieldsIn_of_qOp b A;exact headQ_first b (Region.noSelect_spec r) q f m (λs d x=>seqB_ready x.1) (Q l) listed a inv (Region.free_spec b y) p B
    (Zvv r q f l (k+1) _ _ (λj D=>by have:=hl (j+1) AG;simpa [DY,Em 1 j] using this) (by simp only[AY] at hk;omega) (inv.set p m) t u)
def wp_region_quiet_tail{Q:Exit->Act->World->Prop}{a:Act}{l:List Oper}(n:Nat)(u:P.follows .mixedOrders=true)(d:Region.lexTailB .any l.toArray n=true)(p:C { w with drawn:=w.drawn+1 })(h:wpQuiet P l.toArray C (λc=>∀w',C w'->wpList P l.toArray Q (l.drop n) c w') (l.take n) a):(Code.region id l.toArray true).wp P Q a w:=by
 simp only[Region.lexTailB,AS,decide_eq_true_eq] at d;obtain⟨⟨⟨⟨y,v⟩,x⟩,q⟩,s⟩:=d;have D:n<(aQ l):=by simpa using v
 have b:(l.take n).length=n:=AG
 have k:(l.drop n).length=l.toArray.size-n:=AE
 have B:HeadInv .any l.toArray n (Array.replicate l.toArray.size false) :=
  ⟨AE,λj E _ o=>(by rw[getD_replicate_false] at o;cases o),λt _ z=>getD_in (by simpa using z) (getD_replicate_false _ _)⟩
 have H:=Zvv (md := .any) (g:=l.toArray.size-n) y x q (l.take n) 0 _ a (λj m=>by
  have r:j<n:=by rw[b] at m;exact m
  simp[r]) (by simpa using b) B (by rw[b];exact s) h
 refine wp_region_any u ?_;have:=Bh (Q':=Q) (g:=l.toArray.size-n) (λlisted c w' A f=>by
  have:=wpAny_of_seq (md := .any) (Q':=Q) (l.drop n) n listed c w' (λj=>by simp[DX]) (by rw[k];exact f.1) (f.2 w' A);rwa [k] at this) _ _ _ _ p H
 rw[b,show n+(l.toArray.size-n)=l.toArray.size by omega] at this;exact this
def Yx{Q:Exit->Act->World->Prop}{a:Act}{l:List Oper}(n:Nat)(d:P.follows .mixedOrders=true)(c:Region.lexTailB .any l.toArray n=true)(h:wpQuiet P l.toArray (λw'=>∃x,w'=bl w x) (λb=>∀w',(∃x,w'=bl w x)->wpList P l.toArray Q (l.drop n) b w') (l.take n) a):(Code.region id l.toArray true).wp P Q a w :=
 wp_region_quiet_tail (C:=λw'=>∃x,w'=bl w x) n d c ⟨⟨_,(AP w w).drew⟩,rfl⟩ h
end
section
variable {G:Gr}
def cyc_bit(b:G.Fits)(i:Nat):(cycS (Yz G)).testBit i=true↔i<(Q G.O)/\Yw (Yz G) i i=true:=by
 unfold cycS;rw[J3,Wh];simp only[AS,decide_eq_true_eq];have:=b.n2;constructor
 ·rintro⟨_,h1,a⟩;exact⟨h1,a⟩
 rintro⟨h1,a⟩;exact⟨AA,h1,a⟩
end
section
variable {P:Program}
def Xw(P:Program)(ops:Array Oper)(Q:Exit->Act->World->Prop)(J:Array Bool->Act->World->Prop):Nat->List Oper->Prop
 | _,[]=>True
 | i,o::rest=>(∀(listed:Array Bool) (a:Act) (w:World),J listed a w->listed.getD i true=false->(∀e∈o.after,Region.binds .any e=true->listed.getD e.on false=true)->
    ∀K:Act->World->Prop,(∀b w',J (listed.setIfInBounds i true) b w'->K b w')->if Region.wanted o (yielded ops a.tmps) then o.wp P a w K Q else K (a.put o.dst undef) w)/\Xw P ops Q J (i+1) rest
def Xw.cons{ops:Array Oper}{Q:Exit->Act->World->Prop}{o:Oper}{rest:List Oper}(h:∀(listed:Array Bool) (a:Act) (w:World),J listed a w->listed.getD i true=false->(∀e∈o.after,Region.binds .any e=true->listed.getD e.on false=true)->
   ∀K:Act->World->Prop,(∀b w',J (listed.setIfInBounds i true) b w'->K b w')->if Region.wanted o (yielded ops a.tmps) then o.wp P a w K Q else K (a.put o.dst undef) w)(t:Xw P ops Q J (i+1) rest):Xw P ops Q J i (o::rest):=⟨h,t⟩
def Xc.cons{o:Oper}{rest:List Oper}(c:o.guard=aN)(h:∀(Q:Exit->Act->World->Prop) (listed:Array Bool) (a:Act) (w:World),J listed a w->listed.getD i true=false->(∀e∈o.after,Region.binds .any e=true->listed.getD e.on false=true)->
   ∀K:Act->World->Prop,(∀b w',J (listed.setIfInBounds i true) b w'->K b w')->o.wp P a w K Q)(t:Xc P J (i+1) rest):Xc P J i (o::rest):=⟨⟨c,h⟩,t⟩
def Xc.inv{ops:Array Oper}{Q:Exit->Act->World->Prop}:∀{l:List Oper} {i:Nat},Xc P J i l->Xw P ops Q J i l
 | [],_,_=>trivial
 | o::l,i,h=>by
   refine⟨λlisted a w b f d K c=>?_,Xc.inv h.2⟩;have e:Region.wanted o (yielded ops a.tmps)=true:=by unfold Region.wanted;rw[h.1.1]
   rw[if_pos e];exact h.1.2 Q listed a w b f d K c
end
section
open Go.Maps (Keyed IsMap Tidy)
def numR:List Nat->DataW Unit
 | [] => .map []
 | i::r=>(numR r).put (Dc i) (.lit (.int .i64 (r.length:Int)))
def Zys(a:List Nat):DataW Unit:=numR a.reverse
theorem Zvz(a:List Nat)(i:Nat):Zys (a++[i])=(Zys a).put (Dc i) (.lit (.int .i64 (a.length:Int))):=by
 unfold Zys;rw[List.reverse_append,List.reverse_singleton,List.singleton_append];show (numR a.reverse).put (Dc i) (.lit (.int .i64 (a.reverse.length:Int)))=_;rw[List.length_reverse]
theorem D8:∀r:List Nat,IsMap (numR r)
 | []=>Maps.isMap_empty
 | i::r=>(D8 r).put _ _
theorem Zsm(i:Nat):∀r:List Nat,Maps.has (numR r) (Dc i)=decide (i∈r)
 | []=>by simp[numR,Maps.has_eq]
 | j::r=>by
   show Maps.has ((numR r).put (Dc j) _) (Dc i)=_;by_cases h:i=j
   ·subst h;rw[Maps.has_put_same (D8 r) (Zt4 i)];simp
   rw[Maps.has_put_other (nKey_ne h),Zsm i r];simp[h]
def Zt6(a:List Nat)(i:Nat):Maps.has (Zys a) (Dc i)=decide (i∈a):=by
 unfold Zys;rw[Zsm];simp
def NumM(w:World)(g:Nat)(a:List Nat):Prop:=w.ownsMap Tryz.prog 3 (plainElem (H:=Unit) Tryz.prog 3) g a.length (Zys a)
structure Dm (W0:World) (gO gM:Nat) (v1:Value) (G:Gr) (w:World) (Ak:Option Addr) (ck:Nat) (An:Option Addr) (cn:Nat) (ks old:List Nat):Prop where
 off:Off (λk=>k=gM\/k=gO) W0 w
 num:NumM w gM old
 out:Blk w gO 26 #[v1,K An old.length cn,K none 0 0,aI aJ 0]
 kept:w.ownsRow W0.heap.size 3 1 (K Ak ks.length ck) ks.length (ints .i64 (Z6 ks))
 O:w.ownsRow W0.heap.size 9 1 (K An old.length cn) old.length (old.map λi=>aS (Ws G i))
def NumM.block(h:NumM w g a)(c:w'.heap[g]? = w.heap[g]?):NumM w' g a:=by
 obtain⟨b,clock,d,r⟩:=h;exact⟨b,clock,c.trans d,r⟩
def Dm.put{f d:Nat}{G:Gr}{t:Nat}{u:List Nat}(r:Dm c f d v G w l m q t a u)(z:d<c.heap.size)(A:f<c.heap.size)(j:Nat)(p:Option Addr)(s:Nat)(y:w1.ownsRow c 3 1 (K p ((Q a)+1) s) ((Q a)+1) (ints .i64 (Z6 a)++[aI aJ (j:Int)]))(x:w.grownBy w1 (K l (Q a) m).ownBlock):
 Dm c f d v G w1 p s q t (a++[j]) u:=by
 have g:=Off.of_grown x;have o:∀b,(K l (Q a) m).ownBlock=some b->c.heap.size<=b:=λb n=>(r.kept.lt b n).1;refine⟨r.off.trans g λk B h=>?_,r.num.block (g.keep d r.num.lt λh=>?_),g.blk r.out λh=>?_,?_,g.row r.O λb n h=>Fe r.kept r.O AC h n⟩
 ·have:=o k h;omega
 ·have:=o d h;omega
 ·have:=o f h;omega
 have e:ints .i64 (Z6 (a++[j]))=ints .i64 (Z6 a)++[aI aJ (j:Int)]:=by simp[ints,Z6]
 rw[e,AU,CW];exact y
structure Zvs (W0:World) (gO gM:Nat) (v1:Value) (G:Gr) (w:World) (Ak:Option Addr) (ck:Nat) (An:Option Addr) (cn:Nat) (ks old:List Nat) (l:Nat):Prop where
 off:Off (λk=>k=gM\/k=gO) W0 w
 num:NumM w gM (old++[l])
 out:Blk w gO 26 #[v1,K An old.length cn,K none 0 0,aI aJ 0]
 kept:w.ownsRow W0.heap.size 3 1 (K Ak ks.length ck) ks.length (ints .i64 (Z6 ks))
 O:w.ownsRow W0.heap.size 9 1 (K An old.length cn) old.length (old.map λi=>aS (Ws G i))
theorem Dm.number{d:World}{f a:Nat}{s:Value}{G:Gr}{m:Option Addr}{o:Nat}{n:Option Addr}{q c:List Nat}(r:Dm d f a s G w m o n p q c)(x:a<d.heap.size)(y:f<d.heap.size)(t:a≠f){l:Nat}(z:l∉c)(v:w1.ownsMap prog 3 (plainElem (H:=Unit) prog 3) a (c.length+1) ((Zys c).put (Dc l) (.lit (.int .i64 (c.length:Int)))))(u:w.grownBy w1 (some a)):
 Zvs d f a s G w1 m o n p q c l:=by
 have g:=Off.of_grown u;refine⟨r.off.trans g λk _ h=>?_,?_,g.blk r.out λh=>?_,g.row r.kept λb j h=>?_,g.row r.O λb j h=>?_⟩
 ·injection h with h;exact .inl h.symm
 ·unfold NumM;rw[Zvz,AU,CW];exact v
 ·injection h with h;exact t h
 ·injection h with h;have:=(r.kept.lt b j).1;omega
 injection h with h;have:=(r.O.lt b j).1;omega
def Zf.of_below(h:Below w w w'):Zf w w':=⟨h.size,λb a _=>h.block b a⟩
def Zf.of_off(h:Off S w w')(a:∀g,S g->Qf w g):Zf w w':=⟨h.size,λb c ⟨o,k,z,d⟩=>h.keep b c λf=>a b f o k z d⟩
def Zq.kept{k:IntKind}{c:Nat}{xs:List Nat}(h:Zq k w A n c xs)(m:Zf w w'):Zq k w' A n c xs:=by
 refine⟨h.1,h.2.1,h.2.2.1,λd=>?_⟩;obtain⟨b,f,e,g,l⟩:=h.2.2.2 d;have h0:=l 0 d;have hi:∃o q z,w.cell? ⟨b,o,aN⟩=some (aI q z):=by
  have s:0<(Q xs):=by simpa [nums] using d
  refine⟨f+0,k,((xs[0]:Nat):Int),?_⟩;rw[h0];simp[nums,s]
 have p:=m.2 b g hi;exact⟨b,f,e,AK g m.1,λj r=>(DG (a:=⟨b,f+j,aN⟩) p).trans (l j r)⟩
def Lk{P:Program}{f:FuncId}(h:Calls P f args (w.drewN n) λe w'=>e = aR v/\w.drewN n=w'):Calls P f args (w.drewN n) λe c=>e = aR v/\∃m,c=w.drewN m :=
 h.mono λ_ _ ⟨a,b⟩=>⟨a,n,b.symm⟩
def Zsh(d:Blk c g 26 #[K aN 0 0,K aN 0 0,K aN 0 0,aI aJ 0])(a:Below w w c)(b:w.heap.size<=g):
 Below w w ((((c.setCell ⟨g,0,aN⟩ (K aN 0 0)).setCell ⟨g,1,aN⟩ (K aN 0 0)).setCell ⟨g,2,aN⟩ (K aN 0 0)).setCell ⟨g,3,aN⟩ (aI aJ 0)) :=
 (((a.trans (Zn (Zd _ _ _ _) a.size b)).trans (Zn (Zd _ _ _ _) (by simpa using a.size) b)).trans (Zn (Zd _ _ _ _) (by simpa using a.size) b)).trans (Zn (Zd _ _ _ _) (by simpa using a.size) b)
def Off.map_trans{k:BkH}{a:World}(x:Off k.map a b)(y:Off k.map b c):Off k.map a c:=x.trans y λ_ _ h=>h
def Cel.mono{S':Nat->Prop}{X a:World}{l:Bool}{m:Value}(h:Cel S j X v l m)(x:∀q,S q->S' q)(s:∀g t f,v = aP (some ⟨g,0,aN⟩)->Blk X g t f->Blk a g t f):Cel S' j a v l m:=by
 obtain⟨g,A,n,c,d,e,h1,o,p,r⟩:=h;exact⟨g,A,n,c,d,e,h1,x _ o,s _ _ _ e p,r⟩
end
section
open Ieee
open Go.Maps (Keyed IsMap Tidy)
def Am(h:i<n):toI (List.range n) i=(i:Int):=Fc List.nodup_range (List.getElem?_range h)
end
end
section
variable{f:List Bool->List Bool}{F S xs a:List Nat}{x i k n c j q g v L:Nat}{t:TypeId}{b:Bool}{w:World}{A:Option Addr}{ss:List ByteArray}{ps:List Prd}{P N:List Bool}{s:Int}{l:List Int}{cs:Array Value}
structure Yf (w:World) (h:GH) (G:Gr):Prop where
 T:N8 w h.a1 h.n1 h.c1 G.T
 O:Js w h.a2 h.n2 h.c2 G.O
 U:Dv w h.a3 h.n3 h.c3 G.U
 wf:∀r∈G.U,∀s∈r.rt,U3 s
def lx_plain(c:Nat)(w:World)(g:c<256):
 Calls prog 226 #[aI .u8 (c:Int)] w λe w'=>e = aR (aB (Mt c))/\w=w':=by
 have d:c<32\/(32<=c/\c<=126/\c=39)\/(32<=c/\c<=126/\c=92)\/(32<=c/\c<=126/\c≠39/\c≠92)\/126<c:=AA
 rcases d with g0 | ⟨g0,a,b⟩ | ⟨g0,a,b⟩ | ⟨g0,a,b,f⟩ | g0;all_goals
  go_enter func226,ntmps226;go_wp2;all_goals
   go_ret;refine⟨Jf ?_,rfl⟩;unfold Mt;rw[Cc];simp only[Cs,AS,BS,BK,ne_eq,Bool.not_eq_true',decide_eq_true_eq,AZ,Bool.false_eq_true,true_iff,false_iff,iff_true,iff_false];omega
def lx_escaped(c:Nat)(w:World)(g:c<256):
 Calls prog 227 #[aI .u8 (c:Int)] w λe w'=>e = aR (aB (Q1 c))/\w=w':=by
 have a:c=110\/c=116\/c=92\/c=39\/(c≠110/\c≠116/\c≠92/\c≠39):=AA
 rcases a with g0 | g0 | g0 | g0 | ⟨g0,b,d,f⟩;all_goals
  go_enter func227,ntmps227;go_wp2;all_goals
   go_ret;refine⟨Jf ?_,rfl⟩;unfold Q1;rw[Cc];simp only[Cs,AS,BS,BK,ne_eq,Bool.not_eq_true',decide_eq_true_eq,AZ,Bool.false_eq_true,true_iff,false_iff,iff_true,iff_false];omega
def Qv.fix(d:Qv f)(b:List Bool):f (Z3 f (Q b) b)=Z3 f (Q b) b:=by
 by_cases g:f (Z3 f (Q b) b)=Z3 f (Q b) b
 ·exact g
 exfalso;have q:∀k,(Z3 f k b).length=(Q b):=λk=>by
  induction k with
  | zero=>rfl
  | succ k j=>show (f (Z3 f k b)).length=_;rw[d.len,j]
 have r:∀k,k<=(Q b)->f (Z3 f k b)≠Z3 f k b:=λk m h=>by
  have a:=M7 h (Q b) m;rw[a] at g;exact g h
 have n:∀k,k<=(Q b)+1->k<=(Z3 f k b).countP (·):=λk=>by
  induction k with
  | zero=>intro _;omega
  | succ k j =>
    intro m;have a:=j AA;have c:=Zsi (Z3 f k b) (f (Z3 f k b)) (d.len _).symm λi hi=>d.up _ i hi;have s:(Z3 f k b).countP (·)≠(f (Z3 f k b)).countP (·):=λo=>r k AA (c.2 o).symm;show k+1<=(f (Z3 f k b)).countP (·);omega
 have a:=n ((Q b)+1) (AJ _);have c:=List.countP_le_length (p:=λx:Bool=>x) (l:=Z3 f ((Q b)+1) b);rw[q] at c;omega
def GrowsS.fix{f:List Nat->List Nat}(b:GrowsS f)(F:List Nat):f (Z3 f (Q F) F)=Z3 f (Q F) F:=by
 obtain⟨p,c,a⟩:=b;have hit:∀t k,Je t (Z3 f k F)=Z3 (p t) k (Je t F):=λt k=>by
  induction k with
  | zero=>rfl
  | succ k d=>show Je t (f (Z3 f k F))=p t (Z3 (p t) k (Je t F));rw[a,d]
 refine view_ext λt=>?_;rw[a,hit];have:=(c t).fix (Je t F);rwa [show (Je t F).length=(Q F) by simp[Je]] at this
def We.get(h:We F)(i:Nat):F.getD i 0<4294967296:=by
 rw[AO];cases a:F[i]? with
 | none=>simp
 | some x=>exact h x (AM a)
def We.addAt(h:We F)(i:Nat)(b:x<4294967296):We (addAt i x F):=by
 intro y a;unfold Go.Proofs.YtaagompdgiobeaaGreatDoor.addAt at a;rcases List.mem_or_eq_of_mem_set a with a | rfl
 ·exact h y a
 exact Ct (h.get i) b
def Zxr(S:List Nat):Ja S (Xu S)=Xu S:=(stepD_grows S).fix S
def Lh{t:Nat}(hi:i<(Q S))(c:k<(Q S))(b:(S.getD i 0).testBit k=true)(a:Yw S k t=true):Yw S i t=true:=by
 unfold Yw at a ⊢;rw[<-Zxr,Lz _ _ (by rw[Li];exact hi),DR];rw[F4.2 ⟨k,by rw[Li];exact c,b,a⟩,Bool.or_true]
def iterD_close(S:List Nat){t:Nat}(hi:i<(Q S))(m:Nat)(h:((Z3 (Ja S) m S).getD i 0).testBit t=true):Yw S i t=true:=by
 rcases Nat.le_total m (Q S) with a | a
 ·obtain⟨d,hd⟩:=Nat.exists_eq_add_of_le a;unfold Yw Xu;rw[hd];clear hd a
  induction d with
  | zero=>exact h
  | succ d c=>exact iterD_up S hi _ c
 have b:=M7 (f:=Ja S) (x:=S) (n:=(Q S)) (Zxr S) m a;rw[b] at h;exact h
def Ha{t:Nat}(hi:i<(Q S))(h:(S.getD i 0).testBit t=true):Yw S i t=true:=iterD_close S hi 0 h
def Fi(S:List Nat):∀(m:Nat) {i k t:Nat},i<(Q S)->k<(Q S)->((Z3 (Ja S) m S).getD i 0).testBit k=true->Yw S k t=true->Yw S i t=true
 | 0,i,k,t,hi,hk,a,h2=>Lh hi hk a h2
 | m+1,i,k,t,hi,hk,a,h2=>by
   rw[Z3,Lz _ _ (by rw[U0];exact hi),DR,Cs] at a;rcases a with a | a
   ·exact Fi S m hi hk a h2
   obtain⟨f,b,c,d⟩:=F4.1 a;rw[U0] at b;exact Lh hi b c (Fi S m b hk d h2)
def Zyy{t:Nat}(hi:i<(Q S))(c:k<(Q S))(a:Yw S i k=true)(b:Yw S k t=true):Yw S i t=true:=Fi S _ hi c a b
def sl_index_ints(A:Option Addr)(n c:Nat)(xs:List Int)(g:FuncId)(t:Array Value)(p:Int->Bool)(w:World)(F:∀args w,(callFunc g args).run prog w = .ok (.enter g args) w)(h:Za .i64 w A n c xs)(u:Zyw g t (aI aJ) w xs p):
 Calls prog 153 #[K A n c,.func (.func g) #[] t] w λe w'=>e = aR (aI aJ (Y8 p xs))/\Below w w w':=by
 obtain rfl:=h.len;have G:=h.cap;have x:=LH u;clear u;go_enter func153,ntmps153;go_wp2_with fail;go_loopw [5,8] (λ_ i wr=>∃k:Nat,k<=(Q xs)/\i = aI aJ (k:Int)/\Below w w wr/\Hid (∀j,j<k->∀y,xs[j]? = some y->p y=false)) (λ_ i _=>(Q xs)-(intOf i).toNat)
 case atStart=>exact⟨0,AV _,rfl,AP _ _,LH λj H=>AA⟩
 obtain⟨k,I,rfl,f,o⟩:=hrel;by_cases C:k<(Q xs)
 ·obtain⟨b,J,s,rfl,B,q,D⟩:=h.get C;rw[<-f.cell (by exact B)] at D;have a:=x s (AM q) wr f;cases d:p s
  ·rw[d] at a;have z:=LH d;have l:=LH a;clear d a;go_wp2_with (go_at_fn g;refine l.mono ?_;rintro e E⟨rfl,r⟩);go_roundw
   case rel=>exact⟨k+1,AA,AF,Zz f r,LH (Vz o q z)⟩
   simp[intOf];omega
  rw[d] at a;have m:=LH (Q4 q d o);have l:=LH a;clear d a;go_wp2_with (go_at_fn g;refine l.mono ?_;rintro e E⟨rfl,r⟩);go_ret;exact⟨by rw[m];rfl,Zz f r⟩
 obtain rfl:k=(Q xs):=AA
 have m:Hid (Y8 p xs=-1):=Jq λj y v=>o j (AN.1 v).1 y v;go_wp2_with fail;go_ret;exact⟨by rw[m];rfl,f⟩
def sl_index_strs(A:Option Addr)(n c:Nat)(xs:List ByteArray)(g:FuncId)(t:Array Value)(p:ByteArray->Bool)(w:World)(F:∀args w,(callFunc g args).run prog w = .ok (.enter g args) w)(h:Js w A n c xs)(u:Zyw g t aS w xs p):
 Calls prog 144 #[K A n c,.func (.func g) #[] t] w λe w'=>e = aR (aI aJ (Y8 p xs))/\Below w w w':=by
 obtain rfl:=h.len;have G:=h.cap;have x:=LH u;clear u;go_enter func144,ntmps144;go_wp2_with fail;go_loopw [5,8] (λ_ i wr=>∃k:Nat,k<=(Q xs)/\i = aI aJ (k:Int)/\Below w w wr/\Hid (∀j,j<k->∀y,xs[j]? = some y->p y=false)) (λ_ i _=>(Q xs)-(intOf i).toNat)
 case atStart=>exact⟨0,AV _,rfl,AP _ _,LH λj H=>AA⟩
 obtain⟨k,I,rfl,f,o⟩:=hrel;by_cases C:k<(Q xs)
 ·obtain⟨b,J,s,rfl,B,q,D⟩:=h.get C;rw[<-f.cell (by exact B)] at D;have a:=x s (AM q) wr f;cases d:p s
  ·rw[d] at a;have z:=LH d;have l:=LH a;clear d a;go_wp2_with (go_at_fn g;refine l.mono ?_;rintro e E⟨rfl,r⟩);go_roundw
   case rel=>exact⟨k+1,AA,AF,Zz f r,LH (Vz o q z)⟩
   simp[intOf];omega
  rw[d] at a;have m:=LH (Q4 q d o);have l:=LH a;clear d a;go_wp2_with (go_at_fn g;refine l.mono ?_;rintro e E⟨rfl,r⟩);go_ret;exact⟨by rw[m];rfl,Zz f r⟩
 obtain rfl:k=(Q xs):=AA
 have m:Hid (Y8 p xs=-1):=Jq λj y v=>o j (AN.1 v).1 y v;go_wp2_with fail;go_ret;exact⟨by rw[m];rfl,f⟩
def U1(A:Option Addr)(n c:Nat)(xs:List Int)(g:FuncId)(a:Array Value)(p:Int->Bool)(w:World)(j:∀args w,(callFunc g args).run prog w = .ok (.enter g args) w)(h:Za .i64 w A n c xs)(d:Zyw g a (aI aJ) w xs p):
 Calls prog 94 #[K A n c,.func (.func g) #[] a] w λe w'=>e = aR (aB (xs.any p))/\Below w w w':=by
 have b:=sl_index_ints A n c xs g a p w j h d;rw[<-Zvt];generalize Y8 p xs=r at *;have f:=LH b;clear b d h;go_enter func94,ntmps94;go_wp2_with (go_at_call 153;refine f.out.mono ?_;rintro e l⟨rfl,k⟩);go_ret;exact⟨rfl,k⟩
def sl_contains_strs(A:Option Addr)(n c:Nat)(xs:List ByteArray)(g:FuncId)(a:Array Value)(p:ByteArray->Bool)(w:World)(j:∀args w,(callFunc g args).run prog w = .ok (.enter g args) w)(h:Js w A n c xs)(d:Zyw g a aS w xs p):
 Calls prog 84 #[K A n c,.func (.func g) #[] a] w λe w'=>e = aR (aB (xs.any p))/\Below w w w':=by
 have b:=sl_index_strs A n c xs g a p w j h d;rw[<-Zvt];generalize Y8 p xs=r at *;have f:=LH b;clear b d h;go_enter func84,ntmps84;go_wp2_with (go_at_call 144;refine f.out.mono ?_;rintro e l⟨rfl,k⟩);go_ret;exact⟨rfl,k⟩
def Ce(ids:Rul->List Bool->List Int)(r:Rul)(N:List Bool):List Bool:=Jz N (ids r N)
def Yy(ids:Rul->List Bool->List Int)(a:List Rul)(N:List Bool):List Bool:=a.foldl (λN r=>Ce ids r N) N
def Zwt(ids:Rul->List Bool->List Int)(a:List Rul)(r:Rul)(N:List Bool):Yy ids (a++[r]) N=Ce ids r (Yy ids a N):=by simp[Yy]
def Dr(P:List Bool)(r:Rul)(N:List Bool):Bool:=N.getD r.L.toNat false&&Xj true P r.rt
def Yp(P:List Bool)(r:Rul)(N:List Bool):List Int:=if Dr P r N then Uq r.rt else []
def Xv(G:Gr):List Bool:=(List.replicate G.O.length false).set G.zt.toNat true
def fwK_small(i k:Nat)(h:We F):We (fwK i k F):=by
 unfold fwK;split
 ·exact h.addAt _ (h.get _)
 exact h
def Zzp(i:Nat)(h:We F):∀m,We (fwR i m F)
 | 0=>h
 | m+1=>by rw[Mm];exact fwK_small _ _ (Zzp i h m)
def Zzu(m:Nat)(h:We F):∀q,We (fwI m q F)
 | 0=>h
 | q+1=>by rw[M9];exact Zzp _ (Zzu m h q) _
def Lo(m q:Nat)(h:We F):∀p,We (Z3 (fwI m q) p F)
 | 0=>h
 | p+1=>by rw[Z3];exact Zzu _ (Lo m q h p) _
def fwK_in(h:UpF S F)(i:Nat)(c:k<(Q S)):UpF S (fwK i k F):=by
 refine⟨by rw[fwK_len];exact h.1,λj t b a=>?_⟩;unfold fwK at a;split at a
 ·rename_i d;rw[Jo] at a;split at a
  ·rename_i f;obtain⟨rfl,_⟩:=f;rw[DR,Cs] at a;rcases a with a | a
   ·exact h.2 _ _ b a
   exact Zyy b c (h.2 _ _ b d) (h.2 _ _ c a)
  exact h.2 _ _ b a
 exact h.2 _ _ b a
def fwR_in(h:UpF S F)(i:Nat):∀m,m<=(Q S)->UpF S (fwR i m F)
 | 0,_=>h
 | m+1,hm=>by rw[Mm];exact fwK_in (fwR_in h i m AA) i AA
def fwI_in(h:UpF S F)(q:Nat):UpF S (fwI (Q S) q F):=by
 induction q with
 | zero=>exact h
 | succ q a=>rw[M9];exact fwR_in a q _ (AJ _)
def Zul(S:List Nat)(q:Nat):∀p,UpF S (Z3 (fwI (Q S) q) p S)
 | 0=>⟨rfl,λi t hi h=>Ha hi h⟩
 | p+1=>by rw[Z3];exact fwI_in (Zul S q p) q
def Zsf(S:List Nat):Z3 (fwI (Q S) (Q S)) (Q S) S=Xu S:=by
 refine sets_ext (by rw[K5,Li]) λi hi t=>?_;rw[K5] at hi;rw[Cc];exact⟨λh=>(Zul S _ _).2 i t hi h,λh=>Zzl S _ hi h⟩
def Lv(h:We S):We (Xu S):=by rw[<-Zsf];exact Lo _ _ h _
def Zxv(a:We S):∀(l:List Nat) {R:Nat},R<4294967296->Qd S R l<4294967296
 | [],R,h=>h
 | k::l,R,h=>Zxv a l (Ct h (a.get k))
def J5.zt(b:We S)(a:InS S)(hi:i<(Q S)):J5 S i (S.getD i 0) :=
 ⟨b.get i,λ_ h=>h,λt h=>⟨a i t h,Ha hi h⟩⟩
def J5.next(l:We S)(d:InS S)(hi:i<(Q S)){R:Nat}(h:J5 S i R):J5 S i (Qd S R (Wy R)):=by
 refine⟨Zxv l _ h.1,λt a=>by rw[Ma,h.2.1 t a];rfl,λt a=>?_⟩;rw[Ma,Cs] at a;rcases a with a | a
 ·exact h.2.2 t a
 rw[Eo] at a;obtain⟨k,g,c⟩:=a;have j:=((Zwo R k).1 g).2;obtain⟨b,f⟩:=h.2.2 k j;exact⟨d k t c,Zyy hi b f (Ha b c)⟩
def order_goes{use b:Nat}(l:∀i t,use.testBit i=true->(S.getD i 0).testBit t=true->use.testBit t=true)(k:∀i,use.testBit i=true->i<(Q S))(r:∀i,use.testBit i=true->Yw S i i=false)(o:Qx (U2 S use b) (Q S)=aN):Ck use b=0:=by
 have key:∀(m i:Nat),(Ck use b).testBit i=true->(Xu S).getD i 0=m->False:=by
  intro m
  induction m using Nat.strongRecOn with
  | ind m v =>
    intro i hi y;rw[Nu,AS] at hi;have d:=k i hi.1;have f:=findB_none' o i d;unfold U2 at f;rw[hi.1,hi.2,Bool.true_and,Bool.true_and] at f;have p:Ck (S.getD i 0) b≠0:=by simpa using f
    obtain⟨t,a⟩:=Zvf p;rw[Nu,AS] at a;have g:=l i t hi.1 a.1;have u:=k t g;have j:=Ha d a.1;have c:=r t g;have x:(Xu S).getD t 0<=(Xu S).getD i 0:=Zyd λq s=>Lh d u a.1 s;have z:(Xu S).getD t 0≠(Xu S).getD i 0:=λn=>by
     unfold Yw at j c;rw[n,j] at c;cases c
    exact v _ AA t (by rw[Nu,g,a.2];rfl) rfl
 apply DU;intro h;obtain⟨i,hi⟩:=Zvf h;exact key _ i hi rfl
def Gi.nil:Gi [] []:=⟨rfl,λj t h=>by simp at h⟩
def Rfs.get(h:Rfs w A n c ss)(m:j<n):
 ∃b a s x y,A=some ⟨b,a,aN⟩/\b<w.heap.size/\Hid (ss[j]? = some s)/\w.cell? ⟨b,a+j*2,aN⟩=some (aS s)/\w.cell? ⟨b,a+j*2+1,aN⟩=some (.complex .f64 x y):=by
 obtain⟨b,a,e,l,k⟩:=h.2.2.2 AA;have o:=h.1;have d:ss[j]? = some (ss[j]' AA):=AL AA;obtain⟨f,x,y,g⟩:=k j _ d;exact⟨b,a,_,x,y,e,l,LH d,f,g⟩
def Prds(w:World)(A:Option Addr)(n c:Nat)(ps:List Prd):Prop :=
 ps.length=n/\n<=c/\c<=9223372036854775807/\(0<n->∃b a,A=some ⟨b,a,none⟩/\b<w.heap.size/\∀(j:Nat) (p:Prd),ps[j]? = some p->∃Ar cr x y d f,
  w.cell? ⟨b,a+j*5,none⟩=some (aS p.L)/\w.cell? ⟨b,a+j*5+1,none⟩=some (.complex .f64 x y)/\w.cell? ⟨b,a+j*5+2,none⟩=some (K Ar p.rt.length cr) /\
  w.cell? ⟨b,a+j*5+3,none⟩=some (aS p.P)/\w.cell? ⟨b,a+j*5+4,none⟩=some (.complex .f64 d f)/\Rfs w Ar p.rt.length cr p.rt)
def Prds.get(h:Prds w A n c ps)(u:j<n):
 ∃b a p Ar cr x y d f,A=some ⟨b,a,aN⟩/\b<w.heap.size/\Hid (ps[j]? = some p)/\w.cell? ⟨b,a+j*5,aN⟩=some (aS p.L)/\w.cell? ⟨b,a+j*5+1,aN⟩=some (.complex .f64 x y)/\w.cell? ⟨b,a+j*5+2,aN⟩=some (K Ar (Q p.rt) cr) /\
 w.cell? ⟨b,a+j*5+3,aN⟩=some (aS p.P)/\w.cell? ⟨b,a+j*5+4,aN⟩=some (.complex .f64 d f)/\Rfs w Ar (Q p.rt) cr p.rt:=by
 obtain⟨b,a,e,t,s⟩:=h.2.2.2 AA;have v:=h.1;have g:ps[j]? = some (ps[j]' AA):=AL AA;obtain⟨Ar,cr,x,y,d,f,k,l,m,o,q,r⟩:=s j _ g;exact⟨b,a,_,Ar,cr,x,y,d,f,e,t,LH g,k,l,m,o,q,r⟩
def Zyx(X:Nat->Prop):∀(c:List Rul),(∀r∈c,X r.L.toNat->Xj true P r.rt=true->∀s∈r.rt,s<0->X (Zp s))->
 ∀{N:List Bool},(∀i,N.getD i false=true->X i)->∀i,(Yy (Yp P) c N).getD i false=true->X i
 | [],_,N,hN,i,h=>hN i h
 | r::c,hX,N,hN,i,h=>by
   refine Zyx X c (λq f=>hX q (BN _ f)) (N:=Ce (Yp P) r N) (λj d=>?_) i h;refine Zy9 X _ (λt b=>?_) hN j d;unfold Yp at b;split at b
   ·rename_i a;unfold Dr at a;rw[AS] at a;obtain⟨s,g,h0,rfl⟩:=Zur.1 b;exact hX r (By ..) (hN _ a.1) a.2 s g h0
   cases b
def Nd{G:Gr}:G.rt=true↔G.termsOK=true/\G.nonsOK=true/\(1<=(Q G.U)/\(Q G.U)<=40)/\(0<=G.zt/\G.zt<((Q G.O):Int))/\G.leftsGo G.U (-1)=some (((Q G.O):Int)-1):=by
 unfold Gr.rt;simp only[AS,decide_eq_true_eq,and_assoc]
def Lim.take(h:Lim xs)(k:Nat):Lim (xs.take k):=λy a=>h y (List.mem_of_mem_take a)
def Zws(xs:List Nat)(k:Nat)(a:k<(Q xs))(h0:xs.getD k 0=0):Xx (xs.take (k+1))=Xx (xs.take k):=by
 have:xs.take (k+1)=xs.take k++[0]:=by
  rw[List.take_succ_eq_append_getElem a];simp[AL a] at h0;rw[h0]
 rw[this,L4]
def Zxp(xs:List Nat)(k:Nat)(a:k<(Q xs))(h0:xs.getD k 0≠0):Xx (xs.take (k+1))=xs.take (k+1):=by
 have:xs.take (k+1)=xs.take k++[xs[k]]:=List.take_succ_eq_append_getElem a;rw[this,Zxh];simpa [AL a] using h0
def Zx3(n:Nat):∀xs:List Nat,(Q xs)=n->val (Xx xs)=val xs/\Mo (Xx xs)/\(∃k,Xx xs=xs.take k):=by
 induction n with
 | zero=>intro xs h;have:xs=[]:=BH h;subst this;exact⟨rfl,by intro ys x h;simp[Xx] at h,0,rfl⟩
 | succ n f =>
   intro xs h;rcases List.eq_nil_or_concat xs with rfl | ⟨ys,x,rfl⟩
   ·simp at h
   rw[List.concat_eq_append] at *;simp at h;by_cases h0:x=0
   ·subst h0;rw[L4];obtain⟨h1,b,k,a⟩:=f ys h;refine⟨by rw[h1,Wf];simp,b,?_⟩;by_cases c:k<=(Q ys)
    ·exact⟨k,by rw[a,Ep c]⟩
    exact⟨(Q ys),by rw[a,Ep (AJ _),AQ AA,List.take_length]⟩
   rw[Zxh _ _ h0];refine⟨rfl,λg z d=>?_,(ys++[x]).length,by rw[List.take_length]⟩;have:=List.append_inj' d rfl;simp at this;omega
def neatL_lim(xs:List Nat)(h:Lim xs):Lim (Xx xs):=by
 obtain⟨_,_,k,a⟩:=Zx3 _ xs rfl;rw[a];exact h.take k
def Y5(xs:List Nat)(i:Nat):val (xs.take (i+1))=val (xs.take i)+4294967296 ^ i*xs.getD i 0:=by
 by_cases h:i<(Q xs)
 ·rw[List.take_succ_eq_append_getElem h,Wf,BU,Nat.min_eq_left AA];simp[AL h]
 rw[AQ AA,AQ AA];simp[BE (show (Q xs)<=i by omega)]
def addP_val(xs ys:List Nat)(i:Nat):
 val (V4 xs ys i).1+4294967296 ^ i*(V4 xs ys i).2=val (xs.take i)+val (ys.take i):=by
 induction i with
 | zero=>simp[V4,val]
 | succ i a =>
   rw[Y5,Y5];simp only[V4];rw[Wf,Mq,Nat.pow_succ];generalize (V4 xs ys i).1=b at *;generalize (V4 xs ys i).2=c at *;generalize xs.getD i 0=x at *;generalize ys.getD i 0=y at *;generalize (4294967296:Nat) ^ i=B at *;have e:4294967296*((x+y+c) / 4294967296)+(x+y+c) % 4294967296=x+y+c:=Nat.div_add_mod _ _;have:B*((x+y+c) % 4294967296)+B*4294967296*((x+y+c) / 4294967296)=B*x+B*y+B*c:=by
    rw[DT,<-DK,Em,e,DK,DK]
   omega
def Zx4(xs ys:List Nat)(i:Nat)(a:(Q xs)<=i)(b:(Q ys)<=i):
 val ((V4 xs ys i).1++[(V4 xs ys i).2])=val xs+val ys:=by
 rw[Wf,Mq,addP_val,AQ a,AQ b]
def addP_full(xs ys:List Nat)(d:Lim xs)(f:Lim ys)(i:Nat)(h1:(Q xs)<=i)(a:(Q ys)<=i):
 val (V4 xs ys (i+1)).1=val xs+val ys:=by
 have h:=Zx4 xs ys i h1 a;have g:=Lg xs ys d f i;rw[Wf,Mq] at h;simp only[V4];rw[Wf,Mq];have b:xs.getD i 0=0:=by simp[BE h1]
 have c:ys.getD i 0=0:=by simp[BE a]
 rw[b,c,Ec AA];simpa using h
def B6(tab:Nat->Nat->Nat)(a:List Nat)(m p:Nat):Nat->Nat->Nat:=λk i=>if k<m then tab k i else if k=m/\(a.take p).contains i=true then tab k i else 0
def cut_zero(tab:Nat->Nat->Nat)(a:List Nat):B6 tab a 0 0=λ_ _=>0:=by
 funext k i;unfold B6;rw[if_neg AA,if_neg];rintro⟨_,h⟩;simp at h
def termP_keep{G a:Gr}{s:ByteArray}{i:Int}(h:Zzj G s=some (i,a))(h1:(Q G.T)<=24):a.O=G.O/\a.U=G.U/\a.zt=G.zt/\-17<=i/\i<=24:=by
 unfold Zzj at h;by_cases h0:0<=G.term s
 ·rw[if_pos h0] at h;simp only[BT,DM] at h;obtain⟨rfl,rfl⟩:=h;have b:=(U9 (λt=>decide (t.name=s)) G.T).2;have c:G.term s=Y8 (λt=>decide (t.name=s)) G.T:=rfl;exact⟨rfl,rfl,rfl,AA,AA⟩
 rw[if_neg h0] at h;split at h
 ·cases h
 simp only[BT,DM] at h;obtain⟨rfl,rfl⟩:=h;exact⟨rfl,rfl,rfl,AA,AA⟩
def GrFrom(w w':World)(h:GH)(G:Gr):Prop:=∀a:World,w'.heap.size<=a.heap.size->(∀b,b<w'.heap.size->w.heap.size<=b->a.heap[b]? = w'.heap[b]?)->Yf a h G
def RMulRel(w:World)(xs ys:List Nat)(i:Value)(wr:World):Prop :=
 ∃(k:Nat) (a:List Nat),k<=xs.length/\i = aI aJ (k:Int)/\a.length=64/\Lim a/\val a=val (xs.take k)*val ys /\
  Own wr w.heap.size 41 .u32 a/\Below w.heap.size w wr
def MulRel(w:World)(xs ys:List Nat)(i:Value)(wr:World):Prop :=
 ∃(k:Nat) (a:List Nat),k<=xs.length/\i = aI aJ (k:Int)/\a.length=xs.length+ys.length/\Lim a/\val a=val (xs.take k)*val ys /\
  (∀j,k+ys.length<=j->a.getD j 0=0)/\Own wr w.heap.size 41 .u32 a/\Below w.heap.size w wr
def lowN_take(h:l[q]? = some s):Uy N (l.take (q+1))=Uy N (l.take q)+(if Xg N s then 0 else 1):=by
 rw[Du,h];unfold Uy;rw[List.countP_append];cases a:Xg N s <;> simp[List.countP_cons,List.countP_nil,a]
def Qc{α:Type}{l m:List α}{x:α}(h:l.take k=m.take k)(a:l[k]? = some x)(b:m[k]? = some x):l.take (k+1)=m.take (k+1):=by
 rw[Du,Du,h,a,b]
def subP_val(xs l:List Nat)(a:Lim xs)(b:Lim l)(i:Nat):
 val (Xn xs l i).1+val (l.take i)=val (xs.take i)+4294967296 ^ i*(Xn xs l i).2:=by
 induction i with
 | zero=>simp[Xn,val]
 | succ i h =>
   have g:=Qi xs l i;have h1:=a.getD i;have f:=b.getD i;rw[Y5,Y5];simp only[Xn];rw[Wf,Mj,Nat.pow_succ];generalize (Xn xs l i).1=j at *;generalize (Xn xs l i).2=c at *;generalize xs.getD i 0=x at *;generalize l.getD i 0=y at *;generalize (4294967296:Nat) ^ i=B at *;have e:(4294967296+x-y-c) % 4294967296+y+c=x+4294967296*(1-(4294967296+x-y-c) / 4294967296):=AA
   generalize (4294967296+x-y-c) % 4294967296=d at *;generalize 1-(4294967296+x-y-c) / 4294967296=k at *;have:B*d+B*y+B*c=B*x+B*4294967296*k:=by
    rw[<-DK,<-DK,e,DK,DT]
   omega
def Zt3(xs d:List Nat)(b:Lim xs)(c:Lim d)(i:Nat)(h1:(Q xs)<=i)(a:(Q d)<=i):
 val (Xn xs d i).1+val d=val xs+4294967296 ^ i*(Xn xs d i).2:=by
 have:=subP_val xs d b c i;rwa [AQ h1,AQ a] at this
def Zzx(xs q:List Nat)(m:Lim xs)(n:Lim q)(k:Nat):
 Vm (val (xs.take (k+1))) (val (q.take (k+1))) =
  if xs.getD k 0<q.getD k 0 then -1 else if q.getD k 0<xs.getD k 0 then 1 else Vm (val (xs.take k)) (val (q.take k)):=by
 have h1:=Ui _ (m.take k);have c:=Ui _ (n.take k);have d:(4294967296:Nat) ^ (xs.take k).length<=4294967296 ^ k:=CV AC (List.length_take_le _ _);have f:(4294967296:Nat) ^ (q.take k).length<=4294967296 ^ k:=CV AC (List.length_take_le _ _);rw[Y5,Y5];have o:=AK h1 d;have p:=AK c f;clear h1 c d f;generalize val (xs.take k)=a at *;generalize val (q.take k)=b at *;generalize (4294967296:Nat) ^ k=B at *;generalize xs.getD k 0=x at *;generalize q.getD k 0=y at *;by_cases l:x<y
 ·rw[if_pos l];have:B*(x+1)<=B*y:=Eg _ AA;rw[DK] at this;unfold Vm;rw[if_pos AA]
 rw[if_neg l];by_cases j:y<x
 ·rw[if_pos j];have:B*(y+1)<=B*x:=Eg _ AA;rw[DK] at this;unfold Vm;rw[if_neg AA,if_pos AA]
 rw[if_neg j];obtain rfl:x=y:=AA
 unfold Vm;by_cases g:a<b
 ·rw[if_pos g,if_pos AA]
 rw[if_neg g,if_neg AA];by_cases h:b<a
 ·rw[if_pos h,if_pos AA]
 rw[if_neg h,if_neg AA]
def twP_val(xs:List Nat)(b k:Nat):val (twP xs b k).1+4294967296 ^ k*(twP xs b k).2=2*val (xs.take k)+b:=by
 induction k with
 | zero=>simp[twP,val]
 | succ k d =>
   rw[Y5];simp only[twP];rw[Wf,Zye,Nat.pow_succ];generalize (twP xs b k).1=f at *;generalize (twP xs b k).2=c at *;generalize xs.getD k 0=x at *;generalize (4294967296:Nat) ^ k=B at *;have e:4294967296*((2*x+c) / 4294967296)+(2*x+c) % 4294967296=2*x+c:=Nat.div_add_mod _ _;have:B*((2*x+c) % 4294967296)+B*4294967296*((2*x+c) / 4294967296)=B*(2*x)+B*c:=by
    rw[DT,<-DK,Em,e,DK]
   have a:B*(2*x)=2*(B*x):=by rw[<-DT,Ef B 2,DT]
   rw[DK];omega
def twP_all(xs:List Nat)(b:Nat):val ((twP xs b (Q xs)).1++[(twP xs b (Q xs)).2])=2*val xs+b:=by
 rw[Wf,Zye,twP_val,List.take_length]
def dbl_done(a:List Nat)(b:Lim a)(bt:Nat)(f:bt<=1)(j:(Q a)<=32)(q:Nat)(k:q=33):val (twP a bt q).1=2*val a+bt:=by
 subst k;have h:=twP_val a bt 33;rw[AQ AA] at h;have h1:=Ui a b;have l:(4294967296:Nat) ^ (Q a)<=4294967296 ^ 32:=CV AC j;have d:(4294967296:Nat) ^ 33=4294967296 ^ 32*4294967296:=by rw[Nat.pow_succ]
 have m:=Ae a bt f b 33;rw[d] at h;generalize (4294967296:Nat) ^ 32=B at *;generalize (twP a bt 33).2=c at *;have g:c=0\/c=1:=AA
 rcases g with rfl | rfl <;> omega
def Zr2(k:Nat)(a:List Nat)(i:Nat)(hi:i<=(Q a))(c:32*i<=k):Zrx k a i=a.take i:=by
 induction i with
 | zero=>rfl
 | succ i b =>
   rw[Zrx,b AA AA,if_neg AA,Du,AL AA];simp[AL (show i<(Q a) by omega)]
def maskP_val(k:Nat)(b:List Nat)(f:Lim b)(h0:0<(Q b))(h1:32*((Q b)-1)<k)(p:k<=32*(Q b)):
 val (Zrx k b (Q b))=val b % 2 ^ k:=by
 obtain⟨l,d⟩:∃l,(Q b)=l+1:=⟨(Q b)-1,AA⟩;have g:=Zr2 k b l AA AA;have h:val b=val (b.take (l+1)):=by rw[<-d,List.take_length]
 have c:=Ui _ (f.take l);rw[BU,Nat.min_eq_left AA] at c;have o:=f.getD l;have n:(4294967296:Nat) ^ l=2 ^ (32*l):=by rw[Nat.pow_mul]
 have m:(2:Nat) ^ k=4294967296 ^ l*2 ^ (k-32*l):=by rw[n,<-Nat.pow_add];congr 1;omega
 rw[h,Y5,d,Zrx,g,Wf,BU,Nat.min_eq_left AA,m];generalize b.getD l 0=y at *;generalize val (b.take l)=a at *;have j:(if k<32*l+32 then y % 2 ^ (k-32*l) else y)=y % 2 ^ (k-32*l):=by
  split
  ·rfl
  rw[show k-32*l=32 from by omega];exact (Ec o).symm
 rw[j];generalize (4294967296:Nat) ^ l=B at *;generalize (2:Nat) ^ (k-32*l)=M at *;rw[Nat.mod_mul,Nat.add_mul_mod_self_left,Ec c,Nat.add_mul_div_left _ _ AA,Nat.div_eq_of_lt c,BF]
def Zrr(v k n:Nat):Nat->Nat->List Nat->List Nat × Nat × Nat
 | 0,_,_=>([],0,12)
 | f+1,at_,ws =>
   if n<=ws.length then
    if val (ws.take n) % 2 ^ k<v then (Zq3 (val (ws.take n) % 2 ^ k),at_+n,0) else Zrr v k n f (at_+n) (ws.drop n)
   else ([],0,12)
def mask_last(k:Nat)(a:List Nat)(l y:Nat)(d:(Q a)=l+1)(g:32*l<k)(j:k<32*(l+1))(f:a[l]? = some y):
 Zrx k a (Q a)=a.set l (y % 2 ^ (k-32*l)):=by
 rw[d,Zrx,Zr2 k a l AA AA,if_pos AA];have c:a.getD l 0=y:=by rw[AO,f];rfl
 rw[c];apply List.ext_getElem?;intro i;have b:(a.take l).length=l:=by rw[BU];omega
 rcases Nat.lt_trichotomy i l with h | h | h
 ·rw[DF AA,Ej,if_pos h,List.getElem?_set,if_neg AA]
 ·subst h;rw[BX AA,b,List.getElem?_set,if_pos rfl,if_pos AA];simp
 rw[BX AA,b,List.getElem?_set,if_neg AA];rw[BE AG,BE AA]
section
open Go.RowKit Go.Shelf
attribute [local go_sem] Oper.semAt_some
open Go.RowKit Go.Shelf Go.Sort
def rf_has(h:GH)(G:Gr)(s:Int)(w:World)(a:Yf w h G)(k:U3 s)(g:h.n1<=1000)(j:h.n2<=1000):
 Calls prog 60 #[GV h G.zt,aI aJ s] w λe w'=>e = aR (aB (G.has s))/\Below w w w':=by
 obtain⟨a1,n1,c1,a2,n2,c2,a3,n3,c3⟩:=h;have b:(Q G.T)=n1:=a.T.len;have c:(Q G.O)=n2:=a.O.len;have f:G.has s=if 0<=s then decide (s<(n1:Int)) else decide (-1-s<(n2:Int)):=by unfold Gr.has;rw[b,c]
 rw[f];obtain⟨l,m⟩:=k;simp only[] at g j;clear f b c a;by_cases d:0<=s
 ·rw[if_pos d];go_enter func60,ntmps60;go_wp2_with fail;go_ret;exact⟨AE,Zy _ _⟩
 rw[if_neg d];go_enter func60,ntmps60;go_wp2_with fail;go_ret;exact⟨AE,Zy _ _⟩
def C6(h:GH)(G:Gr)(s:ByteArray)(w:World)(l:Yf w h G)(o:h.n1<=1000):
 Calls prog 114 #[GV h G.zt,aS s] w λe w'=>e = aR (aI aJ (G.term s))/\Below w w w':=by
 obtain⟨a1,n1,c1,a2,n2,c2,a3,n3,c3⟩:=h;have f:N8 w a1 n1 c1 G.T:=l.T;have u:=f.cap;simp only[] at o;clear l;unfold Gr.term;go_enter func114,ntmps114;go_wp2_with fail;go_loop [5] (λi=>∃k:Nat,k<=n1/\i = aI aJ (k:Int)/\Hid (∀j,j<k->∀y,G.T[j]? = some y->decide (y.name=s)=false)) (λi=>n1-(intOf i).toNat)
 case atStart=>exact⟨0,AV _,rfl,LH λj v=>AA⟩
 obtain⟨k,x,rfl,d⟩:=hrel;by_cases p:k<n1
 ·obtain⟨b,A,t,rfl,r,g,B,C,D⟩:=f.get p;by_cases a:t.name=s
  ·have c:Hid (Y8 (λt=>decide (t.name=s)) G.T=(k:Int)):=Q4 g (by simp[a]) d;have q:(t.name.toList==s.toList)=true:=by rw[Ql];simp[a]
   clear a;go_wp2_with fail;go_ret;exact⟨by rw[c];rfl,Zy _ _⟩
  have q:(t.name.toList==s.toList)=false:=by rw[Ql];simp[a]
  have n:=LH a;clear a;go_wp2_with fail;go_round
  case rel=>exact⟨k+1,AA,AF,LH (Vz d g (by simp[n.out]))⟩
  simp[intOf];omega
 obtain rfl:k=n1:=AA
 have z:=f.len;have c:Hid (Y8 (λt=>decide (t.name=s)) G.T=-1):=LH (Jq λj y m=>d j (by have:=(AN.1 m).1;omega) y m);go_wp2_with fail;go_ret;exact⟨by rw[c];rfl,Zy _ _⟩
def Zu5(h:GH)(G:Gr)(s:ByteArray)(w:World)(l:Yf w h G)(o:h.n2<=1000):
 Calls prog 74 #[GV h G.zt,aS s] w λe w'=>e = aR (aI aJ (G.non s))/\Below w w w':=by
 obtain⟨a1,n1,c1,a2,n2,c2,a3,n3,c3⟩:=h;have f:Js w a2 n2 c2 G.O:=l.O;have u:=f.cap;simp only[] at o;clear l;unfold Gr.non;go_enter func74,ntmps74;go_wp2_with fail;go_loop [5] (λi=>∃k:Nat,k<=n2/\i = aI aJ (k:Int)/\Hid (∀j,j<k->∀y,G.O[j]? = some y->decide (y=s)=false)) (λi=>n2-(intOf i).toNat)
 case atStart=>exact⟨0,AV _,rfl,LH λj v=>AA⟩
 obtain⟨k,x,rfl,d⟩:=hrel;by_cases p:k<n2
 ·obtain⟨b,A,t,rfl,r,g,B⟩:=f.get p;by_cases a:t=s
  ·have c:Hid (Y8 (λt=>decide (t=s)) G.O=(k:Int)):=Q4 g (by simp[a]) d;have q:(t.toList==s.toList)=true:=by rw[Ql];simp[a]
   clear a;go_wp2_with fail;go_ret;exact⟨by rw[c];rfl,Zy _ _⟩
  have q:(t.toList==s.toList)=false:=by rw[Ql];simp[a]
  have n:=LH a;clear a;go_wp2_with fail;go_round
  case rel=>exact⟨k+1,AA,AF,LH (Vz d g (by simp[n.out]))⟩
  simp[intOf];omega
 obtain rfl:k=n2:=AA
 have z:=f.len;have c:Hid (Y8 (λt=>decide (t=s)) G.O=-1):=LH (Jq λj y m=>d j (by have:=(AN.1 m).1;omega) y m);go_wp2_with fail;go_ret;exact⟨by rw[c];rfl,Zy _ _⟩
def Cu(h:GH)(G:Gr)(w:World)(c:Yf w h G):
 Calls prog 8 #[GV h G.zt] w λe w'=>e = aR (aB G.great)/\Below w w w':=by
 obtain⟨a1,n1,c1,a2,n2,c2,a3,n3,c3⟩:=h;have E:Dv w a3 n3 c3 G.U:=c.U;have p:(Q G.T)=n1:=c.T.len;have q:(Q G.O)=n2:=c.O.len;have z:(Q G.U)=n3:=c.U.len;have L:n1<=c1/\c1<=9223372036854775807:=c.T.cap;have M:n2<=c2/\c2<=9223372036854775807:=c.O.cap;have N:n3<=c3/\c3<=9223372036854775807:=c.U.cap;have d:Hid (G.great=(decide (40<n1) || decide (40<n2) || decide (60<n3) || G.U.any λr=>decide (20<(Q r.rt)))):=LH (by unfold Gr.great;rw[p,q,z]);clear c p q;by_cases g:n1<=40
 case neg =>
  have a:G.great=true:=by rw[d];simp;omega
  have t:decide ((40:Int)<(n1:Int))=true:=AG
  rw[a];clear g a;go_enter func8,ntmps8;go_wp2_with fail;go_ret;exact⟨rfl,Zy _ _⟩
 have t:decide ((40:Int)<(n1:Int))=false:=AG
 by_cases s:n2<=40
 case neg =>
  have a:G.great=true:=by rw[d];simp;omega
  have u:decide ((40:Int)<(n2:Int))=true:=AG
  rw[a];clear g s a;go_enter func8,ntmps8;go_wp2_with fail;go_ret;exact⟨rfl,Zy _ _⟩
 have u:decide ((40:Int)<(n2:Int))=false:=AG
 by_cases A:n3<=60
 case neg =>
  have a:G.great=true:=by rw[d];simp;omega
  have v:decide ((60:Int)<(n3:Int))=true:=AG
  rw[a];clear g s A a;go_enter func8,ntmps8;go_wp2_with fail;go_ret;exact⟨rfl,Zy _ _⟩
 have v:decide ((60:Int)<(n3:Int))=false:=AG
 have m:Hid (G.great=G.U.any λr=>decide (20<(Q r.rt))):=LH (by rw[d];simp;omega);clear d;go_enter func8,ntmps8;go_wp2_with fail;go_loop [3] (λi=>∃k:Nat,k<=n3/\i = aI aJ (k:Int)/\Hid (∀j,j<k->∀y,G.U[j]? = some y->decide (20<(Q y.rt))=false)) (λi=>n3-(intOf i).toNat)
 case atStart=>exact⟨0,AV _,rfl,LH λj l=>AA⟩
 obtain⟨k,J,rfl,n⟩:=hrel;by_cases B:k<n3
 ·obtain⟨b,O,r,Ar,cr,rfl,H,o,P,R,S,hi⟩:=E.get B;have I:=hi.cap;by_cases D:20<(Q r.rt)
  ·have f:Hid (G.great=true):=LH (by rw[m,Eo];exact⟨r,AM o,by simp[D]⟩);have C:decide ((20:Int)<((Q r.rt):Int))=true:=AG
   go_wp2_with fail;go_ret;exact⟨by rw[f];rfl,Zy _ _⟩
  have C:decide ((20:Int)<((Q r.rt):Int))=false:=AG
  go_wp2_with fail;go_round
  case rel=>exact⟨k+1,AA,AF,LH (Vz n o AG)⟩
  simp[intOf];omega
 obtain rfl:k=n3:=AA
 have f:Hid (G.great=false):=LH (by
  rw[m,List.any_eq_false];intro x F;obtain⟨j,l⟩:=BQ F;have:=n j (by have:=(AN.1 l).1;omega) x l;simpa using this)
 go_wp2_with fail;go_ret;exact⟨by rw[f];rfl,Zy _ _⟩
def rf_level(h:GH)(G:Gr)(n:Int)(w:World)(A:Yf w h G)(H:h.n1<=1000):
 Calls prog 115 #[GV h G.zt,aI aJ n] w λe w'=>e = aR (aB (J9 G.T n))/\Below w.heap.size w w':=by
 obtain⟨a1,n1,c1,a2,n2,c2,a3,n3,c3⟩:=h;have s:N8 w a1 n1 c1 G.T:=A.T;have S:=s.cap;have U:(Q G.T)=n1:=s.len;simp only[] at H;clear A;go_enter func115,ntmps115;go_wp2_with fail;go_loopw [5,6,7] (λP i t wr=>∃(k:Nat) (a:Int),k<=n1/\i = aI aJ (k:Int)/\P = aI aJ a/\Below w.heap.size w wr/\wr.cell? ⟨w.heap.size,0,aN⟩=some (K a1 n1 c1)/\w.heap.size<wr.heap.size/\Hid (J9 G.T n=Qs n (G.T.drop k) a)) (λ_ i _ _=>n1-(intOf i).toNat)
 case atStart=>exact⟨0,0,AV _,rfl,rfl,Zy _ _,AE,AE,LH rfl⟩
 obtain⟨k,a,T,rfl,rfl,r,R,B,f⟩:=hrel;by_cases J:k<n1
 ·obtain⟨b,L,t,rfl,I,E,M,N,O⟩:=s.get J;rw[<-r.cell (by exact I)] at M N O;have hd:=Q8 E.out;have z:∀o,Below w.heap.size w (wr.alloc o):=λo=>r.alloc (DS B) o;have C:∀o,(wr.alloc o).cell? ⟨w.heap.size,0,aN⟩=some (K (some ⟨b,L,aN⟩) n1 c1):=λo=>by rw[(Zy wr o).cell (p:=⟨w.heap.size,0,aN⟩) B];exact R
  have l:=LH (⟨z,C⟩:_/\_);clear z C;by_cases g:t.V=n
  ·by_cases j:a≠0/\a≠t.S
   ·have m:Hid (J9 G.T n=false):=LH (by rw[f.out,hd,Qs,if_pos g,if_pos j]);have v:(t.V != n)=false:=by rw[BR];exact g
    have x:(a != 0)=true:=by rw[BK];exact j.1
    have F:(a != t.S)=true:=by rw[BK];exact j.2
    clear g j hd f;go_wp2_with fail;go_ret;exact⟨by rw[m.out];rfl,l.out.1 _⟩
   have q:Hid (J9 G.T n=Qs n (G.T.drop (k+1)) t.S):=LH (by rw[f.out,hd,Qs,if_pos g,if_neg j]);have v:(t.V != n)=false:=by rw[BR];exact g
   have u:(a != 0)=false\/((a != 0)=true/\(a != t.S)=false):=by
    rw[BR,BR,BK];by_cases c:a=0
    ·exact .inl c
    exact .inr ⟨c,by by_cases y:a=t.S;exact y;exact absurd ⟨c,y⟩ j⟩
   clear g j hd f;rcases u with x | ⟨x,F⟩;all_goals
    go_wp2_with fail;go_roundw
    case rel=>exact⟨k+1,t.S,AA,AF,rfl,l.out.1 _,l.out.2 _,AG,q⟩
    simp[intOf];omega
  have q:Hid (J9 G.T n=Qs n (G.T.drop (k+1)) a):=LH (by rw[f.out,hd,Qs,if_neg g]);have v:(t.V != n)=true:=by rw[BK];exact g
  clear g hd f;go_wp2_with fail;go_roundw
  case rel=>exact⟨k+1,a,AA,AF,rfl,l.out.1 _,l.out.2 _,AG,q⟩
  simp[intOf];omega
 obtain rfl:k=n1:=AA
 have m:Hid (J9 G.T n=decide (a≠0)):=LH (by rw[f.out,List.drop_of_length_le AA];rfl);have u:((a != 0)=true/\a≠0)\/((a != 0)=false/\a=0):=by
  rw[BR,BK];by_cases c:a=0
  ·exact .inr ⟨c,c⟩
  exact .inl ⟨c,c⟩
 rcases u with ⟨d,c⟩ | ⟨d,c⟩;all_goals
  have D:=LH c;clear c;go_wp2_with fail;go_ret;exact⟨by rw[m.out];simp[D.out],r⟩
def Y1(w:World)(g:Nat)(h:GH)(a:Int):Prop :=
 g<w.heap.size/\w.cell? ⟨g,0,none⟩=some (K h.a1 h.n1 h.c1)/\w.cell? ⟨g,1,none⟩=some (K h.a2 h.n2 h.c2)/\w.cell? ⟨g,2,none⟩=some (K h.a3 h.n3 h.c3)/\w.cell? ⟨g,3,none⟩=some (aI aJ a)
def Y1.new(w:World)(t:TypeId)(h:GH)(a:Int):Y1 (w.alloc (aC #[K h.a1 h.n1 h.c1,K h.a2 h.n2 h.c2,K h.a3 h.n3 h.c3,aI aJ a] t)) w h a:=by
 refine⟨AE,?_,?_,?_,?_⟩ <;> (rw[Wg];rfl)
end
def Fl.new(w:World)(t:TypeId)(left:Int)(Ar:Option Addr)(a cr:Nat)(b:Int):Fl (w.alloc (aC #[aI aJ left,K Ar a cr,aI aJ b] t)) w left Ar a cr b:=by
 refine⟨AE,?_,?_,?_⟩ <;> (rw[Wg];rfl)
def Al(W:World)(g:Nat)(h:GH)(G:Gr):Prop:=Y1 W g h 0/\Yf W h G
section
open Go.RowKit Go.Maps
def clone_strs(A:Option Addr)(n c:Nat)(d:List ByteArray)(w:World)(h:Js w A n c d)(B:n<=1000):
 Calls prog 80 #[K A n c] w λe w'=>∃f g,e = aR (K f n g)/\w'.ownsRow w 9 1 (K f n g) n (d.map aS)/\Below w w w':=by
 obtain rfl:=h.len;cases A with
 | none =>
   have o:d=[]:=by
    cases d with
    | nil=>rfl
    | cons z d =>
      obtain⟨b,p,e,_⟩:=h.2.2.2 AE;cases e
   subst o;refine (Tryz.slices_Clone_string_nil 0 c w).mono ?_;rintro e w'⟨rfl,rfl⟩;exact⟨aN,0,rfl,BL w' _ _ _,AP _ _⟩
 | some a =>
   by_cases r:(Q d)=0
   ·have o:=BH r;subst o;refine (Tryz.slices_Clone_string_zero a c w).mono ?_;rintro e w'⟨x,rfl,k,_,l⟩;obtain⟨f,g,rfl⟩:=M3 k;exact⟨f,g,rfl,k,l⟩
   obtain⟨b,p,s,e,l,_,_⟩:=h.get (j:=0) AA;injection e with e;subst e;have t:∀j,j<(Q d)->w.cell? ⟨b,p+j,aN⟩=some (aS (d.getD j ByteArray.empty)):=λj v=>by
    obtain⟨y,C,D,m,_,q,u⟩:=h.get v;injection m with m;injection m with e3 e4;subst e3 e4;rw[u,AO,q];rfl
   refine (Tryz.slices_Clone_string b p (Q d) c d w (AJ _) AA t).mono ?_;rintro e w'⟨x,rfl,k,_,l⟩;obtain⟨f,g,rfl⟩:=M3 k;rw[AQ (AJ _)] at k;exact⟨f,g,rfl,k,l⟩
def Blk.cell(h:Blk w g t cs)(i:Nat):w.cell? ⟨g,i,aN⟩=cs[i]? := by
 unfold Blk at h;simp[World.cell?,h]
def Blk.new(w:World)(t:TypeId)(cs:Array Value):Blk (w.alloc (aC cs t)) w t cs:=heap_alloc_new w _
def Z8.at(h:Z8 w g N)(hi:i<(Q N)):w.cell? ⟨g,i,aN⟩=some (aB (N.getD i false)):=by
 rw[Blk.cell h];simp[Qk,hi]
def Z8.new(w:World)(N:List Bool):Z8 (w.alloc (aC (Qk N).toArray 4)) w N:=Blk.new w _ _
end
def Yu{P:Program}{a:Func}{p u v:Tmp}{ty:TypeId}(h:a.results=#[.cell p ty,.tmp u,.tmp v])(tmps:Array Value)(w:World)(g:Nat)(t:TypeId)(cs:Array Value)(b:Nat × Nat)(d:TypeDesc)(f:tmps.getD p undef = aP (some ⟨g,0,aN⟩))(c:w.heap[g]? = some (aC cs t b))(k:P.underlying ty=some d)(hd:(match d with | .struct _ | .array _ _=>true | _=>false)=true)(hi:(P.info? ty).map (·.size)=some cs.size):
 (results a tmps).run P w = .ok (.tuple #[aG cs,tmps.getD u undef,tmps.getD v undef]) w:=by
 have j:tmps[p]?.getD undef = aP (some ⟨g,0,aN⟩):=by simpa using f
 simp[results,h,j,asAddr,run_loadVar_row w g t ty cs b d c k hd hi]
def own_cell{k:IntKind}(h:Own w g t k a)(hi:a[i]? = some x):w.cell? ⟨g,i,aN⟩=some (aI k (x:Int)):=by
 obtain⟨y,b,c⟩:=h.cell (i:=i) (by rcases BD i (Q a) with h | h;exact h;rw[BE h] at hi;cases hi);have:=b.out;rw[hi] at this;injection this with this;rw[this];exact c
section
open Go.Maps (Keyed IsMap Tidy)
def Z1(w:World)(A:Option Addr)(n c:Nat)(b:Bool)(x:Nat):Prop:=b=(Vk x).2/\Zq .u32 w A n c (Vk x).1
def Vp(w:World)(g:Nat)(t:TypeId)(xs:List Nat):Prop:=∃cs:Array Value,Blk w g t cs/\cs.size=xs.length*2/\∀(j:Nat) x,xs[j]? = some x->∃A n c b,cs[j*2]? = some (K A n c)/\cs[j*2+1]? = some (aB b)/\Z1 w A n c b x
def Vp.noInt(h:Vp w g t xs):Qf w g:=by
 obtain⟨cs,f,l,j⟩:=h;intro o k z a;rw[f.cell o] at a;have m:o<(Q xs)*2:=by rw[<-l];exact (Array.getElem?_eq_some_iff.1 a).1
 obtain⟨A,n,c,b,h1,d,_⟩:=j (o / 2) _ (AL (show o / 2<(Q xs) by omega));rcases (AA:o=o / 2*2\/o=o / 2*2+1) with e | e
 ·rw[e,h1] at a;cases a
 rw[e,d] at a;cases a
def Zs3(x:Nat)(ys a:List Nat)(k:Nat):
 val (Vn x ys a k).1+4294967296 ^ k*(Vn x ys a k).2=x*val (ys.take k)+val (a.take k):=by
 induction k with
 | zero=>simp[Vn,val]
 | succ k d =>
   rw[Y5,Y5];simp only[Vn];rw[Wf,M1,Nat.pow_succ];generalize (Vn x ys a k).1=f at *;generalize (Vn x ys a k).2=c at *;generalize ys.getD k 0=y at *;generalize a.getD k 0=z at *;generalize (4294967296:Nat) ^ k=B at *;have e:4294967296*((x*y+z+c) / 4294967296)+(x*y+z+c) % 4294967296=x*y+z+c:=Nat.div_add_mod _ _;have:B*((x*y+z+c) % 4294967296)+B*4294967296*((x*y+z+c) / 4294967296)=B*(x*y)+B*z+B*c:=by
    rw[DT,<-DK,Em,e,DK,DK]
   rw[DK];have b:x*(B*y)=B*(x*y):=by rw[<-DT,Ef x B,DT]
   omega
def Us(x:Nat)(ys a:List Nat)(i k:Nat):List Nat:=a.take i++(Vn x ys (a.drop i) k).1++a.drop (i+k)
def Zz7(x:Nat)(ys a:List Nat)(i:Nat):Us x ys a i 0=a:=by simp[Us,Vn]
def Zwa(x:Nat)(ys a:List Nat)(i k:Nat)(h:i+k<(Q a)):(Us x ys a i k)[i+k]? = a[i+k]? := by
 unfold Us;have b:(a.take i++(Vn x ys (a.drop i) k).1).length=i+k:=by
  rw[AU,BU,M1];omega
 rw[BX AA,b,Nat.sub_self,DX,DN]
def D0(x:Nat)(ys a:List Nat)(i k s:Nat)(h:i+k<(Q a)):
 (Us x ys a i k).set (i+k) s=a.take i++((Vn x ys (a.drop i) k).1++[s])++a.drop (i+k+1):=by
 unfold Us;have b:(a.take i++(Vn x ys (a.drop i) k).1).length=i+k:=by
  rw[AU,BU,M1];omega
 rw[List.set_append_right _ _ AA,b,Nat.sub_self,Eb h,List.set_cons_zero];simp
def Zze(x:Nat)(ys a:List Nat)(i k:Nat)(h:i+k<(Q a)):
 (Us x ys a i k).set (i+k) ((x*ys.getD k 0+a.getD (i+k) 0+(Vn x ys (a.drop i) k).2) % 4294967296)=Us x ys a i (k+1):=by
 rw[D0 _ _ _ _ _ _ h];have:(a.drop i).getD k 0=a.getD (i+k) 0:=by simp[DX]
 simp only[Us,Vn,this,DY]
def Nq(x:Nat)(ys a:List Nat)(i k:Nat)(h:i+k<=(Q a)):(Us x ys a i k).length=(Q a):=by
 unfold Us;rw[AU,AU,BU,CJ,M1];omega
def Mn(a:List Nat)(i:Nat)(h:i<=(Q a)):val a=val (a.take i)+4294967296 ^ i*val (a.drop i):=by
 have:val (a.take i++a.drop i)=val (a.take i)+4294967296 ^ (a.take i).length*val (a.drop i):=Ny _ _;rw[List.take_append_drop,BU,Nat.min_eq_left h] at this;exact this
def mul_row(x:Nat)(ys a:List Nat)(i:Nat)(f:i+(Q ys)<(Q a))(b:∀j,i+(Q ys)<=j->a.getD j 0=0):
 let c:=(Us x ys a i (Q ys)).set (i+(Q ys)) (Vn x ys (a.drop i) (Q ys)).2
 val c=val a+4294967296 ^ i*(x*val ys)/\(Q c)=(Q a)/\∀j,i+1+(Q ys)<=j->c.getD j 0=0:=by
 have g:=Zs3 x ys (a.drop i) (Q ys);have m:=Mn a i AA;have n:=Mn (a.drop i) (Q ys) (by rw[CJ];omega);have h:val ((a.drop i).drop (Q ys))=0:=by
  rw[List.drop_drop];exact Ns a _ (λj d=>b j AA)
 have k:val (a.drop (i+(Q ys)+1))=0:=Ns a _ (λj d=>b j AA);rw[List.take_length] at g;refine⟨?_,?_,?_⟩
 ·rw[D0 _ _ _ _ _ _ f,Ny,Ny,Wf,k,BU,Nat.min_eq_left AA,M1,Nat.mul_zero,DN];rw[m,n,h,Nat.mul_zero,DN,g,DK];omega
 ·rw[List.length_set,Nq _ _ _ _ _ AA]
 intro j d;rw[D0 _ _ _ _ _ _ f];have l:(a.take i++((Vn x ys (a.drop i) (Q ys)).1++[(Vn x ys (a.drop i) (Q ys)).2])).length=i+(Q ys)+1:=by
  rw[AU,AU,BU,M1];simp;omega
 rw[AO,BX AA,l,DX];have:=b j AA;rw[AO] at this;rw[show i+(Q ys)+1+(j-(i+(Q ys)+1))=j from by omega];exact this
def mul_row_full(x:Nat)(ys a:List Nat)(i:Nat)(hi:i<=(Q a))(f:val a+4294967296 ^ i*(x*val ys)<4294967296 ^ (Q a))(d:(Q ys)<=(Q a)-i):
 val (Us x ys a i ((Q a)-i))=val a+4294967296 ^ i*(x*val ys)/\(Us x ys a i ((Q a)-i)).length=(Q a):=by
 have b:=Zs3 x ys (a.drop i) ((Q a)-i);have g:=Mn a i hi;rw[AQ d,AQ (by rw[CJ];exact AJ _)] at b;refine⟨?_,Nq _ _ _ _ _ AA⟩;unfold Us;rw[show i+((Q a)-i)=(Q a) from by omega,List.drop_length,DJ,Ny,BU,Nat.min_eq_left hi];have e:4294967296 ^ i*val (Vn x ys (a.drop i) ((Q a)-i)).1+4294967296 ^ (Q a)*(Vn x ys (a.drop i) ((Q a)-i)).2=4294967296 ^ i*(x*val ys)+4294967296 ^ i*val (a.drop i):=by
  rw[<-DK,<-b,DK];congr 1;rw[<-DT,<-Nat.pow_add,show i+((Q a)-i)=(Q a) from by omega]
 have c:(Vn x ys (a.drop i) ((Q a)-i)).2=0:=by
  rcases BW (Vn x ys (a.drop i) ((Q a)-i)).2 with h0 | h0
  ·exact h0
  have:4294967296 ^ (Q a)*1<=4294967296 ^ (Q a)*(Vn x ys (a.drop i) ((Q a)-i)).2:=Eg _ h0;omega
 rw[c,Nat.mul_zero,DN] at e;omega
def symT_snoc(h:l[q]? = some s):Vr (l.take (q+1))=Vr (l.take q)++[(s+16).toNat]:=by
 rw[Ya h];unfold Vr;rw[DI];rfl
end
def RMulRel2(w:World)(x:Nat)(ys a:List Nat)(i:Nat)(c q:Value)(wr:World):Prop :=
 ∃k:Nat,i+k<=64/\q = aI aJ (k:Int)/\c = aI .u64 ((Vn x ys (a.drop i) k).2:Int)/\Own wr w.heap.size 41 .u32 (Us x ys a i k)/\Below w.heap.size w wr
def val_take_le(xs:List Nat)(k:Nat):val (xs.take k)<=val xs:=by
 by_cases h:k<=(Q xs)
 ·rw[Mn xs k h];omega
 rw[AQ AA];exact AJ _
def mul_fits(xs ys:List Nat)(c:Lim xs)(d:Lim ys)(h1:(Q xs)<=32)(b:(Q ys)<=32)(k:Nat)(h:k<(Q xs)):
 val (xs.take k)*val ys+4294967296 ^ k*(xs.getD k 0*val ys)<4294967296 ^ 64:=by
 have e:val (xs.take k)*val ys+4294967296 ^ k*(xs.getD k 0*val ys)=val (xs.take (k+1))*val ys:=by
  rw[Y5,Nat.add_mul,DT]
 rw[e];have a1:=val_take_le xs (k+1);have a2:=Ui xs c;have a3:=Ui ys d;have f:(4294967296:Nat) ^ (Q xs)<=4294967296 ^ 32:=CV AC h1;have g:(4294967296:Nat) ^ (Q ys)<=4294967296 ^ 32:=CV AC b;have a:(4294967296:Nat) ^ 64=4294967296 ^ 32*4294967296 ^ 32:=by rw[<-Nat.pow_add]
 rw[a];exact Nat.mul_lt_mul'' AA AA
def RetV(w:World)(z:Nat)(e:Ending)(w':World):Prop:=Below w.heap.size w w'/\∃A n c b,e = aR (aG #[K A n c,aB b])/\Z1 w' A n c b z
def Z1.cases(h:Z1 w A n c b x):(x<big/\b=false/\(Vk x).1=Zq3 x)\/(¬x<big/\b=true/\(Vk x).1=[]):=by
 obtain⟨rfl,_⟩:=h;by_cases a:x<big
 ·rw[Z7 a];exact .inl ⟨a,rfl,rfl⟩
 rw[Wl a];exact .inr ⟨a,rfl,rfl⟩
def Zyq(w:World)(A:Option Addr)(n c N:Nat)(tab:Nat->Nat->Nat):Prop:=n<=c/\c<=9223372036854775807/\(0<n->∃b a,A=some ⟨b,a,none⟩/\b<w.heap.size/\∀m,m<n->
 ∃g,w.cell? ⟨b,a+m,none⟩=some (K (some ⟨g,0,none⟩) N N)/\Vp w g 110 ((List.range N).map (tab m)))
def MulRel2(w:World)(x:Nat)(ys a:List Nat)(i:Nat)(c q:Value)(wr:World):Prop :=
 ∃k:Nat,k<=ys.length/\q = aI aJ (k:Int)/\c = aI .u64 ((Vn x ys (a.drop i) k).2:Int)/\Own wr w.heap.size 41 .u32 (Us x ys a i k)/\Below w.heap.size w wr
structure Jc (w:World) (B:Nat) (A:Option Addr) (n c N:Nat) (gs:List Nat) (tab:Nat->Nat->Nat):Prop where
 own:w.ownsRow B 115 1 (K A n c) n (gs.map λg=>K (some ⟨g,0,none⟩) N N)
 noInt:∀g,(K A n c).ownBlock=some g->Qf w g
 nodup:gs.Nodup
 row:∀(m g:Nat),gs[m]? = some g->B<=g/\Vp w g 110 ((List.range N).map (tab m))
def limb_of(xs:List Nat)(a:Lim xs)(j:Nat):xs.getD j 0=val xs / 4294967296 ^ j % 4294967296:=by
 by_cases h:j<(Q xs)
 ·have h1:=Mn xs j AA;have b:val (xs.take j)<4294967296 ^ j:=by
   have:=Ui _ (a.take j);rwa [BU,Nat.min_eq_left AA] at this
  rw[h1,Nat.add_mul_div_left _ _ (Nat.pow_pos AC),Nat.div_eq_of_lt b,BF,Eb h];simp only[val];have:=a _ (List.getElem_mem h);rw[Nat.add_mul_mod_self_left,Ec this];simp[AL h]
 have h1:xs.getD j 0=0:=by simp[BE (show (Q xs)<=j by omega)]
 have b:=Ui _ a;have c:(4294967296:Nat) ^ (Q xs)<=4294967296 ^ j:=CV AC AA;rw[h1,Nat.div_eq_of_lt AA]
def bit_of(xs:List Nat)(c:Lim xs)(i:Nat):xs.getD (i / 32) 0 / 2 ^ (i % 32) % 2=val xs / 2 ^ i % 2:=by
 rw[limb_of xs c,show (4294967296:Nat) ^ (i / 32)=2 ^ (32*(i / 32)) from by rw[Nat.pow_mul]];have hi:i=32*(i / 32)+i % 32:=AA
 have b:i % 32<32:=Nat.mod_lt _ AC;generalize i / 32=j at *;generalize i % 32=r at *;subst hi;rw[Nat.pow_add,<-Nat.div_div_eq_div_mul];generalize val xs / 2 ^ (32*j)=v;have h1:=Nat.testBit_mod_two_pow v 32 r;rw[Nat.testBit_eq_decide_div_mod_eq,Nat.testBit_eq_decide_div_mod_eq] at h1;simp only[b,decide_true,Bool.true_and,decide_eq_decide] at h1;have a:(2:Nat) ^ 32=4294967296:=AC
 rw[a] at h1;have d:=Nat.mod_lt (v % 4294967296 / 2 ^ r) (show 0<2 by decide);have f:=Nat.mod_lt (v / 2 ^ r) (show 0<2 by decide);omega
def set_bit(a:List Nat)(f:Lim a)(i:Nat)(hi:i / 32<(Q a))(q:Nat)(l:val a=q*2 ^ (i+1)):
 a.getD (i / 32) 0 ||| 2 ^ (i % 32)=a.getD (i / 32) 0+2 ^ (i % 32)/\a.getD (i / 32) 0+2 ^ (i % 32)<4294967296 /\
 val (a.set (i / 32) (a.getD (i / 32) 0+2 ^ (i % 32)))=val a+2 ^ i:=by
 have t:=f.getD (i / 32);have d:=bit_of a f i;have n:val a / 2 ^ i % 2=0:=by
  rw[l,Nat.pow_succ,<-DT,Ef q,DT,Nat.mul_div_cancel_left _ (Nat.two_pow_pos i)];omega
 rw[n] at d;have v:i % 32<32:=Nat.mod_lt _ AC;have h:2 ^ i=4294967296 ^ (i / 32)*2 ^ (i % 32):=by
  rw[show (4294967296:Nat) ^ (i / 32)=2 ^ (32*(i / 32)) from by rw[Nat.pow_mul],<-Nat.pow_add,show 32*(i / 32)+i % 32=i from by omega]
 refine⟨?_,?_,by rw[val_set a _ _ hi,h]⟩;all_goals
  generalize a.getD (i / 32) 0=x at *;generalize i % 32=r at *;have s:(2:Nat) ^ (r+1)=2*2 ^ r:=by rw[Nat.pow_succ,Ef]
  have j:x % 2 ^ (r+1)<2 ^ r:=by
   rw[Nat.mod_pow_succ,d,Nat.mul_zero,DN];exact Nat.mod_lt _ (Nat.two_pow_pos r)
  have m:2 ^ (r+1)*(x / 2 ^ (r+1))+x % 2 ^ (r+1)=x:=Nat.div_add_mod _ _;have u:=Nat.two_pow_pos r
 ·have c:(2 ^ (r+1)*(x / 2 ^ (r+1))) % 2 ^ (r+1)=0:=Nat.mul_mod_right _ _;have b:=nat_join (r+1) (2 ^ (r+1)*(x / 2 ^ (r+1))) (x % 2 ^ (r+1)) c AA;have o:=nat_join r (2 ^ r) (x % 2 ^ (r+1)) (Nat.mod_self _) j;have p:=nat_join (r+1) (2 ^ (r+1)*(x / 2 ^ (r+1))) (2 ^ r+x % 2 ^ (r+1)) c AA;rw[m] at b;rw[<-b,Nat.or_assoc,Nat.or_comm (x % 2 ^ (r+1)),o,p,b];omega
 have e:(4294967296:Nat)=2 ^ (r+1)*2 ^ (31-r):=by
  rw[<-Nat.pow_add,show r+1+(31-r)=32 from by omega]
 have k:2 ^ (r+1)*(x / 2 ^ (r+1))<2 ^ (r+1)*2 ^ (31-r):=by rw[<-e];omega
 have h1:x / 2 ^ (r+1)<2 ^ (31-r):=Nat.lt_of_mul_lt_mul_left k;have g:2 ^ (r+1)*(x / 2 ^ (r+1)+1)<=2 ^ (r+1)*2 ^ (31-r):=Eg _ h1;rw[<-e,DK,Eh] at g;omega
def Z1.of(h:Zq .u32 w A (Zq3 x).length c (Zq3 x))(a:x<big):Z1 w A (Zq3 x).length c false x:=by
 unfold Z1;rw[Z7 a];exact⟨rfl,h⟩
section
open Go.Maps (Keyed IsMap Tidy)
open Go.Maps (Keyed IsMap Tidy)
def H8(w:World)(b x:Nat):Prop:=∃A n c d,Blk w b 154 #[K A n c,aB d]/\Z1 w A n c d x
def Jk(d:Blk w g t #[K A n c,aB b]):Qf w g:=by
 intro o k z a;rw[d.cell o] at a;rcases o with _ | _ | o <;> cases a
end
section
open Ieee
open Go.Maps (Keyed IsMap Tidy)
def Fx(w:World)(b x:Nat):Prop:=∃A n c d,Blk w b 168 #[K A n c,aB d]/\Z1 w A n c d x
def val_of(a:x<big)(h:Zq .u32 w A n c (Zq3 x)):Z1 w A n c false x:=⟨by rw[Z7 a],by rw[Z7 a];exact h⟩
end
section
open Go.Maps (Keyed IsMap Tidy)
def fit_val(x:Nat):∃(d:List Nat) (g:Nat) (b:Bool),Xm x=(d,g)/\(((g:Nat):Int)==2)=b/\(∀(w:World) (A:Option Addr) (c:Nat),Zq .u32 w A (Q d) c d->Z1 w A (Q d) c b x):=by
 rcases F8 x with ⟨a,f⟩ | ⟨a,f⟩
 ·exact⟨Zq3 x,0,false,f,rfl,λw A c h=>val_of a h⟩
 exact⟨[],2,true,f,rfl,λw A c h=>⟨by rw[Wl a],by rw[Wl a];exact h⟩⟩
end
section
open Go.RowKit Go.Shelf
attribute [local go_sem] Oper.semAt_some
open Go.RowKit Go.Shelf
def Zr3(v K N:Nat)(a:List Nat)(d:0<N)(k:Nat)(h:∀j,j<k->N*(j+1)<=(Q a)/\¬val ((a.drop (N*j)).take N) % 2 ^ K<v)(f:Nat):
 Zrr v K N (f+k) 0 a=Zrr v K N f (N*k) (a.drop (N*k)):=by
 induction k generalizing f with
 | zero=>simp
 | succ k c =>
   have e:f+(k+1)=(f+1)+k:=AA
   obtain⟨h1,b⟩:=h k AA;rw[e,c (λj g=>h j AA),Zrr,CJ,if_pos (by rw[DK] at h1;omega),if_neg b,List.drop_drop,DK,Eh]
def Zrp(a:List Nat){L N:Nat}(x:Zrl L N):List Nat:=(a.drop x.1.1).take x.1.2
def Zqq(v K:Nat)(a:List Nat){L N:Nat}(x:Zrl L N):Prop:=x.1.2=N/\¬val (Zrp a x) % 2 ^ K<v
def Zr8{K N:Nat}(g:0<N)(f:(Q a)=L)(h:∀x∈Zrw L N k,Zqq v K a x):
 ∀j,j<k->N*(j+1)<=(Q a)/\¬val ((a.drop (N*j)).take N) % 2 ^ K<v:=by
 intro j l;obtain⟨h1,b⟩:=h _ (pieces_mem l);obtain⟨c,d⟩:=Zqm g h1;unfold Zrp at b;rw[c] at b;exact⟨by rw[f];exact d,b⟩
def Zqo{N:Nat}(b:0<N){c:List Nat}{K:Nat}(a:(Q c)=L)(h:∀x∈Zrw L N k,Zqq v K c x):N*k<=L/\k<=L:=by
 rcases BW k with h0 | h0
 ·subst h0;simp
 have:=(Zr8 b a h (k-1) AA).1;rw[show k-1+1=k from by omega,a] at this;exact⟨this,BC (Nat.le_mul_of_pos_left k b) this⟩
def drawF_done{K N:Nat}(b:0<N)(c:(Q a)=L)(f:L<=N*k)(h:∀x∈Zrw L N k,Zqq v K a x):
 Zrr v K N ((Q a)+1) 0 a=([],0,12):=by
 obtain⟨h1,d⟩:=Zqo b c h;have:=Zr3 v K N a b k (Zr8 b c h) ((Q a)+1-k);rw[show (Q a)+1-k+k=(Q a)+1 from by omega] at this;rw[this,show (Q a)+1-k=((Q a)-k)+1 from by omega,Zrr,CJ,if_neg AA]
def drawF_cut{K N:Nat}(b:0<N)(c:(Q a)=L)(h:∀x∈Zrw L N k,Zqq v K a x)(d:(Zre L N k).1.2<N):
 Zrr v K N ((Q a)+1) 0 a=([],0,12):=by
 obtain⟨h1,f⟩:=Zqo b c h;have:=Zr3 v K N a b k (Zr8 b c h) ((Q a)+1-k);rw[show (Q a)+1-k+k=(Q a)+1 from by omega] at this;have g:min N (L-N*k)<N:=d;rw[this,show (Q a)+1-k=((Q a)-k)+1 from by omega,Zrr,CJ,if_neg AA]
def drawF_drawn{K N:Nat}(b:0<N)(d:(Q a)=L)(h:∀x∈Zrw L N k,Zqq v K a x)(j:(Zre L N k).1.2=N)(c:val (Zrp a (Zre L N k)) % 2 ^ K<v):
 Zrr v K N ((Q a)+1) 0 a=(Zq3 (val (Zrp a (Zre L N k)) % 2 ^ K),N*k+N,0):=by
 obtain⟨h1,l⟩:=Zqo b d h;have:=Zr3 v K N a b k (Zr8 b d h) ((Q a)+1-k);rw[show (Q a)+1-k+k=(Q a)+1 from by omega] at this;obtain⟨f,g⟩:=Zqm b j;unfold Zrp at c ⊢;rw[f] at c ⊢;rw[DK,Eh] at g;rw[this,show (Q a)+1-k=((Q a)-k)+1 from by omega,Zrr,CJ,if_pos AA,if_pos c]
end
section
open Go.RowKit Go.Shelf
attribute [local go_sem] Oper.semAt_some
open Go.RowKit Go.Shelf
open Go.RowKit Go.Shelf
attribute [local go_sem] Oper.semAt_some
structure IB (w w1:World) (ws:List Nat) (v:Value) (V K N:Nat) (pre:List (Zrl ws.length N)) (W:World):Prop where
 vars:Zqy w W v
 b7:Boxed W w1.heap.size 3 (aI aJ (N:Int))
 b8:Boxed W (w1.heap.size+1) 3 (aI aJ ((N*pre.length:Nat):Int))
 size:w1.heap.size+1+1+1+1<=W.heap.size
 fail:∀x∈pre,Zqq V K ws x
def IBel(w w1:World)(a:List Nat)(v:Value)(V K N:Nat)(b:List (Zrl a.length N))(W:World):Prop:=IB w w1 a v V K N b W/\Below w.heap.size w W
def XB(w w1:World)(a:List Nat)(V K N:Nat)(c:Code)(f:List (Zrl a.length N))(W:World):Prop :=
 ∃b x,f=b++[x]/\(∀y∈b,Zqq V K a y) /\
  ((c = .ret/\x.1.2=N/\val (Zrp a x) % 2 ^ K<V/\∃A d,Boxed W (w.heap.size+1) 44 (aK A (Zq3 (val (Zrp a x) % 2 ^ K)).length d) /\
      Boxed W (w.heap.size+1+1) 3 (aI aJ ((N*b.length+N:Nat):Int))/\Boxed W (w.heap.size+1+1+1) 31 (aI aJ 0) /\
      Zq .u32 W A (Zq3 (val (Zrp a x) % 2 ^ K)).length d (Zq3 (val (Zrp a x) % 2 ^ K))) \/
   (c = .exit 1/\x.1.2<N/\∃v,Zqy w W v))
def XBel(w w1:World)(a:List Nat)(V K N:Nat)(c:Code)(b:List (Zrl a.length N))(W:World):Prop:=XB w w1 a V K N c b W/\Below w.heap.size w W
def Zqk(v K N:Nat):∀(f at_:Nat) (a:List Nat),(Zrr v K N f at_ a=([],0,12))\/∃t n,Zrr v K N f at_ a=(Zq3 t,n,0)/\t<v/\at_<=n/\n<=at_+(Q a)
 | 0,_,_ => .inl rfl
 | f+1,at_,a=>by
   rw[Zrr];by_cases h:N<=(Q a)
   ·rw[if_pos h];by_cases b:val (a.take N) % 2 ^ K<v
    ·rw[if_pos b];exact .inr ⟨_,_,rfl,b,AA,AA⟩
    rw[if_neg b];rcases Zqk v K N f (at_+N) (a.drop N) with c | ⟨t,n,c,d,j,g⟩
    ·exact .inl c
    refine .inr ⟨t,n,c,d,AA,?_⟩;rw[CJ] at g;omega
   rw[if_neg h];exact .inl rfl
end
end
section
variable{w':World}{A:Option Addr}{n c i j base p q:Nat}{a:WSt}{f g:List Bool->List Bool}{r:Rul}{N:List Bool}{ss l rest:List Int}{s non:Int}{ts:List Trm}{t:Trm}{cs:Array Value}{o xs:List Nat}{ops:Array Oper}{D:DataW Unit}{listed:Array Bool}{T:Int->Nat->Nat}
def Za.same{k:IntKind}{w:World}{a:List Int}(h:Za k w A n c a)(b:Uz w w'):Za k w' A n c a:=h.below (b.below _)
def Gj(k:IntKind)(xs ys:List Int):ints k (xs++ys)=ints k xs++ints k ys:=by simp[ints]
def RetInts(k:IntKind)(w:World)(a:List Int)(e:Ending)(w':World):Prop :=
 ∃A c,e = aR (K A a.length c)/\Za k w' A a.length c a/\Below w.heap.size w w'
def foldl_lt(l:List Int)(s:Nat)(a:s<4294967296):l.foldl (λs n=>s ||| Y6 n) s<4294967296:=by
 induction l generalizing s with
 | nil=>exact a
 | cons n l b=>exact b _ (Ct a (Ua n))
def ofN_lt(l:List Int):ofN l<4294967296:=foldl_lt l 0 AC
def and_bit(s:Nat)(n:Int):(s &&& Y6 n != 0)=hasN s n:=by
 unfold Y6 hasN;split
 ·rename_i h;rw[DV h,Bool.true_and,and_pow];have b:=Nat.two_pow_pos n.toNat
  cases a:s.testBit n.toNat
  ·simp
  simp only[if_true,BK];omega
 rename_i h;rw[BV h];simp
def ref_has(s:Nat)(n:Int)(w:World)(d:s<4294967296):Calls prog 120 #[aI .u32 (s:Int),aI aJ n] w λe w'=>e = aR (aB (hasN s n))/\w=w':=by
 have f:=and32 s (Y6 n) d (Ua n);have g:(((s &&& Y6 n:Nat):Int) != 0)=hasN s n:=by
  rw[<-and_bit,Cc];simp[BK]
 have a:=Ch n w;generalize Y6 n=b at *;generalize s &&& b=x at *;have c:=LH a;go_enter func120,ntmps120;go_wp2_with (go_at_call 121;refine c.out.mono ?_;rintro e w'⟨rfl,rfl⟩);go_ret;exact⟨rfl,rfl⟩
def set_of(A:Option Addr)(n c:Nat)(a:List Int)(w:World)(h:Za .i64 w A n c a):Calls prog 201 #[K A n c] w λe w'=>e = aR (aI .u32 ((ofN a:Nat):Int))/\w=w':=by
 obtain rfl:=h.len;have p:=h.cap;go_enter func201,ntmps201;go_wp2;go_loop [2,4,7] (λs _ i=>∃k:Nat,k<=(Q a)/\i = aI aJ (k:Int)/\s = aI .u32 ((ofN (a.take k):Nat):Int)) (λ_ _ i=>(Q a)-(intOf i).toNat)
 case atStart=>exact⟨0,AV _,rfl,rfl⟩
 obtain⟨k,q,rfl,rfl⟩:=hrel;by_cases l:k<(Q a)
 ·obtain⟨b,u,x,rfl,m,Hx,o⟩:=h.get (j:=k) l;have r:=or32 (ofN (a.take k)) (Y6 x) (ofN_lt _) (Ua x);have g:Hid (ofN (a.take (k+1))=ofN (a.take k) ||| Y6 x):=LH (by rw[Du,Hx];exact ofN_snoc _ _);have d:=set_bit1 x w;generalize ofN (a.take k)=s at *;generalize Y6 x=t at *;have f:=LH d;go_wp2_with (go_at_call 219;refine f.out.mono ?_;rintro e w'⟨rfl,rfl⟩);go_round
  case rel=>exact⟨k+1,AA,AF,by rw[g]⟩
  simp[intOf];omega
 obtain rfl:k=(Q a):=AA
 go_wp2;go_ret;exact⟨AE,rfl⟩
def tz32(s:Nat)(w:World)(a:s≠0)(d:s<4294967296)(f:Q2 w):
 Calls prog 218 #[aI .u32 (s:Int)] w λe w'=>e = aR (aI aJ ((Lib.ctz 32 s:Nat):Int))/\w=w':=by
 obtain⟨g,c⟩:=Lib.lowest_bit 32 s a d;obtain⟨hi,h⟩:=Lib.deBruijn32_at _ c;have b:=f _ hi;rw[h] at b;exact tz32_core s _ _ w AG (tz32_key s _ d a g) hi c b
def Zvj(c:Nat)(w:World)(j:c<256):
 Calls prog 145 #[aI .u8 (c:Int)] w λe w'=>e = aR (aB (Xf c))/\w=w':=by
 have a:=letter_fact c j;have b:=(bits_or c).resolve_right AA;have k:∃v:Nat,bits BinOp.or .u8 (c:Int) 32=(v:Int)/\Xf c=(decide (c=95) || (decide (97<=v)&&decide (v<=122))):=⟨_,b,a⟩;clear a b;obtain⟨v,m,a⟩:=k;have d:=LH a;clear a;have l:c=95\/(c≠95/\v<97)\/(c≠95/\97<=v/\v<=122)\/(c≠95/\97<=v/\122<v):=AA
 rcases l with h | ⟨h,g⟩ | ⟨h,g,f⟩ | ⟨h,g,f⟩;all_goals
  go_enter func145,ntmps145;go_wp2;go_ret;refine⟨Jf ?_,rfl⟩;rw[d];rw[Cc];simp only[Cs,AS,BS,BK,ne_eq,Bool.not_eq_true',decide_eq_true_eq,AZ,Bool.false_eq_true,true_iff,false_iff,iff_true,iff_false];omega
def K6(c:Nat)(w:World)(d:c<256):
 Calls prog 170 #[aI .u8 (c:Int)] w λe w'=>e = aR (aB (Xf c))/\w=w':=by
 have b:c<65\/(65<=c/\c<=90)\/(90<c/\c<95)\/c=95\/(95<c/\c<97)\/(97<=c/\c<=122)\/122<c:=AA
 rcases b with g0 | ⟨g0,a⟩ | ⟨g0,a⟩ | g0 | ⟨g0,a⟩ | ⟨g0,a⟩ | g0;all_goals
  go_enter func170,ntmps170;go_wp2;all_goals
   go_ret;refine⟨Jf ?_,rfl⟩;unfold Xf;rw[Cc];simp only[Cs,AS,BS,BK,ne_eq,Bool.not_eq_true',decide_eq_true_eq,AZ,Bool.false_eq_true,true_iff,false_iff,iff_true,iff_false];omega
def lx_inner(c:Nat)(w:World)(j:c<256):
 Calls prog 146 #[aI .u8 (c:Int)] w λe w'=>e = aR (aB (Wa c))/\w=w':=by
 have a:=Zvj c w j;cases b:Xf c;all_goals
  rw[b] at a;have d:=LH a;have f:=LH b;have k:(c<46/\((c:Int)==46)=false)\/((c:Int)==46)=true\/(46<c/\c<48/\((c:Int)==46)=false)\/(48<=c/\c<=57/\((c:Int)==46)=false)\/(57<c/\((c:Int)==46)=false):=by
   simp only[BS,AR,ne_eq];omega
  rcases k with ⟨g,g0⟩ | g0 | ⟨g,h,g0⟩ | ⟨g,h,g0⟩ | ⟨g,g0⟩;all_goals
   go_enter func146,ntmps146;go_wp2_with (go_at_call 145;refine d.out.mono ?_;rintro e w'⟨rfl,rfl⟩);all_goals
    go_ret;refine⟨Jf ?_,rfl⟩;unfold Wa;rw[f];try simp only[BS,AR,ne_eq] at g0
    try simp only[Bool.true_or,Bool.false_or]
    all_goals first
    | rfl
    | (rw[Cc];simp only[Cs,AS,BS,BK,ne_eq,Bool.not_eq_true',decide_eq_true_eq,AZ,Bool.false_eq_true,true_iff,false_iff,iff_true,iff_false];omega)
def Zy7(c:Nat)(w:World)(j:c<256):
 Calls prog 171 #[aI .u8 (c:Int)] w λe w'=>e = aR (aB (Wa c))/\w=w':=by
 have a:=K6 c w j;cases b:Xf c;all_goals
  rw[b] at a;have d:=LH a;have f:=LH b;have k:(c<46/\((c:Int)==46)=false)\/((c:Int)==46)=true\/(46<c/\c<48/\((c:Int)==46)=false)\/(48<=c/\c<=57/\((c:Int)==46)=false)\/(57<c/\((c:Int)==46)=false):=by
   simp only[BS,AR,ne_eq];omega
  rcases k with ⟨g,g0⟩ | g0 | ⟨g,h,g0⟩ | ⟨g,h,g0⟩ | ⟨g,g0⟩;all_goals
   go_enter func171,ntmps171;go_wp2_with (go_at_call 170;refine d.out.mono ?_;rintro e w'⟨rfl,rfl⟩);all_goals
    go_ret;refine⟨Jf ?_,rfl⟩;unfold Wa;rw[f];try simp only[BS,AR,ne_eq] at g0
    try simp only[Bool.true_or,Bool.false_or]
    all_goals first
    | rfl
    | (rw[Cc];simp only[Cs,AS,BS,BK,ne_eq,Bool.not_eq_true',decide_eq_true_eq,AZ,Bool.false_eq_true,true_iff,false_iff,iff_true,iff_false];omega)
def lx_name(s:ByteArray)(w:World):Calls prog 86 #[aS s] w λe w'=>e = aR (aB (Xi (Zh s)))/\w=w':=by
 have g:=Qh s;by_cases v:s.size=0
 ·have a:Xi (Zh s)=false:=by simp[Xi,g,v]
  rw[a];have C:=Cp s v;clear a g;go_enter func86,ntmps86;go_wp2;go_ret;exact⟨rfl,rfl⟩
 have c:0<s.size:=AA
 obtain⟨D,E⟩:=Zz8 s c;by_cases m:s.size<=20
 case neg =>
  have a:Xi (Zh s)=false:=by simp[Xi,g,m]
  rw[a];have B:(20:Int)<(s.size:Int):=AA
  clear a g m;go_enter func86,ntmps86;go_wp2;go_ret;exact⟨rfl,rfl⟩
 have G:¬(20:Int)<(s.size:Int):=AA
 have q:Hid (∀k (h:k<s.size),(Zh s).getD k 0=(s[k]'h).toNat):=LH λk h=>Yn (J0 s k h);have l:=LH g;have d:=Zvj (s[0]'c).toNat w ((s[0]'c).toNat_lt);have A:=LH m;clear g m;cases b:Xf (s[0]'c).toNat
 ·have a:Xi (Zh s)=false:=by unfold Xi;rw[q 0 c,b];simp
  rw[a];rw[b] at d;have o:=LH d;clear a d b;go_enter func86,ntmps86;go_wp2_with (go_at_call 145;refine o.out.mono ?_;rintro e w'⟨rfl,rfl⟩);go_ret;exact⟨rfl,rfl⟩
 rw[b] at d;have o:=LH d;have y:Hid (Xf ((Zh s).getD 0 0)=true):=LH (by rw[q 0 c];exact b);clear d b;go_enter func86,ntmps86;go_wp2_with (go_at_call 145;refine o.out.mono ?_;rintro e w'⟨rfl,rfl⟩);go_loop [3,19] (λ_ i=>∃k:Nat,k<=s.size/\i = aI aJ (k:Int)/\∀j,j<k->Wa ((Zh s).getD j 0)=true) (λ_ i=>s.size-(intOf i).toNat)
 case atStart=>exact⟨0,AV _,rfl,λj t=>AA⟩
 obtain⟨k,F,rfl,x⟩:=hrel;have u:=LH x;clear x;by_cases b:k<s.size
 ·have f:=lx_inner (s[k]'b).toNat w ((s[k]'b).toNat_lt);have n:=q k b;cases hd:Wa (s[k]'b).toNat
  ·have a:Xi (Zh s)=false:=Zsv k (by rw[l];exact b) (by rw[n];exact hd);have p:=LH a;rw[hd] at f;have r:=LH f;clear f hd n a;go_wp2_with (go_at_call 146;refine r.out.mono ?_;rintro e w'⟨rfl,rfl⟩);go_ret;exact⟨by rw[p];rfl,rfl⟩
  rw[hd] at f;have r:=LH f;have z:Hid (Wa ((Zh s).getD k 0)=true):=LH (by rw[n];exact hd);clear f hd n;go_wp2_with (go_at_call 146;refine r.out.mono ?_;rintro e w'⟨rfl,rfl⟩);go_round
  case rel =>
   refine⟨k+1,AA,AF,λj t=>?_⟩;rcases BD j k with h | h
   ·exact u j h
   obtain rfl:j=k:=AA
   exact z
  simp[intOf];omega
 have a:Xi (Zh s)=true:=Zuu (by rw[l];omega) (by rw[l];exact A) y (λj t=>u j (by rw[l] at t;omega));have p:=LH a;clear a;go_wp2;go_ret;exact⟨by rw[p];rfl,rfl⟩
def Zx8(s:ByteArray)(w:World):Calls prog 116 #[aS s] w λe w'=>e = aR (aB (Xi (Zh s)))/\w=w':=by
 have f:=Qh s;by_cases t:s.size=0
 ·have a:Xi (Zh s)=false:=by simp[Xi,f,t]
  rw[a];have B:((s.size:Int)==0)=true:=by rw[BS];omega
  clear a f;go_enter func116,ntmps116;go_wp2;go_ret;exact⟨rfl,rfl⟩
 have g:0<s.size:=AA
 have B:((s.size:Int)==0)=false:=by rw[AR];omega
 have C:=LH t;clear t;by_cases m:s.size<=20
 case neg =>
  have a:Xi (Zh s)=false:=by simp[Xi,f,m]
  rw[a];have D:(20:Int)<(s.size:Int):=AA
  clear a f m;go_enter func116,ntmps116;go_wp2;go_ret;exact⟨rfl,rfl⟩
 have F:¬(20:Int)<(s.size:Int):=AA
 have q:Hid (∀k (h:k<s.size),(Zh s).getD k 0=(s[k]'h).toNat):=LH λk h=>Yn (J0 s k h);have l:=LH f;have c:=K6 (s[0]'g).toNat w ((s[0]'g).toNat_lt);have A:=LH m;clear f m;cases b:Xf (s[0]'g).toNat
 ·have a:Xi (Zh s)=false:=by unfold Xi;rw[q 0 g,b];simp
  rw[a];rw[b] at c;have o:=LH c;clear a c b;go_enter func116,ntmps116;go_wp2_with (go_at_call 170;refine o.out.mono ?_;rintro e w'⟨rfl,rfl⟩);go_ret;exact⟨rfl,rfl⟩
 rw[b] at c;have o:=LH c;have y:Hid (Xf ((Zh s).getD 0 0)=true):=LH (by rw[q 0 g];exact b);clear c b;go_enter func116,ntmps116;go_wp2_with (go_at_call 170;refine o.out.mono ?_;rintro e w'⟨rfl,rfl⟩);go_loop [3] (λi=>∃k:Nat,k<=s.size/\i = aI aJ (k:Int)/\∀j,j<k->Wa ((Zh s).getD j 0)=true) (λi=>s.size-(intOf i).toNat)
 case atStart=>exact⟨0,AV _,rfl,λj u=>AA⟩
 obtain⟨k,E,rfl,x⟩:=hrel;have v:=LH x;clear x;by_cases b:k<s.size
 ·have d:=Zy7 (s[k]'b).toNat w ((s[k]'b).toNat_lt);have n:=q k b;cases hd:Wa (s[k]'b).toNat
  ·have a:Xi (Zh s)=false:=Zsv k (by rw[l];exact b) (by rw[n];exact hd);have p:=LH a;rw[hd] at d;have r:=LH d;clear d hd n a;go_wp2_with (go_at_call 171;refine r.out.mono ?_;rintro e w'⟨rfl,rfl⟩);go_ret;exact⟨by rw[p];rfl,rfl⟩
  rw[hd] at d;have r:=LH d;have z:Hid (Wa ((Zh s).getD k 0)=true):=LH (by rw[n];exact hd);clear d hd n;go_wp2_with (go_at_call 171;refine r.out.mono ?_;rintro e w'⟨rfl,rfl⟩);go_round
  case rel =>
   refine⟨k+1,AA,AF,λj u=>?_⟩;rcases BD j k with h | h
   ·exact v j h
   obtain rfl:j=k:=AA
   exact z
  simp[intOf];omega
 have a:Xi (Zh s)=true:=Zuu (by rw[l];omega) (by rw[l];exact A) y (λj u=>v j (by rw[l] at u;omega));have p:=LH a;clear a;go_wp2;go_ret;exact⟨by rw[p];rfl,rfl⟩
def Gb(s:ByteArray)(w:World):
 Calls prog 169 #[aS s] w λe w'=>e = aR (aB (H5 (Zh s)))/\w=w':=by
 have n:=Qh s;have c:Hid (∀k (h:k<s.size),(Zh s).getD k 0=(s[k]'h).toNat):=LH λk h=>Yn (J0 s k h);have d:Hid (H5 (Zh s)=((decide (s.size=3)&&decide ((Zh s).getD 0 0=39)&&decide ((Zh s).getD 2 0=39)&&Mt ((Zh s).getD 1 0)) ||
  (decide (s.size=4)&&decide ((Zh s).getD 0 0=39)&&decide ((Zh s).getD 3 0=39)&&decide ((Zh s).getD 1 0=92)&&Q1 ((Zh s).getD 2 0)))):=LH (by unfold H5;rw[n])
 by_cases f:s.size=3
 ·have p:((s.size:Int)==3)=true:=by rw[BS];omega
  have g:0<s.size:=AA
  have a:1<s.size:=AA
  have b:2<s.size:=AA
  have l:Hid (H5 (Zh s)=(decide ((s[0]'g).toNat=39)&&decide ((s[2]'b).toNat=39)&&decide (32<=(s[1]'a).toNat/\(s[1]'a).toNat<=126/\(s[1]'a).toNat≠39/\(s[1]'a).toNat≠92))):=LH (by
   rw[d,c 0 g,c 1 a,c 2 b,f];simp[Mt])
  go_enter func169,ntmps169;go_wp2;all_goals
   go_ret;refine⟨Jf ?_,rfl⟩;rw[l];rw[Cc];simp only[Cs,AS,BS,BK,ne_eq,Bool.not_eq_true',decide_eq_true_eq,AZ,Bool.false_eq_true,true_iff,false_iff,iff_true,iff_false];omega
 have p:((s.size:Int)==3)=false:=by rw[AR];omega
 by_cases j:s.size=4
 ·have q:((s.size:Int)==4)=true:=by rw[BS];omega
  have g:0<s.size:=AA
  have a:1<s.size:=AA
  have b:2<s.size:=AA
  have o:3<s.size:=AA
  have l:Hid (H5 (Zh s)=(decide ((s[0]'g).toNat=39)&&decide ((s[3]'o).toNat=39)&&decide ((s[1]'a).toNat=92)&&decide ((s[2]'b).toNat=110\/(s[2]'b).toNat=116\/(s[2]'b).toNat=92\/(s[2]'b).toNat=39))):=LH (by
   rw[d,c 0 g,c 1 a,c 2 b,c 3 o,j];simp[Q1])
  go_enter func169,ntmps169;go_wp2;all_goals
   go_ret;refine⟨Jf ?_,rfl⟩;rw[l];rw[Cc];simp only[Cs,AS,BS,BK,ne_eq,Bool.not_eq_true',decide_eq_true_eq,AZ,Bool.false_eq_true,true_iff,false_iff,iff_true,iff_false];omega
 have q:((s.size:Int)==4)=false:=by rw[AR];omega
 have m:H5 (Zh s)=false:=by rw[d];simp[f,j]
 rw[m];go_enter func169,ntmps169;go_wp2;go_ret;exact⟨rfl,rfl⟩
def cntL_snoc(l:List Trm)(t:Trm)(g:1<=t.V)(j:t.V<=24):Zzt (l++[t])=if Dt l t.V then Zzt l else Zzt l+1:=by
 obtain⟨m,b⟩:∃m:Nat,t.V=(m:Int):=⟨t.V.toNat,AA⟩;by_cases h:Dt l t.V=true
 ·rw[if_pos h];unfold Zzt;congr 1;funext n;rw[Kf];by_cases a:t.V=(n:Int)
  ·rw[<-a,h];simp
  simp[a]
 rw[if_neg h];have f:Dt l t.V=false:=by simpa using h
 have:=countP_more (λ(n:Nat)=>decide (1<=n)&&Dt l (n:Int)) m (by rw[<-b,f];simp) 25;rw[if_pos AA] at this;unfold Zzt;rw[<-this];congr 1;funext n;rw[Kf];by_cases a:n=m
 ·subst a;have e:decide (1<=n)=true:=AG
  rw[b,e];simp
 have c:decide (n=m)=false:=by simp[a]
 have d:decide (t.V=(n:Int))=false:=AG
 rw[c,d];simp
def Zzf(l:List Trm)(f:∀t∈l,Up t=true):Jh l=l.all (Nc l):=by
 have g:∀t∈l,0<=t.V:=λt a=>(Kp (f t a)).2.1;obtain⟨y,O,z⟩:=topL_spec l g;have N:J7 l<=24:=by
  rcases z with h | ⟨t,a,d⟩
  ·omega
  have:=(Kp (f t a)).2.2.1;omega
 obtain⟨T,A⟩:∃T:Nat,J7 l=(T:Int):=⟨(J7 l).toNat,AA⟩;have F:∀n:Nat,(decide (1<=n)&&Dt l (n:Int))=true->1<=n:=λn h=>by simp at h;exact h.1
 have G:∀n:Nat,(decide (1<=n)&&Dt l (n:Int))=true->n<=T:=λn h=>by
  simp[Dt] at h;obtain⟨_,t,a,d⟩:=h;have:=y t a;omega
 have p:Zzt l=T↔∀n:Nat,1<=n->n<=T->Dt l (n:Int)=true:=by
  unfold Zzt;rw[countP_cut _ T G 25 AA,(countP_full _ F T).2];constructor
  ·intro h n b c;have:=h n b c;simp at this;exact this.2
  intro h n b c;simp[h n b c,b]
 have o:∀L:Int,L≠0->∀t∈l,t.V=L->t.S≠0:=λL j t a d h=>by
  have:=(Kp (f t a)).2.2.2.2.2;rw[<-d] at j;exact j (this.2 h)
 rw[Cc];unfold Jh;rw[AS,BA,A,BG];constructor
 ·rintro⟨D,d⟩ t a;have C:=p.1 AA;unfold Nc;rw[BG];intro n E;rw[BP] at E;have M:=y t a;rw[Gf];refine⟨λk u H r=>?_,?_⟩
  ·have:=Bj D H;simp[Fo] at this;rcases this with (h | h) | h
   ·omega
   ·rw[r] at h;exact .inl h
   rw[r] at h;exact .inr h
  rw[Zvl l _ (o _ AA)];have:=C (n+1) AA AA;simpa using this
 intro B;have s:∀t∈l,∀n:Nat,1<=n->(n:Int)<=t.V->J9 l (n:Int)=true:=λt a n b c=>by
  have:=B t a;unfold Nc at this;rw[BG] at this;have:=this (n-1) (by rw[BP];omega);rwa [show ((n-1:Nat):Int)+1=(n:Int) from by omega] at this
 refine⟨Kc λk t q=>?_,?_⟩
 ·have x:=AM q;have J:=g t x;simp only[Fo,Cs,decide_eq_true_eq];by_cases I:t.V=0
  ·exact .inl (.inl I)
  obtain⟨m,v⟩:∃m:Nat,t.V=(m:Int):=⟨t.V.toNat,AA⟩;have:=s t x m AA AA;rw[Gf] at this;have:=this.1 k t q v;rw[<-v] at this;rcases this with h | h
  ·exact .inl (.inr h)
  exact .inr h
 have:Zzt l=T:=p.2 λn b c=>by
  rcases z with h | ⟨t,a,d⟩
  ·omega
  have:=s t a n b AA;rw[Gf] at this;exact (Zvl l _ (o _ AA)).1 this.2
 omega
def Qv.comp(a:Qv f)(c:Qv g):Qv λb=>g (f b) :=
 ⟨λb=>by rw[c.len,a.len],λb i h=>c.up _ i (a.up b i h)⟩
def Qv.anti(a:Qv f)(c:Qv g){b:List Bool}(h:g (f b)=b):f b=b :=
 Zvh (a.len b) (λi hi=>by rw[<-h];exact c.up _ i hi) (λi hi=>a.up b i hi)
def N2(p:Rul->List Bool->Bool)(r:Rul):Qv (Qa p r):=by
 refine⟨λb=>by unfold Qa;split <;> simp,λb i h=>?_⟩;unfold Qa;split
 ·rw[List.getElem?_set];split
  ·rename_i a;subst a;simp[(AN.1 h).1]
  exact h
 exact h
def Ng(p:Rul->List Bool->Bool):∀a,Qv (Xs p a)
 | []=>Qv.id
 | r::a=>(N2 p r).comp (Ng p a)
def lefts_next{G:Gr}{k:Nat}{top:Int}(h:G.leftsGo (G.U.take k) (-1)=some top)(a:G.U[k]? = some r):
 G.leftsGo (G.U.take (k+1)) (-1)=if 0<=r.L/\r.L<=top+1/\G.ruleOK r=true then some (max top r.L) else aN:=by
 rw[Du,a];show G.leftsGo (_++[r]) _=_;rw[Gr.leftsGo_snoc,h];rfl
def lefts_bad{G:Gr}{k:Nat}(h:G.leftsGo (G.U.take k) (-1)=aN):G.leftsGo G.U (-1)=aN:=by
 rw[<-List.take_append_drop k G.U];exact G.leftsGo_none _ _ _ h
def cf_right1(s:ByteArray)(w:World):
 Calls prog 85 #[aS s] w λe w'=>e = aR (aB (!Xi (Zh s)))/\w=w':=by
 have c1:=lx_name s w;generalize Xi (Zh s)=p at *;have a:=LH c1;clear c1;go_enter func85,ntmps85;go_wp2_with (go_at_call 86;refine a.out.mono ?_;rintro e w'⟨rfl,rfl⟩);go_ret;exact⟨rfl,rfl⟩
def Zvy(p:Rul->List Bool->Bool)(a:List Rul)(N:List Bool):(Xs p a N).length=(Q N):=(Ng p a).len N
def Ad(p:Rul->List Bool->Bool)(a:List Rul)(N:List Bool):∀k,(Z3 (Xs p a) k N).length=(Q N)
 | 0=>rfl
 | k+1=>by rw[Z3,Zvy,Ad p a N k]
def LeB.refl(a:List Bool):LeB a a:=⟨rfl,λ_ h=>h⟩
def LeB.anti{a b:List Bool}(h:LeB a b)(k:LeB b a):a=b:=Zvh h.1 h.2 k.2
def F5(N:List Bool):∀(l:List Int),LeB N (Jz N l):=λl=>by
 induction l generalizing N with
 | nil=>exact LeB.refl N
 | cons s l a=>exact (LeB.set N s.toNat).trans (a _)
def Zwc(N:List Bool)(l:List Int):(Jz N l).length=(Q N):=(F5 N l).1.symm
def grew_set{a:List Bool}(h:LeB N a)(hi:i<(Q a)):L6 N (a.set i true)=(L6 N a || !a.getD i false):=by
 unfold L6;by_cases d:a=N
 ·subst d;cases b:a.getD i false
  ·have:a.set i true≠a:=λc=>by
    have:=congrArg (λl:List Bool=>l.getD i false) c;simp[AO,hi] at this b;rw[this] at b;cases b
   simp[this]
  have:a.set i true=a:=by
   rw[AO,AL hi] at b;have b:a[i]=true:=b;rw[<-b,List.set_getElem_self]
  simp[this]
 have:a.set i true≠N:=λc=>d ((LeB.anti h (by rw[<-c];exact LeB.set a i)).symm);simp[d,this]
def Bd(r:Rul)(N:List Bool):List Int:=if Xj false N r.rt then [r.L] else []
def Ztd(w:World)(t:TypeId)(x:Int):Za .i64 (w.alloc (aC #[aI aJ x] t)) (some ⟨w,0,aN⟩) 1 1 [x]:=by
 have:=Yl (Zt0 w t 1 [aI aJ x] rfl AA);exact this
def bD_set{C:Nat}{w:World}(h:Below C w w')(a:C<=w.heap.size)(g i:Nat)(v:Value)(b:C<=g):Below C w (w'.setCell ⟨g,i,aN⟩ v):=h.trans (Zn (Zd _ _ _ _) (BC a h.size) b)
def Bn(r:Rul)(N:List Bool):List Int:=if Xj true N r.rt then [r.L] else []
def Zxl{k:Nat}(h:ss[k]? = some s):Uq (ss.take (k+1))=if s<0 then Uq (ss.take k)++[-1-s] else Uq (ss.take k):=by
 unfold Uq;rw[Du,h];by_cases a:s<0
 ·simp[a,List.filter_append]
 simp[a,List.filter_append]
def allP_split{P:List Bool}{k:Nat}(a:ss[k]? = some s):Xj true P ss=(Xj true P (ss.take k)&&(Xj true P [s]&&Xj true P (ss.drop (k+1)))):=by
 have e:ss=ss.take k++([s]++ss.drop (k+1)):=by
  have c:=(AN.1 a).1;have b:ss.drop k=s::ss.drop (k+1):=by
   rw[Eb c];congr 1;exact (AN.1 a).2
  rw[List.singleton_append,<-b,List.take_append_drop]
 conv=>lhs;rw[e]
 unfold Xj;rw[List.all_append,List.all_append]
def Jg(f:Nat->Bool):∀n,Jb f n<4294967296
 | 0=>by simp[Jb]
 | n+1=>by
   rw[Mp];split
   ·exact Ct (Jg f n) (Ua _)
   exact Jg f n
def J5.done{S:List Nat}(c:InS S)(hi:i<(Q S)){R:Nat}(h:J5 S i R)(d:Qd S R (Wy R)=R):R=(Xu S).getD i 0:=by
 apply Nat.eq_of_testBit_eq;intro t;rw[Cc];refine⟨λa=>(h.2.2 t a).2,λa=>?_⟩;refine comes_in (S:=S) (λt=>R.testBit t=true) (λk g b t f=>?_) c hi (λt a=>h.2.1 t a) a;have:=Ma S t (Wy R) R;rw[d] at this;rw[this,Cs];right;rw[Eo];exact⟨k,(Zwo R k).2 ⟨Ztx h.1 b,b⟩,f⟩
def B8(S:List Nat)(use n:Nat)(b:List Bool):∀k,(Z3 (Dn S use n) k b).length=(Q b)
 | 0=>rfl
 | k+1=>by rw[Z3,(Zzg S use n).len,B8 S use n b k]
def Co(S:List Nat)(use n:Nat):∀k,(Y4 S use n k).2=Nm (Z3 (Dn S use n) k (List.replicate n false))
 | 0=>by
   apply Nat.eq_of_testBit_eq;intro t;unfold Nm;rw[J3];simp only[Y4,Z3,Nat.zero_testBit,Ee];by_cases h:t<n
   ·simp[h]
   ·simp[h]
 | k+1=>by
   have c:=Co S use n k;have d:=B8 S use n (List.replicate n false) k;rw[Ee] at d;rw[Nf,Z3];generalize Z3 (Dn S use n) k (List.replicate n false)=b at *;cases a:Qx (U2 S use (Y4 S use n k).2) n with
   | none =>
     rw[Ln a];unfold Dn;rw[<-c,a];exact c
   | some i =>
     rw[Ly a];have hi:=(Cj a).1;unfold Dn;rw[<-c,a];rw[thereOf_set AA,c]
def Zse(h:ts[j]? = some t):(V8 ts)[j*3+0]? = some (aS t.name)/\(V8 ts)[j*3+1]? = some (aI aJ t.V)/\(V8 ts)[j*3+2]? = some (aI aJ t.S):=by
 induction ts generalizing j with
 | nil=>simp at h
 | cons u ts d =>
   rw[show V8 (u::ts)=[aS u.name,aI aJ u.V,aI aJ u.S]++V8 ts from rfl];cases j with
   | zero=>simp at h;subst h;exact⟨rfl,rfl,rfl⟩
   | succ j =>
     simp at h;obtain⟨a,b,c⟩:=d h;have e:∀i,(j+1)*3+i=1*3+(j*3+i):=λi=>AA
     exact⟨by rw[e,Y7 rfl];exact a,by rw[e,Y7 rfl];exact b,by rw[e,Y7 rfl];exact c⟩
def Cr{w:World}{e:Nat}(h:w.ownsRow base e 3 (K A n c) n (V8 ts)):N8 w A n c ts:=by
 have f:(Q ts)=n:=by have:=h.1;rw[Ff] at this;omega
 rcases h.2 with ⟨l,rfl⟩ | ⟨g,cap,s,l,u,m,r,p,v,z⟩
 ·injection l with a d h3;subst a;subst h3;exact⟨f,AJ _,AA,λb=>absurd b AA⟩
 injection l with a d h3;subst a;subst h3;have k:g<w.heap.size:=by
  rcases BD g w with k | q
  ·exact k
  rw[CZ q] at m;cases m
 refine⟨f,r,by simpa [maxLen] using p,λy=>⟨g,0,rfl,k,λj t o=>?_⟩⟩;have x:j<n:=by rw[<-f];exact (AN.1 o).1
 obtain⟨b,a,d⟩:=Zse o;refine⟨?_,?_,?_⟩
 ·rw[BF,h.cellAt (j*3) AA];exact b
 ·rw[BF,h.cellAt (j*3+1) AA];exact a
 rw[BF,h.cellAt (j*3+2) AA];exact d
def Cn{w:World}{e:Nat}{s:Nat->Prop}{cs:List Value}{o:List Rul}(h:w.ownsRow base e 3 (K A n c) n cs)(p:Kz w s cs o):Dv w A n c o:=by
 have k:(Q o)=n:=by have:=h.1;have:=p.1;omega
 rcases h.2 with ⟨m,rfl⟩ | ⟨g,cap,y,m,z,q,x,u,B,E⟩
 ·injection m with a f b;subst a;subst b;exact⟨k,AJ _,AA,λd=>absurd d AA⟩
 injection m with a f b;subst a;subst b;have l:g<w.heap.size:=by
  rcases BD g w with l | v
  ·exact l
  rw[CZ v] at q;cases q
 refine⟨k,x,by simpa [maxLen] using u,λD=>⟨g,0,rfl,l,λj t r=>?_⟩⟩;have C:j<n:=by rw[<-k];exact (AN.1 r).1
 obtain⟨Ar,cr,d,a,f,b,_⟩:=p.2 j t r;refine⟨Ar,cr,?_,?_,?_,b⟩
 ·rw[BF,h.cellAt (j*3) AA];exact d
 ·rw[BF,h.cellAt (j*3+1) AA];exact a
 rw[BF,h.cellAt (j*3+2) AA];exact f
def Zzc(p:Rul->List Bool->Bool):∀(a:List Rul) {N:List Bool},Xs p a N=N->∀r∈a,Qa p r N=N
 | [],N,h,r,b=>by cases b
 | q::a,N,h,r,b=>by
   have c:=Qv.anti (f:=Qa p q) (g:=Xs p a) (N2 p q) (Ng p a) h;rcases BY.1 b with rfl | b
   ·exact c
   refine Zzc p a ?_ r b;have:Xs p a (Qa p q N)=N:=h;rwa [c] at this
def Wu(a:List Rul):List Nat:=a.foldl (λo r=>N3 o r.L.toNat) []
def Vs(a:List Rul)(r:Rul):Wu (a++[r])=N3 (Wu a) r.L.toNat:=by simp[Wu]
def Ka{b:List Rul}:i∈Wu b↔∃r∈b,r.L.toNat=i:=by
 induction b using K3 with
 | h0=>simp[Wu]
 | h1 b r c =>
   rw[Vs];unfold N3;simp only[DB,BO];split
   ·rename_i h;rw[c];constructor
    ·rintro⟨q,a,rfl⟩;exact⟨q,.inl a,rfl⟩
    rintro⟨q,a | rfl,rfl⟩
    ·exact⟨q,a,rfl⟩
    exact c.1 h
   rw[DB,c,BO];constructor
   ·rintro (⟨q,a,rfl⟩ | rfl)
    ·exact⟨q,.inl a,rfl⟩
    exact⟨r,.inr rfl,rfl⟩
   rintro⟨q,a | rfl,rfl⟩
   ·exact .inl ⟨q,a,rfl⟩
   exact .inr rfl
def Nh(a:List Rul):(Wu a).Nodup:=by
 induction a using K3 with
 | h0=>simp[Wu]
 | h1 a r b=>rw[Vs];exact putO_nodup b _
def Ky(P Q:List Bool)(r:Rul):Bool:=Q.getD r.L.toNat false&&Xj true P r.rt
def Xd(o:List Nat)(s:Int):Int:=if s<0 then -1-toI o (Zp s) else s
def Wb(o:List Nat)(r:Rul):Rul:=⟨toI o r.L.toNat,r.rt.map (Xd o),r.P⟩
def Mk(s:Int)(h:s<0->Zp s∈o):Xd o s<0↔s<0:=by
 unfold Xd;split
 ·rename_i h0;have:=h h0;have b:¬toI o (Zp s)<0:=λa=>Bx.1 a this;omega
 rfl
def G8(h0:s<0)(h:Zp s∈o):(Zp (Xd o s):Int)=toI o (Zp s):=by
 have b:¬toI o (Zp s)<0:=λa=>Bx.1 a h;show (((-1-Xd o s).toNat:Nat):Int)=_;unfold Xd;rw[if_pos h0];omega
def toI_part{b a:List Rul}(h:i∈Wu b):toI (Wu (b++a)) i=toI (Wu b) i:=by
 induction a using K3 with
 | h0=>rw[DJ]
 | h1 a q c =>
   rw[<-DW,Vs];unfold N3;split
   ·exact c
   rename_i g;rw[Zx2 _ (λd=>g (by rw[<-d];rw[Ka] at h ⊢;obtain⟨r,j,f⟩:=h;exact⟨r,List.mem_append_left _ j,f⟩)),c]
def PreO(S:List Nat)(use n:Nat)(a:List Nat × Nat):Prop:=a.2=My a.1/\∀p i,a.1[p]? = some i->i<n/\U2 S use (My (a.1.take p)) i=true
def thereL_bit:∀(l:List Nat) (t:Nat),(∀i∈l,i<32)->((My l).testBit t=true↔t∈l):=by
 intro l
 induction l using K3 with
 | h0=>intro t _;simp[My]
 | h1 l i b =>
   intro t h;rw[Zzd,DR,Cs,b t λj a=>h j (List.mem_append_left _ a),Uv,DB,BO];have:=h i AE;simp[this]
def Mo.tail{x:Nat}{t:List Nat}(h:Mo (x::t)):Mo t:=λys y a=>h (x::ys) y (by rw[a];rfl)
def val_inj(xs:List Nat):∀ys,Lim xs->Lim ys->Mo xs->Mo ys->val xs=val ys->xs=ys:=by
 induction xs with
 | nil=>intro ys _ _ _ ty h;exact (Fv ys ty (by simpa [val] using h.symm)).symm
 | cons x t d =>
   intro ys a b c ty h;cases ys with
   | nil=>exact Fv _ c (by simpa [val] using h)
   | cons y s =>
     have h1:=a.cons.1;have f:=b.cons.1;simp only[val] at h;have e:x=y:=AA
     subst e;rw[d s a.cons.2 b.cons.2 c.tail ty.tail AA]
def toL_set(hi:i∉o):(toL n o).set i ((Q o):Int)=toL n (o++[i]):=by
 refine List.ext_getElem? λj=>?_;rw[List.getElem?_set];by_cases b:j<n
 ·rw[Ji b,Cd,Ji b];split
  ·rename_i a;subst a;rw[if_pos b,Zsp hi]
  rename_i a;rw[Zx2 o (λh=>a h.symm)]
 have c:(toL n o)[j]? = aN:=BE (by rw[Cd];omega);have d:(toL n (o++[i]))[j]? = aN:=BE (by rw[Cd];omega);rw[c,d,Cd];split
 ·rename_i a;rw[if_neg AA]
 rfl
def D4{w:World}(h:N8 w A n c ts):(A=aN->n=0)/\∀f,A=some f->∀j u,(V8 ts)[j]? = some u->w.cell? (f.add j)=some u:=by
 constructor
 ·intro h0;rcases BW n with h1 | h1
  ·exact h1
  obtain⟨b,g,d,_⟩:=h.2.2.2 h1;rw[h0] at d;cases d
 intro f p j u a;have s:=(AN.1 a).1;rw[Ff,h.1] at s;obtain⟨b,g,d,_,r⟩:=h.2.2.2 AA;rw[p] at d;injection d with d;subst d;have k:ts[j / 3]? = some (ts[j / 3]'(by rw[h.1];omega)):=AL _;obtain⟨c0,c1,c2⟩:=r _ _ k;obtain⟨l,m,o⟩:=Zse k;have q:(⟨b,g,aN⟩:Addr).add j=⟨b,g+j,aN⟩:=by
  unfold Addr.add;split
  ·rename_i h0;subst h0;rfl
  rfl
 rw[q];rcases (AA:j=j / 3*3+0\/j=j / 3*3+1\/j=j / 3*3+2) with e | e | e
 ·rw[e] at a;rw[l] at a;rw[<-BM a,<-c0];congr 2;omega
 ·rw[e] at a;rw[m] at a;rw[<-BM a,<-c1];congr 2;omega
 rw[e] at a;rw[o] at a;rw[<-BM a,<-c2];congr 2;omega
def nums_zeros(n:Nat):nums .i64 (List.replicate n 0)=ints .i64 (List.replicate n 0):=by simp[nums,ints]
def make_intsT(n:Nat)(a:n<=1000)(w:World):
 (Instr.makeSlice 30 (aI aJ (n:Int)) (aI aJ (n:Int))).run prog w = .ok (K (some ⟨w,0,aN⟩) n n) (w.alloc (aC (ints .i64 (List.replicate n 0)).toArray 3)):=by
 rw[<-nums_zeros];exact Wm (P:=prog) 30 3 .i64 8 underlying30 Tryz.infoInt n AA AA w
def fill_step(a:j<n):(Nb n j).set j (-1)=Nb n (j+1):=by
 unfold Nb;rw[List.set_append_right _ _ AE,Ee,Nat.sub_self];obtain⟨d,hd⟩:∃d,n-j=d+1:=⟨n-j-1,AA⟩;rw[hd,List.replicate_succ,List.set_cons_zero,show n-(j+1)=d by omega,List.replicate_succ',DW];rfl
def mems_get{R:Nat}(h:(Z6 (Wy R))[p]? = some s):∃k:Nat,s=(k:Int)/\(Wy R)[p]? = some k:=by
 unfold Z6 at h;rw[BB] at h;cases a:(Wy R)[p]? with
 | none=>rw[a] at h;cases h
 | some k=>rw[a] at h;exact⟨k,by injection h with h;exact h.symm,rfl⟩
open Go.Lib Go.Sort in
def over_bare{w:World}{a g:Nat}(h:Zwl w a g n N)(l:a<w.heap.size)(d:g<w.heap.size)(j:n<=1000){b:Nat}(c size:Nat)(m:a≠b)(f:g≠b):
 PredOver prog 199 #[aP (some ⟨a,0,aN⟩)] (encB n) (λs=>Xg N s.1) b c size w :=
 λk os o x _=>Zsz a g n N x.1 _ ⟨by
  unfold sortWorld
  rw[cell?_grow _ _ _ (by show a<(putRow _ _ _ _ _).heap.size;rw[size_putRow];exact l),cell?_putRow_other _ _ b c _ _ (Or.inl m)]
  exact h.1,λi hi=>by
  unfold sortWorld;rw[cell?_grow _ _ _ (by show g<(putRow _ _ _ _ _).heap.size;rw[size_putRow];exact d),cell?_putRow_other _ _ b c _ _ (Or.inl f)];exact h.2 i hi⟩ j x.2.1 x.2.2
def InG(G:Gr)(l:List Int):Prop:=∀s∈l,s<0->Zp s<G.O.length
def InG.rule{G:Gr}(a:G.Fits){x:Rul}(c:x∈G.U):InG G x.rt:=λq b h0=>by
 have:=a.sym x c q b;unfold Zp;omega
def bare_map(N:List Bool)(ds:List (Sb n)):(ds.filter λx=>!Xg N x.1).map (λs=>s.1)=Vo N (ds.map λs=>s.1):=by
 unfold Vo;rw[List.filter_map];rfl
def Zz9(xs:List Nat):Nat:=if Zm xs then bitLen (val xs) else 0
def Be(k:IntKind)(xs:List Nat)(j x:Nat):nums k (xs.set j x)=(nums k xs).set j (aI k (x:Int)):=by simp[nums,List.map_set]
def SubRel(w:World)(A:Option Addr)(n c:Nat)(xs a:List Nat)(b i:Value)(wr:World):Prop :=
 ∃k:Nat,k<=n/\i = aI aJ (k:Int)/\b = aI .u32 ((Xn xs a k).2:Int) /\
  wr.ownsRow w.heap.size 41 1 (K A n c) n (nums .u32 ((Xn xs a k).1++xs.drop k))/\Below w.heap.size w wr
@[irreducible] def RetTake (w:World) (xs d:List Nat) (e:Ending) (w':World):Prop :=
  ∃(A:Option Addr) (c:Nat),e = aR (.tuple #[K A (Xx (Xn xs d xs.length).1).length c,aB (decide ((Xn xs d xs.length).2=0/\d.length<=xs.length))]) /\
   Zq .u32 w' A (Xx (Xn xs d xs.length).1).length c (Xx (Xn xs d xs.length).1)/\Below w.heap.size w w'/\(∀b a,A=some ⟨b,a,none⟩->w.heap.size<=b)
def Do.other{b:Nat->Bool}{u:Nat->Value}{c:Value}(h:Do b u p c)(i:Nat)(v:Value)(hi:p≠i):Do (Mz b i) (upd u i v) p c:=λa=>by
 rw[Ys hi] at a;rw[Yj hi];exact h a
def Do.done{b:Nat->Bool}{u:Nat->Value}{c:Value}(h:Do b u p c)(i:Nat)(v:Value):Do (Mz b p) (upd u p v) p c:=λa=>by
 rw[Ztw] at a;cases a
def Do.still{l:List Oper}{N:World->Prop}{a:Value}(h:p≠i):∀(g:Unit) (b:Nat->Bool) (u:Nat->Value) (X:World) (w:Value),G9 l b->b i=false->N X/\Do b u p a->N X/\Do (Mz b i) (upd u i w) p a:=λ_ _ _ _ w _ _ d=>⟨d.1,d.2.other i w h⟩
def badU(G:Gr)(n:Int)(a:List Nat):Prop:=G.rt=false\/n<0\/10<n\/Zm a=false
def Zrs(xs:List Nat):Nat:=Zz9 (Mw xs (Zq3 1)).1
def B9(xs:List Nat):Nat:=(Zrs xs+31) / 32
def Zqf(xs:List Nat)(h:B9 xs≠0):32*(B9 xs-1)<Zrs xs/\Zrs xs<=32*B9 xs:=by
 unfold B9 at *;omega
def nobad24{a:List Nat}(h:Zm a=true):¬badU Xt 4 a:=by
 rintro (x | x | x | x)
 ·rw[Zxf] at x;cases x
 ·omega
 ·omega
 rw[h] at x;cases x
structure Zrk (w:World) (B:Nat) (A:Option Addr) (n c:Nat) (vs:List Value) (xss:List (List Nat)):Prop where
 own:w.ownsRow B 30 1 (K A n c) n vs
 noInt:∀g,(K A n c).ownBlock=some g->Qf w g
 len:xss.length=n
 row:∀(j:Nat) xs,xss[j]? = some xs->∃Aj cj,vs[j]? = some (K Aj xs.length cj)/\Za .i64 w Aj xs.length cj (Zrc xs)
def Zrn(w:World)(A:Option Addr)(n c:Nat)(g:List (List Nat)):Prop :=
 g.length=n/\n<=c/\c<=9223372036854775807/\(0<n->∃b f,A=some ⟨b,f,none⟩/\b<w.heap.size/\∀(j:Nat) xs,g[j]? = some xs->∃a d,w.cell? ⟨b,f+j,none⟩=some (K a xs.length d)/\Za .i64 w a xs.length d (Zrc xs))
def BoxAt(W X:World)(b:Nat->Bool)(u:Nat->Value)(p:Qr):Prop:=b p.ia=true->∃g a,u p.ia = aP (some ⟨g,0,none⟩)/\W.heap.size<=g/\Blk X g p.ty a/\((b p.is=false/\a=p.z)\/(b p.is=true/\u p.ic = aG a))
structure VMs (W:World) (L:List Qr) (b:Nat->Bool) (u:Nat->Value) (X:World):Prop where
 below:Below W.heap.size W X
 at_:∀p∈L,BoxAt W X b u p
 apart:∀p∈L,∀q∈L,p.ia≠q.ia->b p.ia=true->b q.ia=true->u p.ia≠u q.ia
section
variable {P:Program} {w:World}
def Zxz{rest:List Oper}{o:Oper}{a:Act}{Q:Exit->Act->World->Prop}(S:o.guard=aN)(s x:Operand)(t:TypeId)(W:o.op = .call { callee := .builtin .append,args:=#[s,x],argTypes:=#[t,t] })(base:Nat)(e:TypeId)(z:Value)(bytes:Nat)(E:P.underlying t=some (.slice e))(hi:(P.info? e).map (λi=>(i.zero,i.size,i.bytes))=some (some z,1,bytes))(ae:z.cells.size=1)(A:Option Addr)(n c:Nat)(xs:List Value)(Y:a.eval s = K A n c)(B:w.ownsRow base e 1 (K A n c) n xs)(q:Option Addr)(m c2:Nat)(d:List Value)(hx:a.eval x = K q m c2)(k:Sl w q m c2 d)(G:∀u∈d,u.oneCell'=true)(I:n+m<=9223372036854775807)(N:(n+m)*bytes<=140737488355328)(L:base<=w.heap.size)(h:∀p r w',w'.ownsRow base e 1 (K p (n+m) r) (n+m) (xs++d)->w.grownBy w' (K A n c).ownBlock->
   wpList P ops Q rest (a.put o.dst (K p (n+m) r)) w'):wpList P ops Q (o::rest) a w:=by
 obtain⟨i,D,hz,Z,M⟩:=info_parts hi;have key:∃l w',(Builtin.append_ #[t,t] o.type #[K A n c,K q m c2]).run P w = .ok l w'/\w'.ownsRow base e 1 l (n+m) (xs++d)/\w.grownBy w' (K A n c).ownBlock:=by
  rcases q with _ | C
  ·have U:m=0:=by
    rcases BW m with f | f
    ·exact f
    obtain⟨b,af,g,_⟩:=k.2.2.2 (by rw[k.1];exact f);cases g
   subst U;have V:=BH k.1;subst V;exact⟨_,w,Gz base t o.type e i E D A n c xs B c2,by simpa using B,⟨rfl,rfl,rfl,AJ _,λ_ _ _=>rfl⟩⟩
  have R:∀j u,d[j]? = some u->w.cell? (C.add j)=some u:=by
   intro j u F;have T:j<(aQ d):=(AN.1 F).1;obtain⟨b,af,g,_,O⟩:=k.2.2.2 AA;injection g with g;subst g;have:=O j T;rw[F] at this;unfold Addr.add;split
   ·rename_i f;subst f;simpa using this
   exact this
  obtain⟨l,w',v,y,H,_⟩:=run_append_own (P:=P) w base t o.type e i z 1 bytes E D hz Z M ae AC _ n xs B C m c2 d (by rw[k.1,Eh]) R G (by simpa [maxLen] using I) N L;exact⟨l,w',v,y,H⟩
 obtain⟨l,w',X,v,y⟩:=key;obtain⟨p,r,rfl⟩:=M3 v;refine wpList_plain S λK J=>?_;unfold Oper.wp execOp;simp only[W,resolve,invoke,builtin,Sem.run_bind,Sem.run_pure,Result.andThen_ok,List.map_toArray,CU,List.map_nil,Y,hx,X];exact J _ _ (h p r w' v y)
def Vc{rest:List Oper}{o:Oper}{a:Act}{Q:Exit->Act->World->Prop}(v:o.guard=aN)(s x:Operand)(t:TypeId)(B:o.op = .call { callee := .builtin .append,args:=#[s,x],argTypes:=#[t,t] })(base:Nat)(e:TypeId)(z:Value)(bytes:Nat)(E:P.underlying t=some (.slice e))(hi:(P.info? e).map (λi=>(i.zero,i.size,i.bytes))=some (some z,1,bytes))(G:z.cells.size=1)(A:Option Addr)(n c:Nat)(xs:List Value)(D:a.eval s = K A n c)(C:w.ownsRow base e 1 (K A n c) n xs)(u:Value)(F:a.eval x = K (some ⟨w,0,aN⟩) 1 1)(m:u.oneCell'=true)(q:n+1<=9223372036854775807)(r:(n+1)*bytes<=140737488355328)(H:base<=w.heap.size)(h:∀f g w',w'.ownsRow base e 1 (K f (n+1) g) (n+1) (xs++[u])->w.grownBy w' (K A n c).ownBlock->
   wpList P ops Q rest (a.put o.dst (K f (n+1) g)) w'):wpList P ops Q (o::rest) a (w.alloc (aC #[u] e)):=by
 have y:=World.ownsRow_lit (base:=w.heap.size) (e:=e) (size:=1) w #[u] 1 (AJ _) (by simp[maxLen]) AE;refine Zxz v s x t B base e z bytes E hi G A n c xs D (C.alloc _) _ 1 1 [u] F (Yl y) (by simpa using m) q r AG λf g w' p d=>?_;refine h f g w' p ?_;have b:w.grownBy (w.alloc (aC #[u] e)) (K A n c).ownBlock:=World.grownBy_alloc _ _ _;refine⟨d.os.trans b.os,d.tape.trans b.tape,d.output.trans b.output,BC b.size d.size,λk j l=>?_⟩;exact (d.block k (AK j b.size) l).trans (b.block k j l)
end
section
open Go.ChangeShapes Go.WideShapes Go.ChangeAt Go.RowKit
open Ieee
def Ux{P:Program}(w:World)(src e f:TypeId)(l:P.underlying src=some (.slice e))(g:P.underlying e=some (.int .u8))(hd:P.underlying f=some .string)(A:Option Addr)(c:Nat)(a:List Nat)(h:Zq .u8 w A (Q a) c a):(convert src f (K A (Q a) c)).run P w = .ok (aS (str a)) w:=by
 have n:strOfNums (a.map λ(x:Nat)=>(x:Int))=str a:=by simp[strOfNums,str,Function.comp_def]
 rcases A with _ | m
 ·have d:(Q a)=0:=by
   rcases BW (Q a) with d | d
   ·exact d
   obtain⟨b,j,g,_⟩:=h.at_ d;cases g
  obtain rfl:=BH d;exact run_convert_bytes_nil w src e l g _ _ f hd
 by_cases d:0<(Q a)
 ·obtain⟨b,j,k,_,o⟩:=h.at_ d;injection k with k;subst k;rw[run_convert_bytes_arg w src e l g b j (Q a) c (a.map λ(x:Nat)=>(x:Int)) AE (λi hi=>by
   rw[o i hi];simp[AL hi]) f hd,n]
 obtain rfl:=BH (show (Q a)=0 by omega);obtain⟨b,j,p⟩:=m;simp only[DE];rw[run_convert_bytes_string w src f e _ _ _ l g hd,run_bytesToString w ⟨b,j,p⟩ 0 c [] (by simp[loadCells,loadCellsFrom])];rfl
def Vd(l:List Nat)(h:∀c∈l,c<256):Zh (str l)=l:=by
 simp only[Zh,str,List.map_map]
 conv=>rhs;rw[<-List.map_id l]
 apply List.map_congr_left;intro c a;have:=h c a;simp only[Function.comp,id,UInt8.toNat_ofNat'];omega
def Zs1(l:List Nat):(str l).size=(Q l):=by
 show (str l).data.size=_;simp[str]
end
section
open Go.RowKit Go.Shelf
attribute [local go_sem] Oper.semAt_some
open Go.RowKit Go.Shelf Go.Sort
def RetSorted(w:World)(a:List ByteArray)(e:Ending)(w':World):Prop :=
 Below w.heap.size w w'/\((a=[]/\e = aR (K none 0 0)) \/
  ∃g cap,e = aR (K (some ⟨g,0,none⟩) a.length cap)/\w.heap.size<=g/\g<w'.heap.size/\a.length<=cap/\Holds encStr w' g 0 ((byL a).mergeSort λx y=>decide (x<=y)).toArray)
def Zxg(s:ByteArray)(w:World):
 Calls prog 113 #[aS s] w λe w'=>e = aR (aB (Q7 s))/\w=w':=by
 have c1:=Zx8 s w;have c2:=Gb s w;unfold Q7;generalize Xi (Zh s)=p at *;generalize H5 (Zh s)=q at *;have a:=LH c1;have b:=LH c2;clear c1 c2;cases p;all_goals
  go_enter func113,ntmps113;go_wp2_with (first
   | (go_at_call 116;refine a.out.mono ?_;rintro e w'⟨rfl,rfl⟩)
   | (go_at_call 169;refine b.out.mono ?_;rintro e w'⟨rfl,rfl⟩))
  go_ret;exact⟨rfl,rfl⟩
end
section
open Go.RowKit Go.Maps
def Ways.zero{p:List Trm}(h:Ways D p)(b:t.V=0):Ways D (p++[t]) :=
 ⟨h.tidy,λL a=>by rw[h.at_ L a,Nx,if_neg AA],λL a=>by rw[h.has_ L a,Kf,show decide (t.V=L)=false from by simp;omega,Bool.or_false],by rw[h.size_,cntL_zero p t b]⟩
theorem Ways.more{p:List Trm}(h:Ways D p)(d:1<=t.V)(f:t.V<=24):Ways (D.put (.int .i64 t.V) (.lit (.int .i64 t.S))) (p++[t]):=by
 refine⟨h.tidy.put (Zud _) _,λL c=>?_,λL c=>?_,?_⟩
 ·rw[Nx];by_cases b:t.V=L
  ·subst b;rw[if_pos rfl,atKey_put_same h.tidy.isMap (Zud _)]
  rw[if_neg b,atKey_put_other (by intro a;injection a with _ a;exact b a.symm),h.at_ L c]
 ·rw[Kf];by_cases b:t.V=L
  ·subst b;rw[has_put_same h.tidy.isMap (Zud _)];simp
  rw[has_put_other (by intro a;injection a with _ a;exact b a.symm),h.has_ L c];simp[b]
 rw[size_put h.tidy,h.has_ _ d,h.size_,cntL_snoc p t d f]
def Gr.aheadP(G:Gr):Bool:=H0 G.T&&Yb G.O.length 1 16&&Yb G.U.length 1 40&&decide G.names.Nodup&&Yb G.zt 0 ((G.O.length:Int)-1)
def Gr.rightP(G:Gr):Bool:=G.aheadP&&!(G.O.any λs=>!Xi (Zh s))&&decide (G.leftsGo G.U (-1)=some ((G.O.length:Int)-1))
def right_same(G:Gr):G.rightP=G.rt:=by
 rw[Cc];unfold Gr.rightP Gr.rt Gr.aheadP Gr.termsOK Gr.nonsOK H0 Yb;simp only[AS,decide_eq_true_eq,BG,names_nodup,allI_iff,Gr.termOK,Gr.nonOK,Bool.not_eq_true',List.any_eq_false,Bool.not_eq_true,Bool.not_eq_false'];constructor
 ·rintro⟨⟨⟨⟨⟨⟨⟨f,c,h⟩,g⟩,o⟩,k,l⟩,q⟩,p⟩,n⟩;rw[Zzf _ f,BG] at h;exact⟨⟨⟨⟨⟨c,λj t a=>⟨⟨l j t a,f t (AM a)⟩,h t (AM a)⟩⟩,AA,λj s b=>⟨⟨by simpa using p s (AM b),(k j s b).1⟩,(k j s b).2⟩⟩,AA⟩,AA⟩,n⟩
 rintro⟨⟨⟨⟨⟨f,c⟩,h,g⟩,o⟩,k⟩,l⟩;have m:∀t∈G.T,Up t=true:=λt a=>by
  obtain⟨j,d⟩:=BQ a;exact (c j t d).1.2
 refine⟨⟨⟨⟨⟨⟨⟨m,f,?_⟩,AA⟩,AA⟩,λi s b=>⟨(g i s b).1.2,(g i s b).2⟩,λi t a=>(c i t a).1.1⟩,AA⟩,λs b=>?_⟩,l⟩
 ·rw[Zzf _ m,BG];intro t a;obtain⟨j,d⟩:=BQ a;exact (c j t d).2
 obtain⟨j,d⟩:=BQ b;simpa using (g j s d).1.1
def Tryz.infoStr:(prog.info? 9).map (λi=>(i.zero,i.size,i.bytes))=some (some (aS ByteArray.empty),1,16):=AB
def leftsP_bad(G:Gr){k:Nat}{r:Rul}{T:Int}(j:G.U[k]? = some r)(h:G.leftsGo (G.U.take k) (-1)=some T)(d:(Yb r.L 0 (T+1)&&G.ruleOK r)=false):G.rightP=false:=by
 have g:G.leftsGo (G.U.take (k+1)) (-1)=aN:=by
  rw[Du,j,Option.toList_some,Gr.leftsGo_snoc,h];simp only[Option.bind_some];rw[if_neg];rintro⟨a,b,c⟩;rw[c] at d;unfold Yb at d;simp[a,b] at d
 have f:=Gr.leftsGo_none G (G.U.take (k+1)) (G.U.drop (k+1)) (-1) g;rw[List.take_append_drop] at f;unfold Gr.rightP;rw[f];simp
def leftsP_good(G:Gr){k:Nat}{r:Rul}{T:Int}(c:G.U[k]? = some r)(h:G.leftsGo (G.U.take k) (-1)=some T)(a:Yb r.L 0 (T+1)=true)(b:G.ruleOK r=true):G.leftsGo (G.U.take (k+1)) (-1)=some (max T r.L):=by
 rw[Du,c,Option.toList_some,Gr.leftsGo_snoc,h];simp only[Option.bind_some];have:=Ud a;rw[if_pos ⟨this.1,this.2,b⟩]
def Blk.frozen{w:World}{g:Nat}{t:TypeId}(h:Blk w g t cs)(i:Nat):w.frozen? ⟨g,i,aN⟩=false:=by
 unfold Blk at h;simp[World.frozen?,h]
def Zg{w:World}(h:Below w w w')(g i:Nat)(v:Value)(a:w.heap.size<=g):Below w w (w'.setCell ⟨g,i,aN⟩ v):=h.trans (Zn (Zd _ _ _ _) h.size a)
def Tryz.infoBool:(prog.info? 4).map (λi=>(i.zero,i.size,i.bytes))=some (some (aB false),1,1):=AB
end
def Tryz.infoI64C:(prog.info? 3).map (λi=>(i.zero,i.size,i.bytes))=some (some (aI aJ 0),1,8):=AB
section
variable {P:Program}
def Zvw(ops:Array Oper):Bool:=(List.range ops.size).all λi=>((ops[i]?).map λo=>o.after.all λe=>decide (e.on<i)).getD true
def F6(hi:i<n)(b:listed.getD i true=false):leftN n (listed.setIfInBounds i true)<leftN n listed:=by
 unfold leftN;have c:i<listed.size:=by
  rcases BD i listed.size with h | h
  ·exact h
  simp[Array.getD,Nat.not_lt.2 h] at b
 have e:((List.range n).filter λj=>!(listed.setIfInBounds i true).getD j true)=(((List.range n).filter λj=>!listed.getD j true).filter λj=>decide (j≠i)):=by
  rw[List.filter_filter];apply List.filter_congr;intro j _;by_cases a:i=j
  ·subst a;simp[Array.getD,c]
  rw[getD_set_ne true a];simp[Ne.symm a]
 rw[e,List.length_filter_lt_length_iff_exists];exact⟨i,List.mem_filter.2 ⟨BP.2 hi,by simp[b]⟩,AE⟩
def Zwd(f:Zvw ops=true)(h:Region.ready .any ops listed=[]):∀i,i<ops.size->listed.getD i true=true:=by
 intro i
 induction i using Nat.strongRecOn with
 | ind i k =>
   intro hi;cases b:listed.getD i true with
   | true=>rfl
   | false =>
     exfalso;have a:i∈Region.ready .any ops listed:=by
      refine mem_ready.2 ⟨b,ops[i],Array.getElem?_eq_getElem hi,λe g _=>?_⟩;have h1:=BG.1 f i (BP.2 hi);rw[Array.getElem?_eq_getElem hi,Ei,Option.getD_some,Array.all_eq_true_iff_forall_mem] at h1;have c:=El (h1 e g);have d:=k e.on c AA;have l:i<listed.size:=by
       rcases BD i listed.size with h | h
       ·exact h
       simp[Array.getD,Nat.not_lt.2 h] at b
      have j:e.on<listed.size:=AA
      simpa [Array.getD,j] using d
     rw[h] at a;cases a
end
section
open Go.Maps (Keyed IsMap Tidy)
def toI_more(a:j∉o)(h:i≠j):toI (o++[j]) i=toI o i:=by
 have e:=toL_set (n:=i+j+1) (o:=o) (i:=j) a;have h1:=Ji (n:=i+j+1) (o:=o++[j]) (i:=i) AA;rw[<-e,List.getElem?_set_ne AA,Ji AA] at h1;exact (BM h1).symm
def Fy(n:Nat):(zeroCells n).size=n*2:=by
 unfold zeroCells;simp only[List.size_toArray]
 induction n with
 | zero=>rfl
 | succ n a=>rw[DP,List.flatMap_append,AU,a];simp;omega
def AddRel(w:World)(xs ys:List Nat)(n:Nat)(B:Nat)(c i:Value)(wr:World):Prop :=
 ∃k:Nat,k<=n/\i = aI aJ (k:Int)/\c = aI .u32 ((V4 xs ys k).2:Int)/\Own wr B 41 .u32 ((V4 xs ys k).1++List.replicate (n+1-k) 0)/\Below B w wr
def RAddRel(w:World)(xs ys:List Nat)(o c i:Value)(wr:World):Prop :=
 ∃(k:Nat) (A:Option Addr) (a:Nat),k<=33/\i = aI aJ (k:Int)/\c = aI .u64 ((V4 xs ys k).2:Int)/\o = K A k a /\
  wr.ownsRow w.heap.size 41 1 (K A k a) k (nums .u32 (V4 xs ys k).1)/\Below w.heap.size w wr
def Tryz.keyKT:Keyed prog 257:=Keyed.of_law (deep_law_laid Tryz.laidOut (m:=2) AA Tryz.rowKT AB Tryz.wideKT)
def Tryz.keyKF:Keyed prog 261:=Keyed.of_law (deep_law_laid Tryz.laidOut (m:=2) AA Tryz.rowKF AB Tryz.wideKF)
end
section
variable {P:Program} {M:World->Prop} {R:World->World->Prop}
def JF(l:List Oper)(n:Nat)(M:World->Prop)(F:(Nat->Value)->Act)(D:Nat->Value->World->Prop)(fin:(Nat->Value)->World->Prop)(listed:Array Bool)(a:Act)(X:World):Prop :=
 ∃u,a=F u/\listed.size=l.length/\(∀i o,l[i]? = some o->listed.getD i false=true->∀p,onB o p=true->listed.getD p false=true) /\
  (∀i,i≠n->listed.getD i false=true->listed.getD n false=false->D i (u i) X)/\(listed.getD n false=false->M X)/\(listed.getD n false=true->fin u X)
def Uj(hi:i<listed.size):(listed.setIfInBounds i true).getD j false=if j=i then true else listed.getD j false:=by
 by_cases h:j=i
 ·subst h;rw[if_pos rfl];simp[Array.getD,hi]
 rw[if_neg h,Array.getD_eq_getD_getElem?,Array.getD_eq_getD_getElem?,Array.getElem?_setIfInBounds_ne (Ne.symm h)]
def Zu4(h:listed.getD i true=false):i<listed.size/\listed.getD i false=false:=by
 simp only[Array.getD] at h ⊢;split at h
 ·rename_i hi;exact⟨hi,by rw[dif_pos hi];exact h⟩
 cases h
def D9{l:List Oper}(c:∀i o,l[i]? = some o->listed.getD i false=true->∀p,onB o p=true->listed.getD p false=true):
 ∀(f j i:Nat),ancF l f j i=true->listed.getD j false=true->listed.getD i false=true
 | 0,_,_,h,_=>by cases h
 | f+1,j,i,h,hj=>by
   unfold ancF at h;cases b:l[j]? with
   | none=>rw[b] at h;cases h
   | some o =>
     rw[b] at h;simp only[Array.any_eq_true] at h;obtain⟨k,g,h⟩:=h;rw[AS,Cs,BA] at h;have d:=c j o b hj _ (Zyf.2 ⟨_,Array.getElem_mem g,h.1,rfl⟩);rcases h.2 with a | a
     ·rw[<-a];exact d
     exact D9 c f _ i a d
end
section
open Ieee
def Own.drew{w:World}{g:Nat}{t:TypeId}{k:IntKind}{a:List Nat}(h:Own w g t k a):Own w.drew g t k a:=h
def Zq.drew{k:IntKind}{w:World}(h:Zq k w A n c xs):Zq k w.drew A n c xs:=h
def Y0(G:Gr):Nat->WSt->Int->Option (WSt × Nat)
 | 0,_,_=>none
 | q+1,st,non =>
   match st.rest with
   | []=>none
   | i::rest =>
     match Ur G i with
     | none=>none
     | some r =>
       if r.L=non then
        (Wt (Y0 G q) r.rt { st with rest:=rest } 0).map λx=>({ x.1 with posts:=x.1.posts++[i] },x.2+1)
       else none
def B3{G:Gr}(h:a.rest=[]):Y0 G q a non=aN:=by
 cases q with
 | zero=>rfl
 | succ q =>
   unfold Y0;rw[h]
def Fd{G:Gr}{i:Int}(h:a.rest=i::rest)(b:∀r,Ur G i=some r->r.L≠non):Y0 G (q+1) a non=aN:=by
 unfold Y0;rw[h];simp only;split
 ·rfl
 rename_i r c;rw[if_neg (b r c)]
def Zwq{G:Gr}{i:Int}(h:a.rest=i::rest)(c:Ur G i=some r)(b:r.L=non):
 Y0 G (q+1) a non=(Wt (Y0 G q) r.rt { a with rest:=rest } 0).map λx=>({ x.1 with posts:=x.1.posts++[i] },x.2+1):=by
 rw[Y0,h];simp only;rw[c];simp only;rw[if_pos b]
end
section
open Ieee
open Go.Maps (Keyed IsMap Tidy)
def Tryz.keyKB:Keyed prog 220:=Keyed.of_law (deep_law_laid Tryz.laidOut (m:=2) AA Tryz.rowKB AB Tryz.wideKB)
def codeB:Value->Nat
 | aG cs=>(match cs.getD 0 undef with | aS t=>Ds (Zh t) | _=>0)*1000+(intOf (cs.getD 1 undef)).toNat
 | _=>0
def Zx6(h:Zwx l)(n:Nat):codeB (kB l n)=Ds (Vr l)*1000+n:=by
 show Ds (Zh (str (Vr l)))*1000+n=_;rw[Vd _ λc a=>by have:=Dy h c a;omega]
def lefts_range(G:Gr):∀(a:List Rul) (t:Int),G.leftsGo a (-1)=some t->Wu a=List.range (t+1).toNat:=by
 intro a
 induction a using K3 with
 | h0=>intro t h;simp[Gr.leftsGo] at h;subst h;rfl
 | h1 a r f =>
   intro t h;rw[Gr.leftsGo_snoc] at h;cases b:G.leftsGo a (-1) with
   | none=>rw[b] at h;cases h
   | some l =>
     rw[b,Option.bind_some] at h;have g:=G.leftsGo_bd a (-1) l AA b;split at h
     ·rename_i j;have e:=BM h;rw[Vs,f l b];unfold N3;by_cases k:r.L<=l
      ·rw[if_pos (by rw[BP];omega)];congr 1;omega
      rw[if_neg (by rw[BP];omega)];have c:r.L=l+1:=AA
      have d:(t+1).toNat=(l+1).toNat+1:=AA
      rw[d,DP,c]
     cases h
end
section
open Go.Maps (Keyed IsMap Tidy)
variable {P:Program} {Γ:Type} {R:World->World->Prop}
def JG(l:List Oper)(M:Γ->(Nat->Bool)->(Nat->Value)->World->Prop)(F:(Nat->Value)->Act)(D:Nat->Value->World->Prop)(listed:Array Bool)(a:Act)(X:World):Prop :=
 ∃u g,a=F u/\listed.size=l.length/\G9 l (λi=>listed.getD i false)/\M g (λi=>listed.getD i false) u X/\(∀i,listed.getD i false=true->D i (u i) X)
end
section
open Go.Maps (Keyed IsMap Tidy)
variable {W0:World} {k:BkH} {h:GH} {G:Gr} {S':Nat->Prop} {w:World} {gR:Nat} {b:Nat->Bool} {u:Nat->Value} {X:World}
def Zu(w w':World):Prop:=w.heap.size<=w'.heap.size/\∀b,b<w.heap.size->(∃o z,w.cell? ⟨b,o,none⟩=some (aI .u32 z))->w'.heap[b]? = w.heap[b]?
def Zu.of_int{w:World}(h:Zf w w'):Zu w w':=⟨h.1,λb a ⟨o,z,c⟩=>h.2 b a ⟨o,.u32,z,c⟩⟩
def M4(w:World)(base:Nat)(A:Option Addr)(n c:Nat)(xs:List Int):Prop :=
 w.ownsRow base 3 1 (K A n c) n (ints .i64 xs)/\∀g,(K A n c).ownBlock=some g->∀(o:Nat) (v:Value),w.cell? ⟨g,o,none⟩=some v->∃z,v = aI aJ z
def M4.no32{w:World}{xs:List Int}(h:M4 w base A n c xs):∀g,(K A n c).ownBlock=some g->∀o z,w.cell? ⟨g,o,aN⟩≠some (aI .u32 z):=λg b o z a=>by
 obtain⟨y,d⟩:=h.2 g b o _ a;cases d
def Xy(T:Int->Nat->Nat)(s:Int)(l:List Int)(n k:Nat):Yv T s l n (k+1)=Yv T s l n k+T s k*Zx T l (n-k):=Nr (λj=>T s j*Zx T l (n-j)) k
def Jn(T:Int->Nat->Nat)(s:Int)(l:List Int)(n:Nat):Yv T s l n (n+1)=Zx T (s::l) n:=rfl
def Wz(T:Int->Nat->Nat)(s:Int)(l:List Int)(n:Nat){k a:Nat}(h:k<=a):Yv T s l n k<=Yv T s l n a:=by
 obtain⟨d,rfl⟩:=Nat.exists_eq_add_of_le h
 induction d with
 | zero=>exact AJ _
 | succ d b=>rw[<-DY,Xy];exact BC (b (DC _ _)) (DC _ _)
def InG.tail{G:Gr}(h:InG G (s::l)):InG G l:=λq a=>h q (BN _ a)
def Lc{a T F r:Nat}(h1:a+q<T)(b:r<F):(a+q)*F+r<T*F :=
 AK (Nat.add_lt_add_left b _) (by rw[<-Nat.succ_mul];exact Es _ h1)
def ahead_one{k v f:Nat}(h1:v<T s k*Zx T l (n-k))(g:f<T s c*Zx T l (n-c))(h:Yv T s l n k+v=Yv T s l n c+f):k=c/\v=f:=by
 have a:=Xy T s l n k;have b:=Xy T s l n c;rcases Nat.lt_trichotomy k c with d | rfl | d
 ·have:=Wz T s l n (show k+1<=c from d);omega
 ·exact⟨rfl,AA⟩
 have:=Wz T s l n (show c+1<=k from d);omega
def Zwn{r:Nat}:∀{m:Nat},r<Yv T s l n m->∃k v,k<m/\r=Yv T s l n k+v/\v<T s k*Zx T l (n-k)
 | 0,h=>absurd h (Nat.not_lt_zero _)
 | m+1,h=>by
   by_cases b:r<Yv T s l n m
   ·obtain⟨k,v,c,h1,a⟩:=Zwn b;exact⟨k,v,AA,h1,a⟩
   rw[Xy] at h;exact⟨m,r-Yv T s l n m,AA,AA,AA⟩
end
def Zxk{k:Nat}(j:k<=n)(m:q<T s k)(d:c<Zx T l (n-k))(h:Zx T (s::l) n<big):
 T s k<big/\Zx T l (n-k)<big/\q*Zx T l (n-k)+c<T s k*Zx T l (n-k):=by
 have h1:Yv T s l n (k+1)<=Zx T (s::l) n:=by
  rw[<-Jn];exact Wz T s l n AA
 rw[Xy] at h1;have f:T s k<=T s k*Zx T l (n-k):=Nat.le_mul_of_pos_right _ AA;have g:Zx T l (n-k)<=T s k*Zx T l (n-k):=Nat.le_mul_of_pos_left _ AA;have b:=Lc (a:=0) (q:=q) (AA:0+q<T s k) d;rw[BF] at b;exact⟨AA,AA,b⟩
def made_vals(n:Nat):madeCells #[K aN 0 0,aB false] (n*2)=zeroCells n:=by
 apply Array.ext_getElem?;intro j;by_cases c:j<n*2
 ·have b:=Cl n (j / 2) AA;have a:(madeCells #[K aN 0 0,aB false] (n*2))[j]? = some (if j % 2=0 then K aN 0 0 else aB false):=by
   simp[madeCells,c];rcases Nat.mod_two_eq_zero_or_one j with h | h <;> simp[h]
  rw[a];rcases Nat.mod_two_eq_zero_or_one j with h | h
  ·rw[if_pos h,<-b.1];congr 1;omega
  rw[if_neg AA,<-b.2];congr 1;omega
 have a:(madeCells #[K aN 0 0,aB false] (n*2)).size=n*2:=by simp[madeCells]
 have d:=Fy n;rw[CZ AA,CZ AA]
def Zv4(G:Gr)(w0 p0:List Int):∀(q:Nat) (a:WSt) (non:Int),Y0 G q (preS w0 p0 a) non=(Y0 G q a non).map (preR w0 p0):=by
 intro q
 induction q with
 | zero=>intro a non;rfl
 | succ q c =>
   intro a non;unfold Y0;show (match a.rest with
    | []=>aN
    | i::rest=>_)=_
   cases a.rest with
   | nil=>rfl
   | cons i rest =>
     simp only;cases Ur G i with
     | none=>rfl
     | some r =>
       simp only;by_cases b:r.L=non
       ·rw[if_pos b,if_pos b];have:=symsP_pre (w0:=w0) (p0:=p0) c r.rt { a with rest:=rest } 0;show (Wt (Y0 G q) r.rt (preS w0 p0 { a with rest:=rest }) 0).map _=_;rw[this,Option.map_map,Option.map_map];congr 1;funext x;simp[preS,preR]
       rw[if_neg b,if_neg b];rfl
def walkP_onto{G:Gr}{wd ps:List Int}(h:Y0 G q ⟨rest,[],[]⟩ non=some (a,n)):Y0 G q ⟨rest,wd,ps⟩ non=some (⟨a.rest,wd++a.word,ps++a.posts⟩,n):=by
 have:=Zv4 G wd ps q ⟨rest,[],[]⟩ non;rw[h] at this;simpa [preS,preR] using this
def YOr(G:Gr)(q e:Nat)(non:Int)(t:List Int)(a kk:Nat)(d c:List Int):Prop:=(Y0 G q ⟨t.drop e,[],[]⟩ non=none/\a=0) \/
 (∃b,Y0 G q ⟨t.drop e,[],[]⟩ non=some (b,kk)/\b.word=d/\b.posts=c/\b.rest=t.drop a/\e<a/\a<=t.length/\d.length<=6*(a-e)/\c.length=a-e/\0<kk/\kk<=a-e)
section
variable {W X:World} {L:List Qr} {b:Nat->Bool} {u:Nat->Value}
def VMs.fin(M:VMs W L b u X){p:Qr}(k:p∈L)(h:b p.ia=true)(l:b p.is=true):∃g a,u p.ia = aP (some ⟨g,0,aN⟩)/\W.heap.size<=g/\Blk X g p.ty a/\u p.ic = aG a:=by
 obtain⟨g,a,e,j,f,⟨c,_⟩ | ⟨_,d⟩⟩:=M.at_ p k h
 ·rw[l] at c;cases c
 exact⟨g,a,e,j,f,d⟩
end
end
end Go.Proofs.YtaagompdgiobeaaGreatDoor
