/- reachable: the reference's, walked. -/
import Derived.Test.YtggbjdmpjidhgaaGreatDoorV05
import Derived.Test.YtggbjdmpjidhgaaGreatDoorV06
import Derived.Test.YtggbjdmpjidhgaaGreatDoorV07
set_option linter.all false
set_option maxHeartbeats 1500000
set_option maxRecDepth 100000
namespace Go.Proofs.YtggbjdmpjidhgaaGreatDoor
open Go.RowKit Go.Proofs.Tryz
variable{a c w' w1:World}{p g j cr B base size n x m i d id:Nat}{cs:Array Value}{f Ar A q l s A0:Option Addr}{xs o:List Nat}{t:TypeId}{ts:List Tk}{v:Value}{ps:List MemPlace}{tab:Nat->Nat->Nat}{S:Nat->Prop}{r:List (Value × Nat)}{ops:Array Oper}{Q:Exit->Act->World->Prop}{J:Array Bool->Act->World->Prop}
def Yz(G:Gr):List Nat:=Wo (Zj G) (Zt G) G.rules (List.replicate G.nons.length 0)
theorem V6.trans{b:World}{h g j:GH}(x:V6 a b p h g)(y:V6 b c p g j):V6 a c p h j :=
 ⟨y.os.trans x.os,y.tape.trans x.tape,y.output.trans x.output,BC x.size y.size,λk d l=>(y.keep k (AJ d x.size) λf=>l (x.back k d f)).trans (x.keep k d l),λk d f=>x.back k d (y.back k (AJ d x.size) f)⟩
theorem Kz.snoc{w:World}{a:Nat->Prop}{cs:List Value}{f:List Rul}(h:Kz w a cs f)(r:Rul)(q:Za .i64 w Ar r.right.length cr r.right)(p:∀b s,Ar=some ⟨b,s,none⟩->b<w.heap.size/\a b):
 Kz w a (cs++[.int .i64 r.left,.slice Ar r.right.length cr,.int .i64 r.prec]) (f++[r]):=by
 refine⟨by simp[h.1];omega,λj u d=>?_⟩;rcases H4 d with ⟨c,d⟩ | ⟨rfl,rfl⟩
 ·obtain⟨g,k,l,m,n,o⟩:=h.2 j u d;exact⟨g,k,by rw[Xe h.1 c AA];exact l,by rw[Xe h.1 c AA];exact m,by rw[Xe h.1 c AA];exact n,o⟩
 exact⟨Ar,cr,by rw[Y7 h.1];rfl,by rw[Y7 h.1];rfl,by rw[Y7 h.1];rfl,q,p⟩
theorem Wk.lt{w:World}{h:GH}{G:Gr}(k:Wk w p B h G):p<w.heap.size:=k.blk.lt
theorem Yq{w:World}{e c:Nat}{xs:List Value}(h:w.ownsRow base e size (.slice A n c) n xs)(d:∀b,base<=b->(Value.slice A n c).ownBlock=some b->b<w.heap.size->w'.heap[b]? = w.heap[b]?):w'.ownsRow base e size (.slice A n c) n xs :=
 Wv h λb a f=>d b (h.lt b a).1 a f
theorem Wk.put2{w:World}{h:GH}{G:Gr}(k:Wk w p B h G)(s:ByteArray)(j:h.n2<16)(c:Option Addr)(d:Nat)(D:w1.ownsRow (p+1) 9 1 (.slice c (h.n2+1) d) (h.n2+1) (G.nons.map Value.string++[.string s]))(n:w.grownBy w1 (V2 h).ownBlock)(q:∀b,(Value.slice c (h.n2+1) d).ownBlock=some b->b<w.heap.size->(V2 h).ownBlock=some b):
 Wk (w1.setCell ⟨p,1,none⟩ (.slice c (h.n2+1) d)) p B { h with a2:=c,n2:=h.n2+1,c2:=d } { G with nons:=G.nons++[s] } /\
 V6 w (w1.setCell ⟨p,1,none⟩ (.slice c (h.n2+1) d)) p h { h with a2:=c,n2:=h.n2+1,c2:=d }:=by
 obtain⟨cs,t,z⟩:=k.r3;have E:∀b,(V2 h).ownBlock=some b->b≠p:=λb a=>by have:=(k.r2.lt b a).1;omega
 have u:∀b,b≠p->(w1.setCell ⟨p,1,none⟩ (.slice c (h.n2+1) d)).heap[b]? = w1.heap[b]? := λb a=>Eb w1 ⟨p,1,none⟩ _ b a;have v:w.heap.size<=(w1.setCell ⟨p,1,none⟩ (.slice c (h.n2+1) d)).heap.size:=by simpa using n.size
 have r:∀b,b<w.heap.size->b≠p->(V2 h).ownBlock≠some b->(w1.setCell ⟨p,1,none⟩ (.slice c (h.n2+1) d)).heap[b]? = w.heap[b]? := λb a C l =>
  (u b C).trans (n.block b a λe=>l e.symm)
 have o:V6 w (w1.setCell ⟨p,1,none⟩ (.slice c (h.n2+1) d)) p h { h with a2:=c,n2:=h.n2+1,c2:=d }:=by
  refine⟨n.os,n.tape,n.output,v,λb a j=>r b a (λe=>j (.inl e)) λe=>j (.inr (.inr (.inl e))),?_⟩;rintro b a (f | f | f | f)
  ·exact .inl f
  ·exact .inr (.inl f)
  ·exact .inr (.inr (.inl (q b f a)))
  exact .inr (.inr (.inr f))
 refine⟨⟨?_,?_,?_,⟨cs,?_,?_⟩,?_,?_,?_,k.st,k.wf,k.b1,by show h.n2+1<=16;omega,k.b3⟩,o⟩
 ·have y:Blk w1 p 193 (Q0 h):=k.blk.grown n λe=>E p e.symm rfl;exact Blk.set y 1 (.slice c (h.n2+1) d)
 ·exact Yq k.r1 λb a m g=>r b g AA λe=>k.d12 b m e
 ·show World.ownsRow _ _ _ _ _ _ ((G.nons++[s]).map Value.string);rw[DI];exact Yq D λb a _ _=>u b AA
 ·exact Yq t λb a x g=>r b g AA λe=>k.d23 b e x
 ·exact z.keep v λb a j=>⟨o.keep b a j.1,λA=>j.1 (o.back b a A),j.2⟩
 ·intro b l m;have g:=(k.r1.lt b l).2;exact k.d12 b l (q b m g)
 ·exact k.d13
 intro b l m;have g:=(t.lt b m).2;exact k.d23 b (q b l g) m
theorem V6.blk{w:World}{h b:GH}(T:V6 w w' p h b)(a:Blk w g t cs)(c:¬J8 p h g):Blk w' g t cs:=(T.keep g a.lt c).trans a
theorem Wc.parts{w:World}(h:Wc w p ts):∃A c x y b d,Kq w p A ts.length c ts/\p<w.heap.size/\Blk w p 236 #[.slice A ts.length c,.complex .f64 x y,.complex .f64 b d,.int .i64 0] /\
 w.cell? ⟨p,0,none⟩=some (.slice A ts.length c)/\w.cell? ⟨p,1,none⟩=some (.complex .f64 x y)/\w.cell? ⟨p,2,none⟩=some (.complex .f64 b d)/\w.cell? ⟨p,3,none⟩=some (.int .i64 0):=by
 obtain⟨g,A,c,x,y,b,d,a,f⟩:=h;exact⟨A,c,x,y,b,d,f,a.lt,a,by rw[a.cell];rfl,by rw[a.cell];rfl,by rw[a.cell];rfl,by rw[a.cell];rfl⟩
theorem Wc.lt{w:World}(h:Wc w p ts):p<w.heap.size:=by
 obtain⟨b,A,c,x,y,f,g,a,d⟩:=h;exact a.lt
theorem Wc.keep{w:World}(h:Wc w p ts)(j:w.heap.size<=w'.heap.size)(b:∀k,k<=p->k<w.heap.size->w'.heap[k]? = w.heap[k]?):Wc w' p ts:=by
 obtain⟨g,A,c,x,y,m,n,a,l⟩:=h;exact⟨g,A,c,x,y,m,n,(b p (AI _) a.lt).trans a,l.keep j λk d f=>b k (DP d) f⟩
theorem Zyt.prec{wr q g:World}{f:Nat}{L pr:ByteArray}{y px py:Nat}{m:List ByteArray}{B o:List Tk}(a:Zyt wr q p f Ar cr L x y m ⟨#[]⟩ 0 0 B)(D:p<wr.heap.size)(d:q.grownBy g (some p))(v:Wc g p o):
 Zyt wr ((g.setCell ⟨f,3,none⟩ (.string pr)).setCell ⟨f,4,none⟩ (.complex .f64 px py)) p f Ar cr L x y m pr px py o:=by
 have u:=a.lo;have s:Blk g f 199 #[.string L,.complex .f64 x y,.slice Ar m.length cr,.string ⟨#[]⟩,.complex .f64 0 0]:=a.blk.grown d (λe=>by injection e with e;omega);have c:g.grownBy ((g.setCell ⟨f,3,none⟩ (.string pr)).setCell ⟨f,4,none⟩ (.complex .f64 px py)) (some f):=Zc (Zd _ _ _ _) (Zd _ _ _ _);have z:=a.gr.size;have A:=d.size;refine⟨u,(s.set 3 (.string pr)).set 4 (.complex .f64 px py),?_,λb j h=>?_,a.ne,v.keep c.size λk C r=>c.block k r λe=>by injection e with e;omega,?_⟩
 ·refine (a.row.keep d.size λb j h l=>d.block b l λe=>?_).keep c.size λb j h l=>c.block b l λe=>?_
  ·injection e with e;have:=(a.fresh b j h).1;omega
  injection e with e;exact a.ne b j h e
 ·have:=a.fresh b j h;exact⟨this.1,AJ this.2 (BC d.size c.size)⟩
 refine⟨c.os.trans (d.os.trans a.gr.os),c.tape.trans (d.tape.trans a.gr.tape),c.output.trans (d.output.trans a.gr.output),BC z (BC A c.size),λk t n=>?_⟩;rw[c.block k AA (λe=>by injection e with e;omega),d.block k AA n,a.gr.block k t n]
theorem Vu.grown{w:World}{cs:List Value}{ps:List Prd}(h:Vu w (λb=>B<=b/\v.ownBlock≠some b) cs ps)(c:w.grownBy w' (some p))(f:p<B):Vu w' (λb=>B<=b/\v.ownBlock≠some b) cs ps :=
 h.keep c.size λk d a=>⟨c.block k d λe=>by injection e with e;have:=a.1;omega,a⟩
def Vh(G:Gr):Nat:=if G.right then cycS (Yz G) else 0
theorem Ztq(G:Gr):Vh G<4294967296:=by
 unfold Vh cycS;split
 ·exact Jg _ _
 decide
def endG(G:Gr):Bool:=(Vh G &&& Gy G) != 0
theorem Fc(c:o.Nodup){k:Nat}(h:o[k]? = some i):toI o i=(k:Int):=by
 unfold toI;refine Q4 h AE λj b y d=>?_;rw[AY];rintro rfl;have h1:=(AN.1 h);have a:=(AN.1 d);have:=List.pairwise_iff_getElem.1 c j k a.1 h1.1 b;exact this (a.2.trans h1.2.symm)
theorem toI_mem(b:o.Nodup)(h:i∈o):∃k,k<o.length/\o[k]? = some i/\toI o i=(k:Int):=by
 obtain⟨k,a⟩:=BU h;exact⟨k,(AN.1 a).1,a,Fc b a⟩
theorem toI_app(a:(o++[i]).Nodup):toI (o++[i]) i=(o.length:Int):=Fc a AE
def Wb(o:List Nat)(r:Rul):Rul:=⟨toI o r.left.toNat,r.right.map (Xd o),r.prec⟩
def mu(G:Gr)(n:Nat)(s:Int):Nat:=n*4294967296+(Xu (Yz G)).getD (Zp s) 0
structure Xq (G:Gr):Prop where
 fits:G.Fits
 prod:∀i,i<G.nons.length->(Zt G).getD i false=true
 none:∀i,i<G.nons.length->Yw (Yz G) i i=false
structure Ni (G:Gr) (ord:List Nat):Prop where
 lt:∀i∈ord,i<G.nons.length
 pre:∀(p i:Nat),ord[p]? = some i->∀t,((Yz G).getD i 0).testBit t=true->t∈ord.take p
 all:∀i,i<G.nons.length->i∈ord
structure Ll (G:Gr) (ord:List Nat) (tab:Nat->Nat->Nat) (m p:Nat):Prop where
 low:∀k,k<m->∀i,i<G.nons.length->tab k i=Zv G (-1-(i:Int)) k
 now:∀i,i∈ord.take p->tab m i=Zv G (-1-(i:Int)) m
 rest:∀i,i∉ord.take p->tab m i=0
theorem Ll.put{G:Gr}{c:List Nat}(h:Ll G c tab m p)(hi:c[p]? = some i)(v:Nat)(l:v=Zv G (-1-(i:Int)) m):Ll G c (U6 tab m i v) m (p+1):=by
 have d:c.take (p+1)=c.take p++[i]:=by rw[DA,hi];rfl
 refine⟨λk g j a=>?_,λj a=>?_,λj a=>?_⟩
 ·unfold U6;rw[if_neg AA];exact h.low k g j a
 ·unfold U6;split
  ·rename_i b;rw[b.2];exact l
  rename_i b;rw[d,DH,BV] at a;rcases a with a | a
  ·exact h.now j a
  exact absurd ⟨rfl,a⟩ b
 rw[d,DH,BV] at a;unfold U6;rw[if_neg (by rintro⟨_,b⟩;exact a (.inr b))];exact h.rest j λf=>a (.inl f)
theorem Ll.row{G:Gr}{a:List Nat}(c:Ni G a)(h:Ll G a tab m a.length)(h0:∀i,tab (m+1) i=0):Ll G a tab (m+1) 0:=by
 refine⟨λk b i hi=>?_,λi hi=>by simp at hi,λi _=>h0 i⟩;rcases (AA:k<m\/k=m) with b | rfl
 ·exact h.low k b i hi
 exact h.now i (by rw[List.take_length];exact c.all i hi)
def N5(G:Gr):List Nat × Int:=if G.right then (if endG G then ([],10) else ((Y4 (Yz G) (Qm G) G.nons.length G.nons.length).1,0)) else ([],1)
def Mx(G:Gr)(w:World)(e:Ending)(w':World):Prop:=Below w.heap.size w w'/\∃A c,e = .returned (.tuple #[.slice A (N5 G).1.length c,.int .i64 (N5 G).2])/\Za .i64 w' A (N5 G).1.length c (Z6 (N5 G).1)
theorem Mx.good{G:Gr}{w:World}{l:List Nat}(h:N5 G=(l,0))(a:Below w w w'){c:Nat}(b:w'.ownsRow B 3 1 (.slice A l.length c) l.length (ints .i64 (Z6 l))):Mx G w (.returned (.tuple #[.slice A l.length c,.int .i64 0])) w':=by
 unfold Mx;rw[h];exact⟨a,A,c,rfl,Yl b⟩
theorem Off.trans{T:Nat->Prop}{b:World}(x:Off S a b)(y:Off T b c)(h:∀k,k<a.heap.size->T k->S k):Off S a c :=
 ⟨y.os.trans x.os,y.tape.trans x.tape,y.output.trans x.output,BC x.size y.size,λk d f=>(y.keep k (AJ d x.size) λg=>f (h k d g)).trans (x.keep k d f)⟩
theorem Off.is_below{w:World}(x:Off S w w')(a:B<=w.heap.size)(b:∀k,S k->B<=k):Below B w w' :=
 ⟨x.os,x.tape,x.output,x.size,λk c=>x.keep k (AJ c a) λd=>by have:=b k d;omega⟩
theorem Off.blk{w:World}(x:Off S w w')(a:Blk w g t cs)(b:¬S g):Blk w' g t cs:=(x.keep g a.lt b).trans a
theorem Off.row{w:World}{e c:Nat}{xs:List Value}(x:Off S w w')(h:w.ownsRow base e size (.slice A n c) n xs)(f:∀b,(Value.slice A n c).ownBlock=some b->¬S b):w'.ownsRow base e size (.slice A n c) n xs :=
 Wv h λb a d=>x.keep b d (f b a)
theorem offX{w b:World}{r:Nat}(h:Off (λk=>k=g) w a)(c:Off (λk=>k=r) a b):Off (λk=>k=g\/k=r) w b :=
 (Off.trans (S:=λk=>k=g\/k=r) ⟨h.os,h.tape,h.output,h.size,λk d f=>h.keep k d λe=>f (.inl e)⟩ c λ_ _ e => .inr e)
theorem Red2.put{f:Nat}{x:Value}{G:Gr}{w:World}{u:Nat}{a v:List Nat}(r:Red2 c d f n x G w l m s u a v)(B:f<c.heap.size)(A:d<c.heap.size)(j:Nat)(q:Option Addr)(t:Nat)(z:w1.ownsRow c 3 1 (.slice q (a.length+1) t) (a.length+1) (ints .i64 (Z6 a)++[.int .i64 (j:Int)]))(y:w.grownBy w1 (Value.slice l a.length m).ownBlock):
 Red2 c d f n x G w1 q t s u (a++[j]) v:=by
 have g:=Off.of_grown y;have p:∀b,(Value.slice l a.length m).ownBlock=some b->c.heap.size<=b:=λb o=>(r.kept.lt b o).1;refine⟨r.off.trans g λk C h=>?_,g.blk r.tos λh=>?_,g.blk r.out λh=>?_,?_,g.row r.nons λb o h=>Fe r.kept r.nons AC h o⟩
 ·have:=p k h;omega
 ·have:=p f h;omega
 ·have:=p d h;omega
 have e:ints .i64 (Z6 (a++[j]))=ints .i64 (Z6 a)++[.int .i64 (j:Int)]:=by simp[ints,Z6]
 rw[e,AS,CV];exact z
theorem Red2.name{f:World}{C:Value}{G:Gr}{w:World}{o:Option Addr}{q:Nat}{p:Option Addr}{s:Nat}{v a:List Nat}(r:Red2 f g d n C G w o q p s v a)(L:d<f.heap.size)(J:g<f.heap.size)(z:d≠g){l:Nat}(H:l∉a)(j:Option Addr)(m:Nat)(B:w1.ownsRow f 9 1 (.slice j (a.length+1) m) (a.length+1) ((a.map λi=>Value.string (Ws G i))++[.string (Ws G l)]))(F:(w.setCell ⟨d,l,none⟩ (.int .i64 (a.length:Int))).grownBy w1 (Value.slice p a.length s).ownBlock):
 Red2 f g d n C G (w1.setCell ⟨g,1,none⟩ (.slice j (a.length+1) m)) o q j m v (a++[l]):=by
 have t:=Off.of_grown F;have y:=Off.of_set w d l (.int .i64 (a.length:Int));have u:=Off.of_set w1 g 1 (.slice j (a.length+1) m);have x:∀b,(Value.slice p a.length s).ownBlock=some b->f.heap.size<=b:=λb c=>(r.nons.lt b c).1;have A:∀b,(Value.slice o v.length q).ownBlock=some b->f.heap.size<=b:=λb c=>(r.kept.lt b c).1;have E:∀b,(Value.slice o v.length q).ownBlock=some b->(Value.slice p a.length s).ownBlock=some b->False:=λb h1 D=>Fe r.kept r.nons AC h1 D;have I:Blk (w.setCell ⟨d,l,none⟩ (.int .i64 (a.length:Int))) d 3 (ints .i64 (toL n (a++[l]))).toArray:=by
  have:=Blk.set r.tos l (.int .i64 (a.length:Int));have e:(ints .i64 (toL n a)).toArray.setIfInBounds l (.int .i64 (a.length:Int))=(ints .i64 (toL n (a++[l]))).toArray:=by
   rw[<-toL_set H];simp[ints,List.map_set]
  rw[e] at this;exact this
 refine⟨((r.off.trans y λk _ h => .inl h).trans t λk M h=>?_).trans u λk _ h => .inr h,u.blk (t.blk I λh=>?_) z,?_,?_,?_⟩
 ·have:=x k h;omega
 ·have:=x d h;omega
 ·have h1:=t.blk (y.blk r.out λh=>z h.symm) λh=>by have:=x g h;omega
  have:=Blk.set h1 1 (.slice j (a.length+1) m);rw[AS,CV];exact this
 ·exact u.row (t.row (y.row r.kept λb c h=>by have:=A b c;omega) λb c h=>E b c h) λb c h=>by have:=A b c;omega
 rw[AS,CV,DI];refine u.row B λb c h=>?_;have:=(B.lt b c).1;omega
theorem Zyu.put{u:Value}{w:World}{c3:Nat}{a:List Rul}(r:Zyu c j u v w f c3 a)(E:j<c.heap.size)(q:Rul)(C:Za .i64 w Ar q.right.length cr q.right)(z:∀b D,Ar=some ⟨b,D,none⟩->b<w.heap.size/\c.heap.size<=b/\(Value.slice f a.length c3).ownBlock≠some b)(d:Option Addr)(g:Nat)(B:∀cs,w.ownsRow c 52 3 (.slice f a.length c3) a.length cs->w1.ownsRow c 52 3 (.slice d (a.length+1) g) (a.length+1) (cs++[.int .i64 q.left,.slice Ar q.right.length cr,.int .i64 q.prec]))(A:w.grownBy w1 (Value.slice f a.length c3).ownBlock)(l:∀b,(Value.slice d (a.length+1) g).ownBlock=some b->b<w.heap.size->(Value.slice f a.length c3).ownBlock=some b):
 Zyu c j u v (w1.setCell ⟨j,2,none⟩ (.slice d (a.length+1) g)) d g (a++[q]):=by
 obtain⟨cs,h1,x⟩:=r.rules;have m:=Off.of_grown A;have o:=Off.of_set w1 j 2 (.slice d (a.length+1) g);have s:∀b,(Value.slice f a.length c3).ownBlock=some b->c.heap.size<=b:=λb l=>(h1.lt b l).1;have t:=B cs h1;refine⟨(r.off.trans m λk n h=>?_).trans o λk _ h=>h,?_,cs++[.int .i64 q.left,.slice Ar q.right.length cr,.int .i64 q.prec],?_,?_⟩
 ·have:=s k h;omega
 ·have y:=m.blk r.out λh=>by have:=s j h;omega
  have:=Blk.set y 2 (.slice d (a.length+1) g);rw[AS,CV];exact this
 ·rw[AS,CV];refine o.row t λb l h=>?_;have:=(t.lt b l).1;omega
 rw[AS,CV];refine (x.snoc q C z).keep (by have:=m.size;have:=o.size;omega) λk n p=>⟨(o.keep k (AJ n m.size) λh=>AA).trans (m.keep k n p.2),p.1,λe=>p.2 (l k e n)⟩
theorem Wk.cells{w:World}{h:GH}{G:Gr}(k:Wk w p B h G):p<w.heap.size/\w.cell? ⟨p,0,none⟩=some (.slice h.a1 h.n1 h.c1)/\w.cell? ⟨p,1,none⟩=some (.slice h.a2 h.n2 h.c2)/\w.cell? ⟨p,2,none⟩=some (.slice h.a3 h.n3 h.c3)/\w.cell? ⟨p,3,none⟩=some (.int .i64 0) /\
 w.cell? ⟨p,7,none⟩=some (.bool false)/\w.cell? ⟨p,10,none⟩=some (.int .i64 0)/\w.frozen? ⟨p,0,none⟩=false/\w.frozen? ⟨p,1,none⟩=false/\w.frozen? ⟨p,2,none⟩=false :=
 ⟨k.blk.lt,k.blk.cell 0,k.blk.cell 1,k.blk.cell 2,k.blk.cell 3,k.blk.cell 7,k.blk.cell 10,k.blk.frozen 0,k.blk.frozen 1,k.blk.frozen 2⟩
theorem Qn(W:World)(a:List Value)(e:TypeId):∀j u,a[j]? = some u->(W.alloc (.cells a.toArray e)).cell? ((⟨W,0,none⟩:Addr).add j)=some u:=by
 intro j u d;have b:(⟨W,0,none⟩:Addr).add j=⟨W,j,none⟩:=by
  unfold Addr.add;split
  ·rename_i c;subst c;rfl
  simp
 rw[b,World.cell?_alloc_mark];simpa using d
def rulB(a b:Rul):Bool:=(a.left==b.left)&&((a.prec==b.prec)&&(a.right==b.right))
theorem Zwu{a b:Rul}:rulB a b=true↔a=b:=by
 obtain⟨x,y,z⟩:=a;obtain⟨f,g,z'⟩:=b;unfold rulB;rw[AR,AR,BP,BP,BP];constructor
 ·rintro⟨h1,c,d⟩;simp only at h1 c d;rw[h1,c,d]
 intro h;injection h with h1 c d;exact⟨h1,d,c⟩
section
variable {P:Program}
def Xw(P:Program)(ops:Array Oper)(Q:Exit->Act->World->Prop)(J:Array Bool->Act->World->Prop):Nat->List Oper->Prop
 | _,[]=>True
 | i,o::rest=>(∀(listed:Array Bool) (a:Act) (w:World),J listed a w->listed.getD i true=false->(∀e∈o.after,Region.binds .any e=true->listed.getD e.on false=true)->
    ∀K:Act->World->Prop,(∀b w',J (listed.setIfInBounds i true) b w'->K b w')->if Region.wanted o (yielded ops a.tmps) then o.wp P a w K Q else K (a.put o.dst undef) w)/\Xw P ops Q J (i+1) rest
theorem Xw.nil:Xw P ops Q J i []:=trivial
theorem Xw.cons{o:Oper}{rest:List Oper}(h:∀(listed:Array Bool) (a:Act) (w:World),J listed a w->listed.getD i true=false->(∀e∈o.after,Region.binds .any e=true->listed.getD e.on false=true)->
   ∀K:Act->World->Prop,(∀b w',J (listed.setIfInBounds i true) b w'->K b w')->if Region.wanted o (yielded ops a.tmps) then o.wp P a w K Q else K (a.put o.dst undef) w)(t:Xw P ops Q J (i+1) rest):Xw P ops Q J i (o::rest):=⟨h,t⟩
theorem Xw.at:∀{l:List Oper} {i k:Nat} {o:Oper},Xw P ops Q J i l->l[k]? = some o->
 (∀(listed:Array Bool) (a:Act) (w:World),J listed a w->listed.getD (i+k) true=false->(∀e∈o.after,Region.binds .any e=true->listed.getD e.on false=true)->
   ∀K:Act->World->Prop,(∀c w',J (listed.setIfInBounds (i+k) true) c w'->K c w')->if Region.wanted o (yielded ops a.tmps) then o.wp P a w K Q else K (a.put o.dst undef) w)
 | [],i,k,o,_,b=>by simp at b
 | q::l,i,0,o,h,b=>by
   have e:q=o:=by simpa using b
   subst e;exact h.1
 | q::l,i,k+1,o,h,b=>by
   have:=Xw.at h.2 (by simpa using b:l[k]? = some o);rw[show i+(k+1)=i+1+k by omega];exact this
theorem Zy4(g:Zvw ops=true)(l:∀i o,ops[i]? = some o->∀(listed:Array Bool) (a:Act) (w:World),J listed a w->listed.getD i true=false->(∀e∈o.after,Region.binds .any e=true->listed.getD e.on false=true)->
   ∀K:Act->World->Prop,(∀c w',J (listed.setIfInBounds i true) c w'->K c w')->if Region.wanted o (yielded ops a.tmps) then o.wp P a w K Q else K (a.put o.dst undef) w)(j:∀(listed:Array Bool) (a:Act) (w:World),J listed a w->(∀i,i<ops.size->listed.getD i true=true)->Q .normal a w):
 ∀(fuel:Nat) (listed:Array Bool) (a:Act) (w:World),leftN ops.size listed<=fuel->J listed a w->wpAny P .any ops Q fuel listed a w
 | 0,listed,a,w,hl,hJ=>by
   have d:Region.ready .any ops listed=[]:=by
    rw[List.eq_nil_iff_forall_not_mem];intro i hi;obtain⟨f,o,b,_⟩:=mem_ready.1 hi;have:=F6 (n:=ops.size) (Array.getElem?_eq_some_iff.1 b).1 f;omega
   exact⟨d,j listed a w hJ (Zwd g d)⟩
 | fuel+1,listed,a,w,hl,hJ=>by
   refine⟨λd=>j listed a w hJ (Zwd g d),λi hi=>?_⟩;obtain⟨f,o,b,m⟩:=mem_ready.1 hi;have p:=F6 (n:=ops.size) (Array.getElem?_eq_some_iff.1 b).1 f;have h1:=l i o b listed a w hJ f m (wpAny P .any ops Q fuel (listed.setIfInBounds i true)) (λc w' h=>Zy4 g l j fuel _ c w' AA h);unfold wpOp;simp only[b];split
   ·rename_i k;rw[if_pos k] at h1;exact .inl h1
   rename_i k;rw[if_neg k] at h1;exact h1
theorem Dq{a:Act}{w:World}{l:List Oper}(J:Array Bool->Act->World->Prop)(j:P.follows .mixedOrders=true)(f:Zvw l.toArray=true)(h0:J (Array.replicate l.length false) a w.drew)(p:Xw P l.toArray Q J 0 l)(g:∀(listed:Array Bool) (a:Act) (w:World),J listed a w->(∀i,i<l.length->listed.getD i true=true)->Q .normal a w):(Code.region id l.toArray true).wp P Q a w:=by
 refine wp_region_any j ?_;refine Zy4 f (λi o m listed a w b q n K d=>?_) (λlisted a w b h=>g listed a w b λi hi=>h i (by simpa using hi)) _ _ _ _ ?_ (by simpa using h0)
 ·have:=Xw.at (k:=i) p (by simpa using m) listed a w b (by rw[BH];exact q) n K (λc w' h=>d c w' (by rw[BH] at h;exact h));exact this
 exact BC (List.length_filter_le _ _) AE
theorem Xc.nil:Xc P J i []:=trivial
theorem Xc.cons{o:Oper}{rest:List Oper}(c:o.guard=none)(h:∀(Q:Exit->Act->World->Prop) (listed:Array Bool) (a:Act) (w:World),J listed a w->listed.getD i true=false->(∀e∈o.after,Region.binds .any e=true->listed.getD e.on false=true)->
   ∀K:Act->World->Prop,(∀b w',J (listed.setIfInBounds i true) b w'->K b w')->o.wp P a w K Q)(t:Xc P J (i+1) rest):Xc P J i (o::rest):=⟨⟨c,h⟩,t⟩
theorem Xc.inv:∀{l:List Oper} {i:Nat},Xc P J i l->Xw P ops Q J i l
 | [],_,_=>trivial
 | o::l,i,h=>by
   refine⟨λlisted a w b f d K c=>?_,Xc.inv h.2⟩;have e:Region.wanted o (yielded ops a.tmps)=true:=by unfold Region.wanted;rw[h.1.1]
   rw[if_pos e];exact h.1.2 Q listed a w b f d K c
theorem H6{a:Act}{w:World}{l:List Oper}(J:Array Bool->Act->World->Prop)(d:P.follows .mixedOrders=true)(b:Zvw l.toArray=true)(h0:J (Array.replicate l.length false) a w.drew)(f:Xc P J 0 l)(c:∀(listed:Array Bool) (a:Act) (w:World),J listed a w->(∀i,i<l.length->listed.getD i true=true)->Q .normal a w):(Code.region id l.toArray true).wp P Q a w :=
 Dq J d b h0 f.inv c
end
section
open Go.Maps (Keyed IsMap Tidy)
def numR:List Nat->DataW Unit
 | [] => .map []
 | i::r=>(numR r).put (Dc i) (.lit (.int .i64 (r.length:Int)))
def Zys(a:List Nat):DataW Unit:=numR a.reverse
def NumM(w:World)(g:Nat)(a:List Nat):Prop:=w.ownsMap Tryz.prog 3 (plainElem (H:=Unit) Tryz.prog 3) g a.length (Zys a)
structure Dm (W0:World) (gO gM:Nat) (v1:Value) (G:Gr) (w:World) (Ak:Option Addr) (ck:Nat) (An:Option Addr) (cn:Nat) (ks old:List Nat):Prop where
 off:Off (λk=>k=gM\/k=gO) W0 w
 num:NumM w gM old
 out:Blk w gO 26 #[v1,.slice An old.length cn,.slice none 0 0,.int .i64 0]
 kept:w.ownsRow W0.heap.size 3 1 (.slice Ak ks.length ck) ks.length (ints .i64 (Z6 ks))
 nons:w.ownsRow W0.heap.size 9 1 (.slice An old.length cn) old.length (old.map λi=>Value.string (Ws G i))
theorem NumM.block{w:World}{a:List Nat}(h:NumM w g a)(c:w'.heap[g]? = w.heap[g]?):NumM w' g a:=by
 obtain⟨b,clock,d,r⟩:=h;exact⟨b,clock,c.trans d,r⟩
theorem Dm.put{f:Nat}{G:Gr}{w:World}{t:Nat}{a u:List Nat}(r:Dm c f d v G w l m q t a u)(z:d<c.heap.size)(A:f<c.heap.size)(j:Nat)(p:Option Addr)(s:Nat)(y:w1.ownsRow c 3 1 (.slice p (a.length+1) s) (a.length+1) (ints .i64 (Z6 a)++[.int .i64 (j:Int)]))(x:w.grownBy w1 (Value.slice l a.length m).ownBlock):
 Dm c f d v G w1 p s q t (a++[j]) u:=by
 have g:=Off.of_grown x;have o:∀b,(Value.slice l a.length m).ownBlock=some b->c.heap.size<=b:=λb n=>(r.kept.lt b n).1;refine⟨r.off.trans g λk B h=>?_,r.num.block (g.keep d r.num.lt λh=>?_),g.blk r.out λh=>?_,?_,g.row r.nons λb n h=>Fe r.kept r.nons AC h n⟩
 ·have:=o k h;omega
 ·have:=o d h;omega
 ·have:=o f h;omega
 have e:ints .i64 (Z6 (a++[j]))=ints .i64 (Z6 a)++[.int .i64 (j:Int)]:=by simp[ints,Z6]
 rw[e,AS,CV];exact y
structure Zvs (W0:World) (gO gM:Nat) (v1:Value) (G:Gr) (w:World) (Ak:Option Addr) (ck:Nat) (An:Option Addr) (cn:Nat) (ks old:List Nat) (l:Nat):Prop where
 off:Off (λk=>k=gM\/k=gO) W0 w
 num:NumM w gM (old++[l])
 out:Blk w gO 26 #[v1,.slice An old.length cn,.slice none 0 0,.int .i64 0]
 kept:w.ownsRow W0.heap.size 3 1 (.slice Ak ks.length ck) ks.length (ints .i64 (Z6 ks))
 nons:w.ownsRow W0.heap.size 9 1 (.slice An old.length cn) old.length (old.map λi=>Value.string (Ws G i))
theorem Zf.trans{b:World}(h:Zf a b)(k:Zf b c):Zf a c:=by
 refine⟨BC h.1 k.1,λg d hi=>?_⟩;have e:=h.2 g d hi;refine (k.2 g (AJ d h.1) ?_).trans e;obtain⟨o,q,z,f⟩:=hi;exact⟨o,q,z,(DO (a:=⟨g,o,none⟩) e).trans f⟩
theorem Zf.of_below{w:World}(h:Below w w w'):Zf w w':=⟨h.size,λb a _=>h.block b a⟩
theorem Zf.of_off{w:World}(h:Off S w w')(a:∀g,S g->Qf w g):Zf w w':=⟨h.size,λb c ⟨o,k,z,d⟩=>h.keep b c λf=>a b f o k z d⟩
theorem Zq.kept{k:IntKind}{w:World}{c:Nat}(h:Zq k w A n c xs)(m:Zf w w'):Zq k w' A n c xs:=by
 refine⟨h.1,h.2.1,h.2.2.1,λd=>?_⟩;obtain⟨b,f,e,g,l⟩:=h.2.2.2 d;have h0:=l 0 d;have hi:∃o q z,w.cell? ⟨b,o,none⟩=some (Value.int q z):=by
  have s:0<xs.length:=by simpa [nums] using d
  refine⟨f+0,k,((xs[0]:Nat):Int),?_⟩;rw[h0];simp[nums,s]
 have p:=m.2 b g hi;exact⟨b,f,e,AJ g m.1,λj r=>(DO (a:=⟨b,f+j,none⟩) p).trans (l j r)⟩
theorem Z1.kept{w:World}{c:Nat}{b:Bool}(h:Z1 w A n c b x)(a:Zf w w'):Z1 w' A n c b x:=⟨h.1,h.2.kept a⟩
theorem Z1.zero(w:World)(A:Option Addr)(c:Nat)(d:c<=9223372036854775807):Z1 w A 0 c false 0:=by
 have b:0<big:=by unfold big;generalize 1024=k;exact Nat.two_pow_pos k
 have a:Vk 0=([],false):=by rw[Z7 b];rfl
 unfold Z1;rw[a];exact⟨rfl,Zq.nil _ _ _ _ d⟩
theorem Vp.lt{w:World}(h:Vp w g t xs):g<w.heap.size:=by
 obtain⟨cs,a,_⟩:=h;exact a.lt
theorem Vp.kept{w:World}(h:Vp w g t xs)(m:Zf w w')(l:w'.heap[g]? = w.heap[g]?):Vp w' g t xs:=by
 obtain⟨cs,f,o,k⟩:=h;refine⟨cs,l.trans f,o,λj x p=>?_⟩;obtain⟨A,n,c,b,h1,a,d⟩:=k j x p;exact⟨A,n,c,b,h1,a,d.kept m⟩
theorem Vp.put{w:World}(h:Vp w g t xs)(u:j<xs.length){c:Nat}{b:Bool}(C:Z1 w A n c b x):
 Vp ((w.setCell ⟨g,j*2,none⟩ (.slice A n c)).setCell ⟨g,j*2+1,none⟩ (.bool b)) g t (xs.set j x)/\Zf w ((w.setCell ⟨g,j*2,none⟩ (.slice A n c)).setCell ⟨g,j*2+1,none⟩ (.bool b)):=by
 have v:=h.noInt;have d:Zf w ((w.setCell ⟨g,j*2,none⟩ (.slice A n c)).setCell ⟨g,j*2+1,none⟩ (.bool b)) :=
  Zf.of_off ((Off.of_set w g (j*2) (.slice A n c)).trans (Off.of_set _ g (j*2+1) (.bool b)) λ_ _ h=>h) λq z=>by rw[z];exact v
 refine⟨?_,d⟩;obtain⟨cs,r,B,s⟩:=h;refine⟨(cs.setIfInBounds (j*2) (.slice A n c)).setIfInBounds (j*2+1) (.bool b),(r.set _ _).set _ _,by simp[B],λi y a=>?_⟩;have hi:i<xs.length:=by have:=(AN.1 a).1;simpa using this
 by_cases f:i=j
 ·subst f;rw[List.getElem?_set_self u] at a;obtain rfl:x=y:=by simpa using a
  refine⟨A,n,c,b,?_,?_,C.kept d⟩
  ·rw[Array.getElem?_setIfInBounds_ne AA,Array.getElem?_setIfInBounds_self_of_lt AA]
  rw[Array.getElem?_setIfInBounds_self_of_lt AG]
 rw[List.getElem?_set_ne (λe=>f e.symm)] at a;obtain⟨k,D,m,l,h1,o,p⟩:=s i y a;refine⟨k,D,m,l,?_,?_,p.kept d⟩
 ·rw[Array.getElem?_setIfInBounds_ne AA,Array.getElem?_setIfInBounds_ne AA];exact h1
 rw[Array.getElem?_setIfInBounds_ne AA,Array.getElem?_setIfInBounds_ne AA];exact o
theorem Vp.new(w:World)(t:TypeId)(n:Nat):Vp (w.alloc (.cells (zeroCells n) t)) w t (List.replicate n 0):=by
 refine⟨zeroCells n,Blk.new w t _,by rw[Fy,Eh],λj x a=>?_⟩;have b:j<n:=by have:=(AN.1 a).1;simpa using this
 obtain rfl:0=x:=by rw[List.getElem?_replicate,if_pos b] at a;exact BI a
 obtain⟨h1,c⟩:=Cl n j b;exact⟨none,0,0,false,h1,c,Z1.zero _ _ _ AA⟩
theorem Tryz.info34:(prog.info? 49).map (λi=>(i.zero,i.size,i.bytes))=some (some (.int .u32 0),1,4):=AB
theorem mulP_lim(x:Nat)(ys b:List Nat)(k:Nat):Lim (Vn x ys b k).1:=by
 induction k with
 | zero=>exact Lim.nil
 | succ k a=>exact a.append (Lim.mk (Nat.mod_lt _ AC) Lim.nil)
theorem Zx0(x:Nat)(ys a:List Nat)(i k:Nat)(h:Lim a):Lim (Us x ys a i k) :=
 ((h.take _).append (mulP_lim _ _ _ _)).append (h.drop _)
theorem Zww{s:Int}(h1:-1000<=s)(d:s<=1000)(h:n<=1000):∃l,keyOf prog 247 (kT s n)=some l:=by
 have a:prog.keyType 247=true:=AB
 have b:prog.cellsOf 247=2:=AB
 have c:prog.cellsOf 3=1:=AB
 have w1:=Mb h1 d;have g:(Lit.int .i64 (n:Int)).wf=true:=Mb AA AA;obtain⟨m,f⟩:=Zy5 Tryz.rowKT AC;unfold keyOf kT;rw[f];simp[underlying247,a,Value.formed,b,Program.keyLits,Value.cells,c,underlying3,w1,g,Ec]
theorem Zsn(h1:i<=1000)(j:d<=1000)(o:n<=1000):∃l,keyOf prog 251 (kF i d n)=some l:=by
 have a:prog.keyType 251=true:=AB
 have b:prog.cellsOf 251=3:=AB
 have c:prog.cellsOf 3=1:=AB
 have w1:(Lit.int .i64 (i:Int)).wf=true:=Mb AA AA;have g:(Lit.int .i64 (d:Int)).wf=true:=Mb AA AA;have h:(Lit.int .i64 (n:Int)).wf=true:=Mb AA AA;obtain⟨m,f⟩:=Zy5 Tryz.rowKF AC;unfold keyOf kF;rw[f];simp[underlying251,a,Value.formed,b,Program.keyLits,Value.cells,c,underlying3,w1,g,h]
def ptrR:Value->Option (DataW Unit × List MemPlace)
 | .pointer none=>some (.nil,[])
 | .pointer (some ⟨b,0,none⟩)=>some (.lit (.int .i64 (b:Int)),[])
 | _=>none
theorem ptrR_block{b:Nat}(h:ptrR v=some (.lit (.int .i64 (b:Int)),ps)):v = .pointer (some ⟨b,0,none⟩):=by
 unfold ptrR at h;split at h
 ·cases h
 ·simp only[BM,CZ,DataW.lit.injEq,Lit.int.injEq,true_and] at h;obtain⟨h,_⟩:=h;rw[Int.ofNat.inj h]
 cases h
theorem ptrR_nil(h:ptrR v=some (.nil,ps)):v = .pointer none:=by
 unfold ptrR at h;split at h
 ·rfl
 ·cases h
 cases h
theorem Zsh{w:World}(d:Blk c g 26 #[.slice none 0 0,.slice none 0 0,.slice none 0 0,.int .i64 0])(a:Below w w c)(b:w.heap.size<=g):
 Below w w ((((c.setCell ⟨g,0,none⟩ (.slice none 0 0)).setCell ⟨g,1,none⟩ (.slice none 0 0)).setCell ⟨g,2,none⟩ (.slice none 0 0)).setCell ⟨g,3,none⟩ (.int .i64 0)) :=
 (((a.trans (Zn (Zd _ _ _ _) a.size b)).trans (Zn (Zd _ _ _ _) (by simpa using a.size) b)).trans (Zn (Zd _ _ _ _) (by simpa using a.size) b)).trans (Zn (Zd _ _ _ _) (by simpa using a.size) b)
theorem Am(h:i<n):toI (List.range n) i=(i:Int):=Fc List.nodup_range (List.getElem?_range h)
end
theorem Z1.over(w:World){z:Nat}(h:¬z<big):Z1 w none 0 0 true z:=by
 unfold Z1;rw[Wl h];exact⟨rfl,Zq.nil _ _ _ _ AA⟩
theorem Vb{w:World}(f:Blk a g 46 #[.slice none 0 0,.bool false])(d:Below w w a)(l:w.heap.size<=g)(A:Option Addr)(n c:Nat)(b:Bool):
 Below w w ((a.setCell ⟨g,0,none⟩ (.slice A n c)).setCell ⟨g,1,none⟩ (.bool b)) /\
 Blk ((a.setCell ⟨g,0,none⟩ (.slice A n c)).setCell ⟨g,1,none⟩ (.bool b)) g 46 #[.slice A n c,.bool b]/\Zf a ((a.setCell ⟨g,0,none⟩ (.slice A n c)).setCell ⟨g,1,none⟩ (.bool b)):=by
 refine⟨(d.trans (Zn (Zd _ _ _ _) d.size l)).trans (Zn (Zd _ _ _ _) (by simpa using d.size) l),(f.set 0 _).set 1 _,?_⟩;refine Zf.of_off ((Off.of_set a g 0 (.slice A n c)).trans (Off.of_set _ g 1 (.bool b)) λ_ _ h=>h) λq m=>?_;rw[m];intro o k z j;rw[f.cell o] at j;rcases o with _ | _ | o <;> cases j
theorem Uc{w:World}{n0 c0:Nat}{b0:Bool}(f:Blk a g 77 #[.slice A0 n0 c0,.bool b0])(d:Below w w a)(j:w.heap.size<=g)(A:Option Addr)(n c:Nat)(b:Bool):
 Below w w ((a.setCell ⟨g,0,none⟩ (.slice A n c)).setCell ⟨g,1,none⟩ (.bool b)) /\
 Blk ((a.setCell ⟨g,0,none⟩ (.slice A n c)).setCell ⟨g,1,none⟩ (.bool b)) g 77 #[.slice A n c,.bool b]/\Zf a ((a.setCell ⟨g,0,none⟩ (.slice A n c)).setCell ⟨g,1,none⟩ (.bool b)):=by
 refine⟨(d.trans (Zn (Zd _ _ _ _) d.size j)).trans (Zn (Zd _ _ _ _) (by simpa using d.size) j),(f.set 0 _).set 1 _,?_⟩;refine Zf.of_off ((Off.of_set a g 0 (.slice A n c)).trans (Off.of_set _ g 1 (.bool b)) λ_ _ h=>h) λq k=>?_;rw[k];exact Jk f
theorem Off.maps_trans{k:CH}{b:World}(x:Off k.maps a b)(y:Off k.maps b c):Off k.maps a c:=x.trans y λ_ _ h=>h
theorem Off.maps_new{k:CH}{b:World}(x:Off k.maps a b)(y:Off (λq=>q=g) b c)(d:a.heap.size<=g):Off k.maps a c:=x.trans y λq f h=>AA
theorem nodup_ne{b:List Nat}(h:b.Nodup){a:Nat}(o:b[m]? = some g)(p:b[a]? = some j)(q:a≠m):j≠g:=by
 rintro rfl;obtain⟨l,d⟩:=AN.1 o;obtain⟨n,f⟩:=AN.1 p;have k:=List.pairwise_iff_getElem.1 h;rcases (AA:m<a\/a<m) with c | c
 ·exact k m a l n c (d.trans f.symm)
 exact k a m n l c (f.trans d.symm)
section
open Go.Maps (Keyed IsMap Tidy)
variable {P:Program} {k:TypeId}
def Np(P:Program)(k:TypeId):List (Value × Nat)->DataW Unit
 | [] => .map []
 | p::r=>(Np P k r).put (litK P k p.1) (.lit (.int .i64 (p.2:Int)))
structure Vv (P:Program) (k:TypeId) (w:World) (g:Nat) (r:List (Value × Nat)):Prop where
 own:w.ownsMap P k ptrR g (Maps.size (Np P k r)) (Np P k r)
 good:∀p∈r,U4 P k p.1
theorem Vv.lt{w:World}(h:Vv P k w g r):g<w.heap.size:=h.own.lt
theorem Vv.block{w:World}(h:Vv P k w g r)(b:w'.heap[g]? = w.heap[g]?):Vv P k w' g r:=by
 refine⟨?_,h.good⟩;obtain⟨a,clock,c,q⟩:=h.own;exact⟨a,clock,b.trans c,q⟩
theorem Vv.no_cell{w:World}(h:Vv P k w g r)(o:Nat):w.cell? ⟨g,o,none⟩=none:=by
 obtain⟨b,clock,a,_⟩:=h.own;simp[World.cell?,a]
theorem Vv.noInt{w:World}(h:Vv P k w g r):Qf w g:=λo k z a=>by rw[h.no_cell] at a;cases a
end
section
open Go.Maps (Keyed IsMap Tidy)
open Go.Maps (Keyed IsMap Tidy)
theorem H8.lt{w:World}{b:Nat}(h:H8 w b x):b<w.heap.size:=by
 obtain⟨A,n,c,d,h1,_⟩:=h;exact h1.lt
theorem H8.kept{w:World}{b:Nat}(h:H8 w b x)(g:Zf w w')(f:w'.heap[b]? = w.heap[b]?):H8 w' b x:=by
 obtain⟨A,n,c,d,h1,a⟩:=h;exact⟨A,n,c,d,f.trans h1,a.kept g⟩
structure Zzo (w:World) (g:Nat) (G:Gr) (S:Nat->Prop) (ts:List ((Int × Nat) × Nat)):Prop where
 map:Vv Tryz.prog 247 w g (ts.map λp=>(kT p.1.1 p.1.2,p.2))
 key:∀p∈ts,p.1.1<0/\Zp p.1.1<100/\p.1.2<=100
 val:∀p∈ts,H8 w p.2 (Zv G p.1.1 p.1.2)/\¬S p.2
structure Zue (w:World) (g:Nat) (G:Gr) (S:Nat->Prop) (fs:List ((Nat × Nat × Nat) × Nat)):Prop where
 map:Vv Tryz.prog 251 w g (fs.map λp=>(kF p.1.1 p.1.2.1 p.1.2.2,p.2))
 key:∀p∈fs,p.1.1<=100/\p.1.2.1<=100/\p.1.2.2<=100
 val:∀p∈fs,∃x,G.rules[p.1.1]? = some x/\H8 w p.2 (Zx (Zv G) (x.right.drop p.1.2.1) p.1.2.2)/\¬S p.2
theorem Off.map_trans{k:BkH}{b:World}(x:Off k.map a b)(y:Off k.map b c):Off k.map a c:=x.trans y λ_ _ h=>h
end
theorem tr_cof(A:Option Addr)(n c:Nat)(d:Int)(w:World):
 Calls prog 202 #[.slice A n c,.int .i64 d] w λe w'=>e = .returned (.agg #[.slice A n c,.bool (d==2)])/\Below w w w':=by
 have h:=Zy w (.cells #[.slice none 0 0,.bool false] 77);have a:=Blk.new w 77 #[.slice none 0 0,.bool false];go_enter func202,ntmps202;go_upto_region 1 with fail;generalize w.alloc (.cells #[.slice none 0 0,.bool false] 77)=W at *;have c0:W.cell? ⟨w,0,none⟩=some (.slice none 0 0):=a.cell 0;have c1:W.cell? ⟨w,1,none⟩=some (.bool false):=a.cell 1;have k:=a.frozen 0;have l:=a.frozen 1;have o:=a.lt;obtain⟨b,f⟩:∃b,b=(d==2):=⟨_,rfl⟩;have g:=LH (Uc a h (AI _) A n c b);have j:=LH f;have m:(d==2)=b:=f.symm;clear a h f;go_wp2_with fail;refine AV (By (p:=4) AB _ _ w 77 #[.slice A n c,.bool b] (0,0) _ rfl g.out.2.1 underlying77 rfl AB) rfl ?_;exact⟨by rw[j.out],g.out.1⟩
section
variable {P:Program} {M:World->Prop} {R:World->World->Prop}
theorem Zwm.at:∀{ds:List (Value->World->Prop)},Zwm R ds->∀i v X a,atL ds i v X->R X a->atL ds i v a
 | [],_,i,_,_,_,_,_=>trivial
 | d::ds,h,0,v,X,a,hd,hb=>h.1 v X a hd hb
 | d::ds,h,i+1,v,X,a,hd,hb=>Zwm.at (ds:=ds) h.2 i v X a hd hb
end
section
open Go.Maps (Keyed IsMap Tidy)
theorem Fx.kept{w:World}{b:Nat}(h:Fx w b x)(g:Zf w w')(f:w'.heap[b]? = w.heap[b]?):Fx w' b x:=by
 obtain⟨A,n,c,d,h1,a⟩:=h;exact⟨A,n,c,d,f.trans h1,a.kept g⟩
end
section
open Go.Maps (Keyed IsMap Tidy)
open Go.Maps (Keyed IsMap Tidy)
variable {W0:World} {k:BkH} {h:GH} {G:Gr} {S':Nat->Prop} {w:World} {gR:Nat} {b:Nat->Bool} {u:Nat->Value} {X:World}
theorem Zu.trans{a b c:World}(h:Zu a b)(k:Zu b c):Zu a c:=by
 refine⟨Nat.le_trans h.1 k.1,λg d hi=>?_⟩;have e:=h.2 g d hi;refine (k.2 g (Nat.lt_of_lt_of_le d h.1) ?_).trans e;obtain⟨o,z,f⟩:=hi;exact⟨o,z,(World.cell?_of_block (a:=⟨g,o,none⟩) e).trans f⟩
theorem Zq.nkept{w:World}{c:Nat}(h:Zq .u32 w A n c xs)(l:Zu w w'):Zq .u32 w' A n c xs:=by
 refine⟨h.1,h.2.1,h.2.2.1,λd=>?_⟩;obtain⟨b,f,e,g,k⟩:=h.2.2.2 d;have h0:=k 0 d;have hi:∃o z,w.cell? ⟨b,o,none⟩=some (Value.int .u32 z):=by
  have q:0<xs.length:=by simpa [nums] using d
  refine⟨f+0,((xs[0]:Nat):Int),?_⟩;rw[h0];simp[nums,q]
 have m:=l.2 b g hi;exact⟨b,f,e,AJ g l.1,λj p=>(DO (a:=⟨b,f+j,none⟩) m).trans (k j p)⟩
theorem Z1.nkept{w:World}{c:Nat}{b:Bool}(h:Z1 w A n c b x)(a:Zu w w'):Z1 w' A n c b x:=⟨h.1,h.2.nkept a⟩
end
theorem InG.at{G:Gr}(a:G.Fits){x:Rul}(b:G.rules[i]? = some x):InG G x.right:=InG.rule a (AL b)
theorem Za.kept{w:World}{c:Nat}{d:List Int}(h:Za .i64 w A n c d)(p:Zf w w'):Za .i64 w' A n c d:=by
 refine⟨h.1,h.2.1,h.2.2.1,λf=>?_⟩;obtain⟨b,g,e,l,m⟩:=h.2.2.2 f;have h0:=m 0 f;have hi:∃o q z,w.cell? ⟨b,o,none⟩=some (Value.int q z):=by
  have t:0<d.length:=by simpa [ints] using f
  refine⟨g+0,.i64,d[0],?_⟩;rw[h0];simp[ints,t]
 have r:=p.2 b l hi;exact⟨b,g,e,AJ l p.1,λj s=>(DO (a:=⟨b,g+j,none⟩) r).trans (m j s)⟩
end Go.Proofs.YtggbjdmpjidhgaaGreatDoor
