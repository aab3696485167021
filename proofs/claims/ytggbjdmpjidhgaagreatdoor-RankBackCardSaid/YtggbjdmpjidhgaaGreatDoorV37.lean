/- trees: the reference's node, walked. -/
import Derived.Test.YtggbjdmpjidhgaaGreatDoorV23
import Derived.Test.YtggbjdmpjidhgaaGreatDoorV24
set_option linter.all false
set_option maxHeartbeats 1500000
set_option maxRecDepth 100000
namespace Go.Proofs.YtggbjdmpjidhgaaGreatDoor
open Go.RowKit Go.Proofs.Tryz
variable{G:Gr}{t ss ps wd rest:List Int}{ops:Array Oper}{o:Oper}{a b d c k A:Option Addr}{K:Act->World->Prop}{Q:Exit->Act->World->Prop}{E:Prop}{m f q n at_ B j g l:Nat}{non:Int}{w' w1:World}{xs:List Value}{row:Option Nat}
theorem Tryz.infoI64R:(prog.info? 3).map (λi=>(i.zero,i.size,i.bytes))=some (some (.int .i64 0),1,8):=AB
def WholeRet(G:Gr)(t:List Int)(w:World)(e:Ending)(w':World):Prop:=Below w.heap.size w w' /\
 ((Xl G t=none/\e = .returned (.agg #[.int .i64 0,.slice none 0 0,.int .i64 0,.slice none 0 0])) \/
  (∃(wd ps:List Int) (k a:Nat) (c:Option Addr) (f:Nat) (b:Option Addr) (d:Nat),Xl G t=some (wd,ps,k)/\0<a/\a<=t.length/\e = .returned (.agg #[.int .i64 ((a:Nat):Int),.slice c wd.length f,.int .i64 ((k:Nat):Int),.slice b ps.length d])/\Za .i64 w' c wd.length f wd/\Za .i64 w' b ps.length d ps))
theorem readT_some(b:G.right=true)(a:t.length<=300):Xl G t=match Y0 G t.length ⟨t,[],[]⟩ G.start with
 | none=>none
 | some (st,n)=>if st.rest=[] then some (st.word,st.posts,n) else none:=by
 unfold Xl;rw[b,show decide (t.length<=300)=true by rw[BB];exact a];rfl
section
open Ieee
variable {P:Program} {w:World}
theorem run_appendS(base:Nat)(t ty e:TypeId)(z:Value)(bytes:Nat)(v:P.underlying t=some (.slice e))(hi:(P.info? e).map (λi=>(i.zero,i.size,i.bytes))=some (some z,1,bytes))(O:z.cells.size=1)(A:Option Addr)(n c:Nat)(xs:List Value)(p:w.ownsRow base e 1 (.slice A n c) n xs)(o:Option Addr)(m c2:Nat)(a:List Value)(l:Sl w o m c2 a)(h1:∀u∈a,u.oneCell'=true)(B:n+m<=9223372036854775807)(E:(n+m)*bytes<=140737488355328)(C:base<=w.heap.size):
 ∃f g w',(Builtin.append_ #[t,t] ty #[.slice A n c,.slice o m c2]).run P w = .ok (.slice f (n+m) g) w'/\w'.ownsRow base e 1 (.slice f (n+m) g) (n+m) (xs++a)/\w.grownBy w' (Value.slice A n c).ownBlock /\
  (∀b,(Value.slice f (n+m) g).ownBlock=some b->b<w.heap.size->(Value.slice A n c).ownBlock=some b):=by
 obtain⟨i,s,N,M,D⟩:=info_parts hi;rcases o with _ | q
 ·have I:m=0:=by
   rcases DM m with h0 | h0
   ·exact h0
   obtain⟨b,R,k,_⟩:=l.2.2.2 (by rw[l.1];exact h0);cases k
  subst I;have J:a=[]:=BL l.1;subst J;exact⟨A,c,w,Gz base t ty e i v s A n c xs p c2,by simpa using p,⟨rfl,rfl,rfl,AI _,λ_ _ _=>rfl⟩,λb d _=>d⟩
 have G:∀j u,a[j]? = some u->w.cell? (q.add j)=some u:=by
  intro j u x;have H:j<a.length:=(AN.1 x).1;obtain⟨b,R,k,_,F⟩:=l.2.2.2 AA;injection k with k;subst k;have:=F j H;rw[x] at this;unfold Addr.add;split
  ·rename_i h0;subst h0;simpa using this
  exact this
 obtain⟨T,w',L,r,y,_,h⟩:=run_append_own_at (P:=P) w base t ty e i z 1 bytes v s N M D O AC _ n xs p q m c2 a (by rw[l.1,Ep]) G h1 (by simpa [maxLen] using B) E C;obtain⟨f,g,rfl⟩:=M3 r;refine⟨f,g,w',L,r,y,λb d S=>?_⟩;rcases h with h | h
 ·rw[<-h];exact d
 rw[h] at d;injection d with d;omega
theorem Kl{a:Act}(y:o.guard=none)(s x:Operand)(t:TypeId)(B:o.op = .call { callee := .builtin .append,args:=#[s,x],argTypes:=#[t,t] })(base:Nat)(e:TypeId)(z:Value)(bytes:Nat)(H:P.underlying t=some (.slice e))(hi:(P.info? e).map (λi=>(i.zero,i.size,i.bytes))=some (some z,1,bytes))(L:z.cells.size=1)(A:Option Addr)(n c:Nat)(xs:List Value)(G:a.eval s = .slice A n c)(C:w.ownsRow base e 1 (.slice A n c) n xs)(j:Option Addr)(m c2:Nat)(g:List Value)(J:a.eval x = .slice j m c2)(D:Sl w j m c2 g)(h1:∀u∈g,u.oneCell'=true)(q:n+m<=9223372036854775807)(v:(n+m)*bytes<=140737488355328)(r:base<=w.heap.size)(h:∀d f w',w'.ownsRow base e 1 (.slice d (n+m) f) (n+m) (xs++g)->w.grownBy w' (Value.slice A n c).ownBlock->(∀b,(Value.slice d (n+m) f).ownBlock=some b->b<w.heap.size->(Value.slice A n c).ownBlock=some b)->
   K (a.put o.dst (.slice d (n+m) f)) w'):if Region.wanted o (yielded ops a.tmps)=true then Oper.wp P o a w K Q else E:=by
 have I:Region.wanted o (yielded ops a.tmps)=true:=by simp[Region.wanted,y]
 rw[if_pos I];obtain⟨d,f,w',F,k,l,p⟩:=run_appendS (P:=P) base t o.type e z bytes H hi L A n c xs C j m c2 g D h1 q v r;unfold Oper.wp execOp;simp only[B,resolve,invoke,builtin,Sem.run_bind,Sem.run_pure,Result.andThen_ok,List.map_toArray,CU,List.map_nil,G,J,F];exact h d f w' k l p
end
section
open Ieee
theorem Fs.len{a:List Int}(h:Fs G ss ps a wd m):ps.length=a.length:=by
 induction h with
 | nil=>rfl
 | term _ _ b=>exact b
 | non _ _ _ _ _ c d=>simp only[AW,AS];omega
def preS(w0 p0:List Int)(a:WSt):WSt:=⟨a.rest,w0++a.word,p0++a.posts⟩
def preR(w0 p0:List Int)(x:WSt × Nat):WSt × Nat:=(preS w0 p0 x.1,x.2)
theorem symsP_pre{f:WSt->Int->Option (WSt × Nat)}{w0 p0:List Int}(c:∀a non,f (preS w0 p0 a) non=(f a non).map (preR w0 p0)):
 ∀(ss:List Int) (a:WSt) (top:Nat),Wt f ss (preS w0 p0 a) top=(Wt f ss a top).map (preR w0 p0):=by
 intro ss
 induction ss with
 | nil=>intro a top;rfl
 | cons s ss b =>
   intro a top;unfold Wt;by_cases h0:0<=s
   ·rw[if_pos h0,if_pos h0,<-b];simp[preS]
   rw[if_neg h0,if_neg h0,c];cases f a (-1-s) with
   | none=>rfl
   | some x =>
     obtain⟨d,n⟩:=x;exact b d (max top n)
theorem Zv4(G:Gr)(w0 p0:List Int):∀(q:Nat) (a:WSt) (non:Int),Y0 G q (preS w0 p0 a) non=(Y0 G q a non).map (preR w0 p0):=by
 intro q
 induction q with
 | zero=>intro a non;rfl
 | succ q c =>
   intro a non;unfold Y0;show (match a.rest with
    | []=>none
    | i::rest=>_)=_
   cases a.rest with
   | nil=>rfl
   | cons i rest =>
     simp only;cases Ur G i with
     | none=>rfl
     | some r =>
       simp only;by_cases b:r.left=non
       ·rw[if_pos b,if_pos b];have:=symsP_pre (w0:=w0) (p0:=p0) c r.right { a with rest:=rest } 0;show (Wt (Y0 G q) r.right (preS w0 p0 { a with rest:=rest }) 0).map _=_;rw[this,Option.map_map,Option.map_map];congr 1;funext x;simp[preS,preR]
       rw[if_neg b,if_neg b];rfl
theorem walkP_onto{a:WSt}(h:Y0 G q ⟨rest,[],[]⟩ non=some (a,n)):Y0 G q ⟨rest,wd,ps⟩ non=some (⟨a.rest,wd++a.word,ps++a.posts⟩,n):=by
 have:=Zv4 G wd ps q ⟨rest,[],[]⟩ non;rw[h] at this;simpa [preS,preR] using this
theorem walkP_onto_none(h:Y0 G q ⟨rest,[],[]⟩ non=none):Y0 G q ⟨rest,wd,ps⟩ non=none:=by
 have:=Zv4 G wd ps q ⟨rest,[],[]⟩ non;rw[h] at this;simpa [preS,preR] using this
theorem Fs.height{b:List Int}(h:Fs G ss ps b wd m):m<=ps.length:=by
 induction h with
 | nil=>simp
 | term h0 h a=>exact a
 | non h0 h1 c d f g j =>
   simp only[AW,AS];omega
theorem Fs.words(b:G.Fits){a:List Int}(h:Fs G ss ps a wd m):wd.length<=ss.length+6*ps.length:=by
 induction h with
 | nil=>simp
 | term h0 h l =>
   simp only[AW];omega
 | @non s i r ss q t w1 ps a wd p m h0 h1 f g k n o =>
   have d:r∈G.rules:=by
    obtain⟨j,_,c⟩:=Uo h1;exact AL c
   have:=b.len r d;simp only[AW,AS];omega
theorem walkP_shape(f:G.Fits){a:WSt}(h:Y0 G q ⟨t.drop at_,[],[]⟩ non=some (a,n)):
 ∃e:Nat,at_<e/\e<=t.length/\a.rest=t.drop e/\a.word.length<=6*(e-at_)/\a.posts.length=e-at_/\0<n/\n<=e-at_:=by
 obtain⟨i,r,d,B,w1,m,h1,p,b,s,c,g,k⟩:=Zz3 q _ _ _ _ h;simp only at c;have v:(t.drop at_).length=d.length+1+a.rest.length:=by rw[c];simp;omega
 have x:(t.drop at_).length=t.length-at_:=DC;have y:=b.len;have u:=b.height;have A:=b.words f;have o:r∈G.rules:=by
  obtain⟨j,_,l⟩:=Uo h1;exact AL l
 have z:=f.len _ o;refine⟨at_+d.length+1,AA,AA,?_,?_,?_,AA,AA⟩
 ·have:(t.drop at_).drop (d.length+1)=a.rest:=by rw[c];simp
  rw[<-this,List.drop_drop];congr 1
 ·rw[g];simp only[DG];omega
 rw[k];simp;omega
theorem Bw{P:Program}{w W:World}{a:Act}(F:o.guard=none)(s x:Operand)(t:TypeId)(H:o.op = .call { callee := .builtin .append,args:=#[s,x],argTypes:=#[t,t] })(base:Nat)(e:TypeId)(z:Value)(size bytes:Nat)(N:P.underlying t=some (.slice e))(hi:(P.info? e).map (λi=>(i.zero,i.size,i.bytes))=some (some z,size,bytes))(R:z.cells.size=size)(M:0<size)(A:Option Addr)(n c:Nat)(xs:List Value)(L:a.eval s = .slice A n c)(I:w.ownsRow base e size (.slice A n c) n xs)(g:List Value)(G:g.length=size)(O:a.eval x = .slice (some ⟨w,0,none⟩) 1 1)(h1:∀u∈g,u.oneCell'=true)(k:Below w w W)(C:∀j u,g[j]? = some u->W.cell? ((⟨w,0,none⟩:Addr).add j)=some u)(r:n+1<=9223372036854775807)(B:(n+1)*bytes<=140737488355328)(y:base<=w.heap.size)(h:∀d f w',w'.ownsRow base e size (.slice d (n+1) f) (n+1) (xs++g)->w.grownBy w' (Value.slice A n c).ownBlock->(∀b,(Value.slice d (n+1) f).ownBlock=some b->b<w.heap.size->(Value.slice A n c).ownBlock=some b)->
   K (a.put o.dst (.slice d (n+1) f)) w'):if Region.wanted o (yielded ops a.tmps)=true then Oper.wp P o a W K Q else E:=by
 have J:W.ownsRow base e size (.slice A n c) n xs:=Yq I λb _ _ l=>k.block b l;refine V5 F s x t H base e z size bytes N hi R M A n c xs L J _ 1 1 g (by rw[G,Nat.one_mul]) O C h1 r B (BC y k.size) λd f w' m p q=>?_;have D:w.grownBy W (Value.slice A n c).ownBlock:=Xz _ k;exact h d f w' m (Zc D p) λb v l=>q b v (AJ l k.size)
structure X7 (w:World) (B:Nat) (Aw:Option Addr) (cw:Nat) (wd:List Int) (Ap:Option Addr) (cp:Nat) (ps:List Int):Prop where
 word:w.ownsRow B 3 1 (.slice Aw wd.length cw) wd.length (ints .i64 wd)
 posts:w.ownsRow B 3 1 (.slice Ap ps.length cp) ps.length (ints .i64 ps)
 apart:Da (.slice Aw wd.length cw) (.slice Ap ps.length cp)
theorem X7.nil(w:World)(B:Nat):X7 w B none 0 [] none 0 []:=⟨BJ _ _ _ _,BJ _ _ _ _,λb a _=>by cases a⟩
theorem X7.keep{w:World}{f:Option Addr}(h:X7 w B f j wd d g ps)(k:∀b,B<=b->b<w.heap.size->w'.heap[b]? = w.heap[b]?):X7 w' B f j wd d g ps :=
 ⟨Yq h.word λb a _ c=>k b a c,Yq h.posts λb a _ c=>k b a c,h.apart⟩
theorem X7.below{w:World}{d:Nat}(h:X7 w B c f wd a d ps)(g:Below w w w'):X7 w' B c f wd a d ps:=h.keep λb _ j=>g.block b j
theorem X7.set{w:World}{d:Nat}(h:X7 w B c f wd a d ps)(p i:Nat)(v:Value)(j:p<B):X7 (w.setCell ⟨p,i,none⟩ v) B c f wd a d ps :=
 h.keep λb g _=>Eb w ⟨p,i,none⟩ v b (show b≠p by omega)
theorem X7.mono{w:World}{c:Nat}{d:Nat}(h:X7 w B b f wd a d ps)(g:c<=B):X7 w c b f wd a d ps:=⟨Bv h.word g,Bv h.posts g,h.apart⟩
theorem X7.putW{w:World}{f:Option Addr}(h:X7 w B f j wd k l ps)(a:List Int)(q:w1.ownsRow B 3 1 (.slice d (wd.length+a.length) g) (wd.length+a.length) (ints .i64 wd++ints .i64 a))(o:w.grownBy w1 (Value.slice f wd.length j).ownBlock)(n:∀b,(Value.slice d (wd.length+a.length) g).ownBlock=some b->b<w.heap.size->(Value.slice f wd.length j).ownBlock=some b):X7 w1 B d g (wd++a) k l ps:=by
 have m:(wd++a).length=wd.length+a.length:=AS;refine⟨?_,Yq h.posts λb _ c p=>o.block b p λe=>h.apart b e.symm c,?_⟩
 ·rw[m,Gj];exact q
 rw[m];exact λb h1 c=>h.apart b (n b h1 (h.posts.lt b c).2) c
theorem X7.putP{w:World}(h:X7 w B k l wd d g ps)(a:List Int)(q:w1.ownsRow B 3 1 (.slice c (ps.length+a.length) f) (ps.length+a.length) (ints .i64 ps++ints .i64 a))(o:w.grownBy w1 (Value.slice d ps.length g).ownBlock)(n:∀b,(Value.slice c (ps.length+a.length) f).ownBlock=some b->b<w.heap.size->(Value.slice d ps.length g).ownBlock=some b):X7 w1 B k l wd c f (ps++a):=by
 have m:(ps++a).length=ps.length+a.length:=AS;refine⟨Yq h.word λb _ j p=>o.block b p λe=>h.apart b j e.symm,?_,?_⟩
 ·rw[m,Gj];exact q
 rw[m];exact λb h1 j=>h.apart b h1 (n b j (h.word.lt b h1).2)
theorem Ke{w:World}{C e c:Nat}(d:w.ownsRow B e 1 (.slice A n c) n xs)(a:w.grownBy w1 (Value.slice A n c).ownBlock)(f:C<=B)(h:C<=w.heap.size):Below C w w1 :=
 ⟨a.os,a.tape,a.output,a.size,λb g=>a.block b AA λe=>by have:=(d.lt b e.symm).1;omega⟩
def NdC(e:Nat)(b:Option Addr)(g d k:Nat)(a:Option Addr)(f c:Nat):Array Value:=#[.int .i64 (e:Int),.slice b g d,.int .i64 (k:Int),.slice a f c]
def La(G:Gr)(q at_:Nat)(non:Int)(t:List Int)(w:World)(e:Ending)(w':World):Prop:=Below w.heap.size w w' /\
 ((Y0 G q ⟨t.drop at_,[],[]⟩ non=none/\e = .returned (.agg #[.int .i64 0,.slice none 0 0,.int .i64 0,.slice none 0 0])) \/
  (∃a k b d g c f,Y0 G q ⟨t.drop at_,[],[]⟩ non=some (a,k)/\a.rest=t.drop b/\at_<b/\b<=t.length/\a.word.length<=6*(b-at_)/\a.posts.length=b-at_/\0<k/\k<=b-at_ /\
   e = .returned (.agg #[.int .i64 ((b:Nat):Int),.slice d a.word.length g,.int .i64 ((k:Nat):Int),.slice c a.posts.length f])/\X7 w' w.heap.size d g a.word c f a.posts))
theorem Gw{C:Nat}{w:World}(h:Below C w w')(a:C<=w.heap.size)(g i:Nat)(v:Value)(b:C<=g):Below C w (w'.setCell ⟨g,i,none⟩ v):=h.trans (Zn (Zd _ _ _ _) (BC a h.size) b)
def YOr(G:Gr)(q e:Nat)(non:Int)(t:List Int)(a kk:Nat)(d c:List Int):Prop:=(Y0 G q ⟨t.drop e,[],[]⟩ non=none/\a=0) \/
 (∃b,Y0 G q ⟨t.drop e,[],[]⟩ non=some (b,kk)/\b.word=d/\b.posts=c/\b.rest=t.drop a/\e<a/\a<=t.length/\d.length<=6*(a-e)/\c.length=a-e/\0<kk/\kk<=a-e)
theorem La.form{w:World}{e:Ending}(h:La G q at_ non t w e w'):
 ∃(a kk:Nat) (j:Option Addr) (m:Nat) (g:Option Addr) (l:Nat) (f d:List Int),e = .returned (.agg #[.int .i64 ((a:Nat):Int),.slice j f.length m,.int .i64 ((kk:Nat):Int),.slice g d.length l])/\X7 w' w j m f g l d/\YOr G q at_ non t a kk f d:=by
 rcases h.2 with ⟨h1,b⟩ | ⟨c,k,a,o,r,n,p,h1,b,u,v,x,y,z,A,B,s⟩
 ·exact⟨0,0,none,0,none,0,[],[],b,X7.nil _ _,.inl ⟨h1,rfl⟩⟩
 exact⟨a,k,o,r,n,p,c.word,c.posts,B,s,.inr ⟨c,h1,rfl,rfl,b,u,v,x,y,z,A⟩⟩
def YAt(G:Gr)(q e:Nat)(non:Int)(t:List Int)(wr:World)(v:Value)(b:World):Prop :=
 ∃(a k kk:Nat) (g:Option Addr) (j:Nat) (f:Option Addr) (h:Nat) (d c:List Int),v = .pointer (some ⟨a,0,none⟩)/\wr.heap.size<=a/\Below wr.heap.size wr b /\
  Blk b a 111 (NdC k g d.length j kk f c.length h)/\X7 b wr.heap.size g j d f h c/\YOr G q e non t k kk d c
theorem X7.drew{w:World}{d:Nat}{c:Nat}(h:X7 w B b d wd a c ps):X7 w.drew B b d wd a c ps:=h.keep λ_ _ _=>rfl
theorem X7.keepRow{w:World}{d:Nat}(h:X7 w B c f wd a d ps)(j:w.grownBy w1 row)(l:∀b,B<=b->some b≠row):X7 w1 B c f wd a d ps:=h.keep λb g k=>j.block b k (l b g)
theorem G4(h:GH)(G:Gr)(At:Option Addr)(n c:Nat)(t:List Int)(a8:n<=400)(q at_:Nat)(non:Int)(w:World)(l:Yf w h G)(o:Za .i64 w At n c t)(ax:at_<=n)(V:h.n3<=100)(z:at_=n\/∃i,t[at_]? = some i/\∀r,Ur G i=some r->r.left≠non):
 Calls prog 126 #[GV h G.start,.slice At n c,.int .i64 (at_:Int),.int .i64 non] w (La G q at_ non t w):=by
 obtain rfl:=o.len;have az:=o.cap;obtain⟨a1,n1,c1,a2,n2,c2,a3,n3,c3⟩:=h;simp only[] at V;have e3:G.rules.length=n3:=l.rules.len;have k3:=l.rules.cap;simp only[] at k3;have B:=Zy w (.cells #[.slice a1 n1 c1,.slice a2 n2 c2,.slice a3 n3 c3,.int .i64 G.start] 26);have C:=Y1.new w 26 ⟨a1,n1,c1,a2,n2,c2,a3,n3,c3⟩ G.start;have y:=Zy (w.alloc (.cells #[.slice a1 n1 c1,.slice a2 n2 c2,.slice a3 n3 c3,.int .i64 G.start] 26)) (.cells #[.int .i64 0,.slice none 0 0,.int .i64 0,.slice none 0 0] 111);have g:=Blk.new (w.alloc (.cells #[.slice a1 n1 c1,.slice a2 n2 c2,.slice a3 n3 c3,.int .i64 G.start] 26)) 111 #[.int .i64 0,.slice none 0 0,.int .i64 0,.slice none 0 0];have u:=Zz B y;have D:=C.below y;have H:=Zl w (.cells #[.slice a1 n1 c1,.slice a2 n2 c2,.slice a3 n3 c3,.int .i64 G.start] 26);rw[H] at g;have E:Y0 G q ⟨t.drop at_,[],[]⟩ non=none:=by
  rcases z with rfl | ⟨i,hi,j⟩
  ·exact B3 (by show t.drop t.length=[];exact List.drop_eq_nil_of_le (AI _))
  cases q with
  | zero=>rfl
  | succ q=>exact Fd (rest:=t.drop (at_+1)) (Q8 hi) j
 have S:=LH E;have P:=LH l;have U:=LH o;clear y C H E B l o;have fin:∀(W:World) (w0:World),Below w w W->La G q at_ non t w (.returned (.agg #[.int .i64 0,.slice none 0 0,.int .i64 0,.slice none 0 0])) W:=λW _ j=>⟨j,.inl ⟨S.out,rfl⟩⟩;have O:=LH fin
 clear fin
 go_enter func126,ntmps126;have⟨z5,z0,z1,z2,z3⟩:=D;simp only[] at z0 z1 z2 z3;go_wp2_with fail;generalize (w.alloc (.cells #[.slice a1 n1 c1,.slice a2 n2 c2,.slice a3 n3 c3,.int .i64 G.start] 26)).alloc (.cells #[.int .i64 0,.slice none 0 0,.int .i64 0,.slice none 0 0] 111)=a at *;have k:=g.frozen;have f0:=k 0;have f1:=k 1;have f2:=k 2;have f3:=k 3;clear k;have bc:=Yt a;have bf:=Kh a;have bb:w.heap.size<=a.heap.size:=u.size;have a7:w.heap.size+1<a.heap.size:=g.lt;have L:=LH g;have s:=LH u;have A:=LH z;clear g u D z;by_cases v:at_=t.length
 case' pos =>
  subst v;clear A;refine Zs AB AB ?_;repeat (go_big_quiet_step (fail))
  refine BK ?_;rintro _⟨x,rfl⟩
 case' neg =>
  have Y:at_<t.length:=AA
  obtain⟨b,ad,i,rfl,j,R,q0⟩:=U.out.get Y;rw[<-s.out.cell (p:=⟨b,ad+at_,none⟩) j] at q0;have ay:b<a.heap.size:=AA
  have a0:decide (t.length<=at_)=false:=by rw[AY];omega
  have N:Hid (∀r,Ur G i=some r->r.left≠non):=by
   rcases A.out with h0 | ⟨i',m,h0⟩
   ·exact absurd h0 v
   rw[R.out] at m;injection m with m;subst m;exact LH h0
  clear A v;by_cases a5:i<0
  case' pos =>
   refine Zs AB AB ?_;repeat (go_big_quiet_step (fail))
   refine BK ?_;rintro _⟨x,rfl⟩
  case' neg =>
   by_cases a6:(n3:Int)<=i
   case' pos =>
    refine Zs AB AB ?_;repeat (go_big_quiet_step (fail))
    refine BK ?_;rintro _⟨x,rfl⟩
   case' neg =>
    obtain⟨f,rfl⟩:∃f:Nat,i=(f:Int):=⟨i.toNat,AA⟩;have X:f<n3:=AA
    obtain⟨I,af,r,Arr,am,rfl,Z,T,ag,ah,ai,aa⟩:=P.out.rules.get X;rw[<-s.out.cell (p:=⟨I,af+f*3,none⟩) Z] at ag;have F:Ur G (f:Int)=some r:=by
     unfold Ur;rw[if_pos AA,DF];exact T.out
    have a9:(r.left != non)=true:=by rw[BN];exact N.out r F
    have ba:I<a.heap.size:=AA
    have a4:decide (n3<=f)=false:=by rw[AY];omega
    clear F ah ai aa;generalize r.left=rl at *;refine Zs AB AB ?_;repeat (go_big_quiet_step (fail))
    refine BK ?_;rintro _⟨x,rfl⟩
 all_goals
  have d:=L.out.ext (Zr a x);have g0:=d.frozen 0;have g1:=d.frozen 1;have g2:=d.frozen 2;have g3:=d.frozen 3;have k0:(bl a x).cell? ⟨w+1,0,none⟩=some (.int .i64 0):=d.cell 0;have k1:(bl a x).cell? ⟨w+1,1,none⟩=some (.slice none 0 0):=d.cell 1;have k2:(bl a x).cell? ⟨w+1,2,none⟩=some (.int .i64 0):=d.cell 2;have bi:(bl a x).cell? ⟨w+1,3,none⟩=some (.slice none 0 0):=d.cell 3;have J:=LH (Zz s.out (Zr a x));have M:=LH d;clear d;generalize bl a x=W2 at *;go_wp2_with fail;refine AV (By (p:=8) AB _ _ (w.heap.size+1) 111 #[.int .i64 0,.slice none 0 0,.int .i64 0,.slice none 0 0] (0,0) _ rfl ((((M.out.set 0 (.int .i64 0)).set 1 (.slice none 0 0)).set 2 (.int .i64 0)).set 3 (.slice none 0 0)) underlying111 rfl AB) rfl ?_;exact O.out _ w (Zg (Zg (Zg (Zg J.out _ _ _ AA) _ _ _ AA) _ _ _ AA) _ _ _ AA)
end
end Go.Proofs.YtggbjdmpjidhgaaGreatDoor
