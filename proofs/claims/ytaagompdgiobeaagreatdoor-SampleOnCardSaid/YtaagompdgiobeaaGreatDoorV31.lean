/- trees, plainly: who goes through rules, and what is left. -/
import Derived.Test.YtaagompdgiobeaaGreatDoorV20
import Derived.Test.YtaagompdgiobeaaGreatDoorV29
set_option linter.all false
set_option maxHeartbeats 1500000
set_option maxRecDepth 100000
namespace Go.Proofs.YtaagompdgiobeaaGreatDoor
open Go.RowKit Go.Proofs.Tryz
variable{G:Gr}{i non s:Int}{r:Rul}{q top n m at_ B f j g:Nat}{l ss ps wd t:List Int}{k b a d c A:Option Addr}{ops:Array Oper}{o:Oper}{K:Act->World->Prop}{Q:Exit->Act->World->Prop}{E:Prop}{w' w1:World}{xs:List Value}{row:Option Nat}
structure WSt where
 rest:List Int
 word:List Int
 posts:List Int
def Wt(f:WSt->Int->Option (WSt × Nat)):List Int->WSt->Nat->Option (WSt × Nat)
 | [],st,top=>some (st,top)
 | s::ss,st,top =>
   if 0<=s then Wt f ss { st with word:=st.word++[s] } top
   else match f st (-1-s) with
    | none=>none
    | some (st',n)=>Wt f ss st' (max top n)
def Ur(G:Gr)(i:Int):Option Rul:=if 0<=i then G.rules[i.toNat]? else none
def Y0(G:Gr):Nat->WSt->Int->Option (WSt × Nat)
 | 0,_,_=>none
 | q+1,st,non =>
   match st.rest with
   | []=>none
   | i::rest =>
     match Ur G i with
     | none=>none
     | some r =>
       if r.left=non then
        (Wt (Y0 G q) r.right { st with rest:=rest } 0).map λx=>({ x.1 with posts:=x.1.posts++[i] },x.2+1)
       else none
theorem Uo(h:Ur G i=some r):∃j:Nat,i=(j:Int)/\G.rules[j]? = some r:=by
 unfold Ur at h;split at h
 ·exact⟨i.toNat,AA,h⟩
 cases h
theorem B3{a:WSt}(h:a.rest=[]):Y0 G q a non=none:=by
 cases q with
 | zero=>rfl
 | succ q =>
   unfold Y0;rw[h]
theorem Fd{a:WSt}{rest:List Int}(h:a.rest=i::rest)(b:∀r,Ur G i=some r->r.left≠non):Y0 G (q+1) a non=none:=by
 unfold Y0;rw[h];simp only;split
 ·rfl
 rename_i r c;rw[if_neg (b r c)]
theorem Zxx{f:WSt->Int->Option (WSt × Nat)}{k:Nat}{a:WSt}(b:l[k]? = some s)(h0:0<=s):Wt f (l.drop k) a top=Wt f (l.drop (k+1)) { a with word:=a.word++[s] } top:=by
 rw[Q8 b,Wt,if_pos h0]
theorem Zwv{f:WSt->Int->Option (WSt × Nat)}{k:Nat}{a:WSt}(c:l[k]? = some s)(h0:¬0<=s)(b:f a (-1-s)=none):Wt f (l.drop k) a top=none:=by
 rw[Q8 c,Wt,if_neg h0,b]
theorem Zxs{f:WSt->Int->Option (WSt × Nat)}{k:Nat}{a b:WSt}(d:l[k]? = some s)(h0:¬0<=s)(c:f a (-1-s)=some (b,n)):Wt f (l.drop k) a top=Wt f (l.drop (k+1)) b (max top n):=by
 rw[Q8 d,Wt,if_neg h0,c]
theorem Zwq{a:WSt}{rest:List Int}(h:a.rest=i::rest)(c:Ur G i=some r)(b:r.left=non):
 Y0 G (q+1) a non=(Wt (Y0 G q) r.right { a with rest:=rest } 0).map λx=>({ x.1 with posts:=x.1.posts++[i] },x.2+1):=by
 rw[Y0,h];simp only;rw[c];simp only;rw[if_pos b]
def Xl(G:Gr)(t:List Int):Option (List Int × List Int × Nat) :=
 if G.right&&decide (t.length<=300) then
  match Y0 G t.length ⟨t,[],[]⟩ G.start with
  | none=>none
  | some (st,n)=>if st.rest=[] then some (st.word,st.posts,n) else none
 else none
inductive Fs (G:Gr):List Int->List Int->List Int->List Int->Nat->Prop
 | nil:Fs G [] [] [] [] 0
 | term {s:Int} {ss ps qs wd:List Int} {m:Nat}:0<=s->Fs G ss ps qs wd m->Fs G (s::ss) ps qs (s::wd) m
 | non {s i:Int} {r:Rul} {ss p1 q1 w1 ps qs wd:List Int} {m1 m:Nat}:s<0->Ur G i=some r->r.left=-1-s->Fs G r.right p1 q1 w1 m1->Fs G ss ps qs wd m->Fs G (s::ss) (i::(p1++ps)) (q1++i::qs) (w1++wd) (max (m1+1) m)
def Stp(G:Gr)(a:WSt)(non:Int)(b:WSt)(n:Nat):Prop :=
 ∃i r c d w1 m,Ur G i=some r/\r.left=non/\Fs G r.right c d w1 m/\n=m+1/\a.rest=i::(c++b.rest)/\b.word=a.word++w1/\b.posts=a.posts++(d++[i])
theorem symsP_sound{f:WSt->Int->Option (WSt × Nat)}(u:∀a non b n,f a non=some (b,n)->Stp G a non b n):
 ∀(ss:List Int) (a:WSt) (top:Nat) (b:WSt) (n:Nat),Wt f ss a top=some (b,n)->
  ∃ps c wd m,Fs G ss ps c wd m/\n=max top m/\a.rest=ps++b.rest/\b.word=a.word++wd/\b.posts=a.posts++c:=by
 intro ss
 induction ss with
 | nil =>
   intro a top b n h;simp only[Wt,BX,DN] at h;obtain⟨rfl,rfl⟩:=h;exact⟨[],[],[],0,.nil,AA,AE,AE,AE⟩
 | cons s ss l =>
   intro a top b n h;unfold Wt at h;split at h
   ·rename_i h0;obtain⟨ps,c,wd,m,h1,k,d,g,j⟩:=l _ _ _ _ h;exact⟨ps,c,s::wd,m,.term h0 h1,k,d,by rw[g];simp,j⟩
   rename_i h0;split at h
   ·cases h
   rename_i A n1 t;obtain⟨i,r,y,z,w1,x,a1,a2,a3,v,o,p,q⟩:=u _ _ _ _ t;obtain⟨ps,c,wd,m,h1,k,d,g,j⟩:=l _ _ _ _ h;exact⟨_,_,_,_,.non AA a1 a2 a3 h1,AA,by rw[o,d];simp,by rw[g,p];simp,by rw[j,q];simp⟩
theorem Zz3:∀(q:Nat) (a:WSt) (non:Int) (b:WSt) (n:Nat),Y0 G q a non=some (b,n)->Stp G a non b n:=by
 intro q
 induction q with
 | zero=>intro a non b n h;cases h
 | succ q l =>
   intro a non b n h;unfold Y0 at h;split at h
   ·cases h
   rename_i i rest k;split at h
   ·cases h
   rename_i r hi;split at h
   ·rename_i j;cases c:Wt (Y0 G q) r.right { a with rest:=rest } 0 with
    | none=>rw[c] at h;cases h
    | some x =>
      obtain⟨s,t⟩:=x;rw[c] at h;simp only[Ek,BX,DN] at h;obtain⟨rfl,rfl⟩:=h;obtain⟨ps,o,wd,m,h1,p,d,f,g⟩:=symsP_sound (λa non b n=>l a non b n) _ _ _ _ _ c;exact⟨i,r,ps,o,wd,m,hi,j,h1,AA,by rw[k];simp only[] at d;rw[d],f,by simp only[g,DX]⟩
   cases h
theorem symsP_full{b:List Int}(h:Fs G ss ps b wd m):
 ∀(q:Nat) (rest w p:List Int) (top:Nat),ps.length<=q->Wt (Y0 G q) ss ⟨ps++rest,w,p⟩ top=some (⟨rest,w++wd,p++b⟩,max top m):=by
 induction h with
 | nil=>intro q rest w p top _;simp[Wt]
 | @term s ss ps b wd m h0 _ j =>
   intro q rest w p top c;have:=j q rest (w++[s]) p top c;unfold Wt;rw[if_pos h0];simp only[];rw[this];simp
 | @non s i r ss d o w1 ps b wd n m h0 g f _ _ k l =>
   intro q rest w p top c;simp only[AY,AV] at c;obtain⟨a,rfl⟩:∃a,q=a+1:=⟨q-1,AA⟩;have e:Y0 G (a+1) ⟨i::(d++ps)++rest,w,p⟩ (-1-s)=some (⟨ps++rest,w++w1,p++(o++[i])⟩,n+1):=by
    unfold Y0;simp only[DM,g,if_pos f];have:=k a (ps++rest) w p 0 AA;rw[show d++ps++rest=d++(ps++rest) from DX _ _ _,this];simp
   unfold Wt;rw[if_neg AA,e];simp only[];rw[l (a+1) rest _ _ _ AA];simp only[DX,DM,DA,BX,DN,true_and];omega
theorem readT_full{k:Nat}(a:G.right=true)(c:t.length<=300)(h:Fs G [-1-G.start] t ps wd k):Xl G t=some (wd,ps,k):=by
 have f:=(Gr.fits a).st;have:=symsP_full h t.length [] [] [] 0 (AJ _);unfold Xl;rw[a,show decide (t.length<=300)=true by rw[BA];exact c];simp only[Bool.and_self,if_true];unfold Wt at this;rw[if_neg AA,show -1-(-1-G.start)=G.start by omega,DK] at this;cases b:Y0 G t.length ⟨t,[],[]⟩ G.start with
 | none=>rw[b] at this;cases this
 | some x =>
   obtain⟨g,j⟩:=x;rw[b] at this;simp only[Wt,BX,DN,DA] at this;obtain⟨rfl,d⟩:=this;simp only[if_true,BX,DN,true_and];omega
def Vj(G:Gr)(t:List Int)(b:List Nat)(a:Nat):Prop :=
 (Xl G t=none/\b=[]/\a=1)\/∃wd ps k,Xl G t=some (wd,ps,k) /\
   ((10<wd.length/\b=[]/\a=5)\/(wd.length<=10/\(Z2 G (wd.length:Int)).2≠0/\b=[]/\a=(Z2 G (wd.length:Int)).2) \/
     (wd.length<=10/\(Z2 G (wd.length:Int)).2=0/\a=0/\∃u r,UnT (Zi G) (Zi G).start.toNat wd.length r u/\t=(u.map (Yr G)).map (λi:Nat=>(i:Int))/\b=limbs r))
theorem Fs.len{a:List Int}(h:Fs G ss ps a wd m):ps.length=a.length:=by
 induction h with
 | nil=>rfl
 | term _ _ b=>exact b
 | non _ _ _ _ _ c d=>simp only[AY,AV];omega
def preS(w0 p0:List Int)(a:WSt):WSt:=⟨a.rest,w0++a.word,p0++a.posts⟩
def preR(w0 p0:List Int)(x:WSt × Nat):WSt × Nat:=(preS w0 p0 x.1,x.2)
theorem symsP_pre{f:WSt->Int->Option (WSt × Nat)}{w0 p0:List Int}(c:∀a non,f (preS w0 p0 a) non=(f a non).map (preR w0 p0)):
 ∀(ss:List Int) (a:WSt) (top:Nat),Wt f ss (preS w0 p0 a) top=(Wt f ss a top).map (preR w0 p0):=by
 intro ss
 induction ss with
 | nil=>intro a top;rfl
 | cons s ss b =>
   intro a top;unfold Wt;by_cases h0:0<=s
   ·rw[if_pos h0,if_pos h0,<-b];simp[preS]
   rw[if_neg h0,if_neg h0,c];cases f a (-1-s) with
   | none=>rfl
   | some x =>
     obtain⟨d,n⟩:=x;exact b d (max top n)
theorem Zv4(G:Gr)(w0 p0:List Int):∀(q:Nat) (a:WSt) (non:Int),Y0 G q (preS w0 p0 a) non=(Y0 G q a non).map (preR w0 p0):=by
 intro q
 induction q with
 | zero=>intro a non;rfl
 | succ q c =>
   intro a non;unfold Y0;show (match a.rest with
    | []=>none
    | i::rest=>_)=_
   cases a.rest with
   | nil=>rfl
   | cons i rest =>
     simp only;cases Ur G i with
     | none=>rfl
     | some r =>
       simp only;by_cases b:r.left=non
       ·rw[if_pos b,if_pos b];have:=symsP_pre (w0:=w0) (p0:=p0) c r.right { a with rest:=rest } 0;show (Wt (Y0 G q) r.right (preS w0 p0 { a with rest:=rest }) 0).map _=_;rw[this,Option.map_map,Option.map_map];congr 1;funext x;simp[preS,preR]
       rw[if_neg b,if_neg b];rfl
theorem walkP_onto{rest:List Int}{a:WSt}(h:Y0 G q ⟨rest,[],[]⟩ non=some (a,n)):Y0 G q ⟨rest,wd,ps⟩ non=some (⟨a.rest,wd++a.word,ps++a.posts⟩,n):=by
 have:=Zv4 G wd ps q ⟨rest,[],[]⟩ non;rw[h] at this;simpa [preS,preR] using this
theorem walkP_onto_none{rest:List Int}(h:Y0 G q ⟨rest,[],[]⟩ non=none):Y0 G q ⟨rest,wd,ps⟩ non=none:=by
 have:=Zv4 G wd ps q ⟨rest,[],[]⟩ non;rw[h] at this;simpa [preS,preR] using this
theorem Fs.height{b:List Int}(h:Fs G ss ps b wd m):m<=ps.length:=by
 induction h with
 | nil=>simp
 | term h0 h a=>exact a
 | non h0 h1 c d f g j =>
   simp only[AY,AV];omega
theorem Fs.words(b:G.Fits){a:List Int}(h:Fs G ss ps a wd m):wd.length<=ss.length+6*ps.length:=by
 induction h with
 | nil=>simp
 | term h0 h l =>
   simp only[AY];omega
 | @non s i r ss q t w1 ps a wd p m h0 h1 f g k n o =>
   have d:r∈G.rules:=by
    obtain⟨j,_,c⟩:=Uo h1;exact AN c
   have:=b.len r d;simp only[AY,AV];omega
theorem walkP_shape(f:G.Fits){a:WSt}(h:Y0 G q ⟨t.drop at_,[],[]⟩ non=some (a,n)):
 ∃e:Nat,at_<e/\e<=t.length/\a.rest=t.drop e/\a.word.length<=6*(e-at_)/\a.posts.length=e-at_/\0<n/\n<=e-at_:=by
 obtain⟨i,r,d,B,w1,m,h1,p,b,s,c,g,k⟩:=Zz3 q _ _ _ _ h;simp only at c;have v:(t.drop at_).length=d.length+1+a.rest.length:=by rw[c];simp;omega
 have x:(t.drop at_).length=t.length-at_:=BT;have y:=b.len;have u:=b.height;have A:=b.words f;have o:r∈G.rules:=by
  obtain⟨j,_,l⟩:=Uo h1;exact AN l
 have z:=f.len _ o;refine⟨at_+d.length+1,AA,AA,?_,?_,?_,AA,AA⟩
 ·have:(t.drop at_).drop (d.length+1)=a.rest:=by rw[c];simp
  rw[<-this,List.drop_drop];congr 1
 ·rw[g];simp only[DA];omega
 rw[k];simp;omega
theorem Bw{P:Program}{w W:World}{a:Act}(F:o.guard=none)(s x:Operand)(t:TypeId)(H:o.op = .call { callee := .builtin .append,args:=#[s,x],argTypes:=#[t,t] })(base:Nat)(e:TypeId)(z:Value)(size bytes:Nat)(N:P.underlying t=some (.slice e))(hi:(P.info? e).map (λi=>(i.zero,i.size,i.bytes))=some (some z,size,bytes))(R:z.cells.size=size)(M:0<size)(A:Option Addr)(n c:Nat)(xs:List Value)(L:a.eval s = .slice A n c)(I:w.ownsRow base e size (.slice A n c) n xs)(g:List Value)(G:g.length=size)(O:a.eval x = .slice (some ⟨w,0,none⟩) 1 1)(h1:∀u∈g,u.oneCell'=true)(k:Below w w W)(C:∀j u,g[j]? = some u->W.cell? ((⟨w,0,none⟩:Addr).add j)=some u)(r:n+1<=9223372036854775807)(B:(n+1)*bytes<=140737488355328)(y:base<=w.heap.size)(h:∀d f w',w'.ownsRow base e size (.slice d (n+1) f) (n+1) (xs++g)->w.grownBy w' (Value.slice A n c).ownBlock->(∀b,(Value.slice d (n+1) f).ownBlock=some b->b<w.heap.size->(Value.slice A n c).ownBlock=some b)->
   K (a.put o.dst (.slice d (n+1) f)) w'):if Region.wanted o (yielded ops a.tmps)=true then Oper.wp P o a W K Q else E:=by
 have J:W.ownsRow base e size (.slice A n c) n xs:=Yq I λb _ _ l=>k.block b l;refine V5 F s x t H base e z size bytes N hi R M A n c xs L J _ 1 1 g (by rw[G,Nat.one_mul]) O C h1 r B (BC y k.size) λd f w' m p q=>?_;have D:w.grownBy W (Value.slice A n c).ownBlock:=Xz _ k;exact h d f w' m (Zc D p) λb v l=>q b v (AK l k.size)
structure X7 (w:World) (B:Nat) (Aw:Option Addr) (cw:Nat) (wd:List Int) (Ap:Option Addr) (cp:Nat) (ps:List Int):Prop where
 word:w.ownsRow B 3 1 (.slice Aw wd.length cw) wd.length (ints .i64 wd)
 posts:w.ownsRow B 3 1 (.slice Ap ps.length cp) ps.length (ints .i64 ps)
 apart:Da (.slice Aw wd.length cw) (.slice Ap ps.length cp)
theorem X7.nil(w:World)(B:Nat):X7 w B none 0 [] none 0 []:=⟨BN _ _ _ _,BN _ _ _ _,λb a _=>by cases a⟩
theorem X7.keep{w:World}{f:Option Addr}(h:X7 w B f j wd d g ps)(k:∀b,B<=b->b<w.heap.size->w'.heap[b]? = w.heap[b]?):X7 w' B f j wd d g ps :=
 ⟨Yq h.word λb a _ c=>k b a c,Yq h.posts λb a _ c=>k b a c,h.apart⟩
theorem X7.below{w:World}{d:Nat}(h:X7 w B c f wd a d ps)(g:Below w w w'):X7 w' B c f wd a d ps:=h.keep λb _ j=>g.block b j
theorem X7.set{w:World}{d:Nat}(h:X7 w B c f wd a d ps)(p i:Nat)(v:Value)(j:p<B):X7 (w.setCell ⟨p,i,none⟩ v) B c f wd a d ps :=
 h.keep λb g _=>Eb w ⟨p,i,none⟩ v b (show b≠p by omega)
theorem X7.mono{w:World}{c:Nat}{d:Nat}(h:X7 w B b f wd a d ps)(g:c<=B):X7 w c b f wd a d ps:=⟨Bv h.word g,Bv h.posts g,h.apart⟩
theorem X7.putW{w:World}{f:Option Addr}{l:Nat}(h:X7 w B f j wd k l ps)(a:List Int)(q:w1.ownsRow B 3 1 (.slice d (wd.length+a.length) g) (wd.length+a.length) (ints .i64 wd++ints .i64 a))(o:w.grownBy w1 (Value.slice f wd.length j).ownBlock)(n:∀b,(Value.slice d (wd.length+a.length) g).ownBlock=some b->b<w.heap.size->(Value.slice f wd.length j).ownBlock=some b):X7 w1 B d g (wd++a) k l ps:=by
 have m:(wd++a).length=wd.length+a.length:=AV;refine⟨?_,Yq h.posts λb _ c p=>o.block b p λe=>h.apart b e.symm c,?_⟩
 ·rw[m,Gj];exact q
 rw[m];exact λb h1 c=>h.apart b (n b h1 (h.posts.lt b c).2) c
theorem X7.putP{w:World}{l:Nat}(h:X7 w B k l wd d g ps)(a:List Int)(q:w1.ownsRow B 3 1 (.slice c (ps.length+a.length) f) (ps.length+a.length) (ints .i64 ps++ints .i64 a))(o:w.grownBy w1 (Value.slice d ps.length g).ownBlock)(n:∀b,(Value.slice c (ps.length+a.length) f).ownBlock=some b->b<w.heap.size->(Value.slice d ps.length g).ownBlock=some b):X7 w1 B k l wd c f (ps++a):=by
 have m:(ps++a).length=ps.length+a.length:=AV;refine⟨Yq h.word λb _ j p=>o.block b p λe=>h.apart b j e.symm,?_,?_⟩
 ·rw[m,Gj];exact q
 rw[m];exact λb h1 j=>h.apart b h1 (n b j (h.word.lt b h1).2)
theorem Ke{w:World}{C e c:Nat}(d:w.ownsRow B e 1 (.slice A n c) n xs)(a:w.grownBy w1 (Value.slice A n c).ownBlock)(f:C<=B)(h:C<=w.heap.size):Below C w w1 :=
 ⟨a.os,a.tape,a.output,a.size,λb g=>a.block b AA λe=>by have:=(d.lt b e.symm).1;omega⟩
def NdC(e:Nat)(b:Option Addr)(g d k:Nat)(a:Option Addr)(f c:Nat):Array Value:=#[.int .i64 (e:Int),.slice b g d,.int .i64 (k:Int),.slice a f c]
def La(G:Gr)(q at_:Nat)(non:Int)(t:List Int)(w:World)(e:Ending)(w':World):Prop:=Below w.heap.size w w' /\
 ((Y0 G q ⟨t.drop at_,[],[]⟩ non=none/\e = .returned (.agg #[.int .i64 0,.slice none 0 0,.int .i64 0,.slice none 0 0])) \/
  (∃a k b d g c f,Y0 G q ⟨t.drop at_,[],[]⟩ non=some (a,k)/\a.rest=t.drop b/\at_<b/\b<=t.length/\a.word.length<=6*(b-at_)/\a.posts.length=b-at_/\0<k/\k<=b-at_ /\
   e = .returned (.agg #[.int .i64 ((b:Nat):Int),.slice d a.word.length g,.int .i64 ((k:Nat):Int),.slice c a.posts.length f])/\X7 w' w.heap.size d g a.word c f a.posts))
theorem Gw{C:Nat}{w:World}(h:Below C w w')(a:C<=w.heap.size)(g i:Nat)(v:Value)(b:C<=g):Below C w (w'.setCell ⟨g,i,none⟩ v):=h.trans (Zn (Zd _ _ _ _) (BC a h.size) b)
def YOr(G:Gr)(q e:Nat)(non:Int)(t:List Int)(a kk:Nat)(d c:List Int):Prop:=(Y0 G q ⟨t.drop e,[],[]⟩ non=none/\a=0) \/
 (∃b,Y0 G q ⟨t.drop e,[],[]⟩ non=some (b,kk)/\b.word=d/\b.posts=c/\b.rest=t.drop a/\e<a/\a<=t.length/\d.length<=6*(a-e)/\c.length=a-e/\0<kk/\kk<=a-e)
theorem La.form{w:World}{e:Ending}(h:La G q at_ non t w e w'):
 ∃(a kk:Nat) (j:Option Addr) (m:Nat) (g:Option Addr) (l:Nat) (f d:List Int),e = .returned (.agg #[.int .i64 ((a:Nat):Int),.slice j f.length m,.int .i64 ((kk:Nat):Int),.slice g d.length l])/\X7 w' w j m f g l d/\YOr G q at_ non t a kk f d:=by
 rcases h.2 with ⟨h1,b⟩ | ⟨c,k,a,o,r,n,p,h1,b,u,v,x,y,z,A,B,s⟩
 ·exact⟨0,0,none,0,none,0,[],[],b,X7.nil _ _,.inl ⟨h1,rfl⟩⟩
 exact⟨a,k,o,r,n,p,c.word,c.posts,B,s,.inr ⟨c,h1,rfl,rfl,b,u,v,x,y,z,A⟩⟩
def YAt(G:Gr)(q e:Nat)(non:Int)(t:List Int)(wr:World)(v:Value)(b:World):Prop :=
 ∃(a k kk:Nat) (g:Option Addr) (j:Nat) (f:Option Addr) (h:Nat) (d c:List Int),v = .pointer (some ⟨a,0,none⟩)/\wr.heap.size<=a/\Below wr.heap.size wr b /\
  Blk b a 74 (NdC k g d.length j kk f c.length h)/\X7 b wr.heap.size g j d f h c/\YOr G q e non t k kk d c
theorem X7.drew{w:World}{d:Nat}{c:Nat}(h:X7 w B b d wd a c ps):X7 w.drew B b d wd a c ps:=h.keep λ_ _ _=>rfl
theorem X7.keepRow{w:World}{d:Nat}(h:X7 w B c f wd a d ps)(j:w.grownBy w1 row)(l:∀b,B<=b->some b≠row):X7 w1 B c f wd a d ps:=h.keep λb g k=>j.block b k (l b g)
theorem G4(h:GH)(G:Gr)(At:Option Addr)(n c:Nat)(t:List Int)(a8:n<=400)(q at_:Nat)(non:Int)(w:World)(l:Yf w h G)(o:Za .i64 w At n c t)(ax:at_<=n)(V:h.n3<=100)(z:at_=n\/∃i,t[at_]? = some i/\∀r,Ur G i=some r->r.left≠non):
 Calls prog 68 #[GV h G.start,.slice At n c,.int .i64 (at_:Int),.int .i64 non] w (La G q at_ non t w):=by
 obtain rfl:=o.len;have az:=o.cap;obtain⟨a1,n1,c1,a2,n2,c2,a3,n3,c3⟩:=h;simp only[] at V;have e3:G.rules.length=n3:=l.rules.len;have k3:=l.rules.cap;simp only[] at k3;have B:=Zy w (.cells #[.slice a1 n1 c1,.slice a2 n2 c2,.slice a3 n3 c3,.int .i64 G.start] 26);have C:=Y1.new w 26 ⟨a1,n1,c1,a2,n2,c2,a3,n3,c3⟩ G.start;have y:=Zy (w.alloc (.cells #[.slice a1 n1 c1,.slice a2 n2 c2,.slice a3 n3 c3,.int .i64 G.start] 26)) (.cells #[.int .i64 0,.slice none 0 0,.int .i64 0,.slice none 0 0] 74);have g:=Blk.new (w.alloc (.cells #[.slice a1 n1 c1,.slice a2 n2 c2,.slice a3 n3 c3,.int .i64 G.start] 26)) 74 #[.int .i64 0,.slice none 0 0,.int .i64 0,.slice none 0 0];have u:=Zz B y;have D:=C.below y;have H:=Zl w (.cells #[.slice a1 n1 c1,.slice a2 n2 c2,.slice a3 n3 c3,.int .i64 G.start] 26);rw[H] at g;have E:Y0 G q ⟨t.drop at_,[],[]⟩ non=none:=by
  rcases z with rfl | ⟨i,hi,j⟩
  ·exact B3 (by show t.drop t.length=[];exact List.drop_eq_nil_of_le (AJ _))
  cases q with
  | zero=>rfl
  | succ q=>exact Fd (rest:=t.drop (at_+1)) (Q8 hi) j
 have S:=LH E;have P:=LH l;have U:=LH o;clear y C H E B l o;have fin:∀(W:World) (w0:World),Below w w W->La G q at_ non t w (.returned (.agg #[.int .i64 0,.slice none 0 0,.int .i64 0,.slice none 0 0])) W:=λW _ j=>⟨j,.inl ⟨S.out,rfl⟩⟩;have O:=LH fin
 clear fin
 go_enter func68,ntmps68;have⟨z5,z0,z1,z2,z3⟩:=D;simp only[] at z0 z1 z2 z3;go_wp2_with fail;generalize (w.alloc (.cells #[.slice a1 n1 c1,.slice a2 n2 c2,.slice a3 n3 c3,.int .i64 G.start] 26)).alloc (.cells #[.int .i64 0,.slice none 0 0,.int .i64 0,.slice none 0 0] 74)=a at *;have k:=g.frozen;have f0:=k 0;have f1:=k 1;have f2:=k 2;have f3:=k 3;clear k;have bc:=Yt a;have bf:=Kh a;have bb:w.heap.size<=a.heap.size:=u.size;have a7:w.heap.size+1<a.heap.size:=g.lt;have L:=LH g;have s:=LH u;have A:=LH z;clear g u D z;by_cases v:at_=t.length
 case' pos =>
  subst v;clear A;refine Zs AB AB ?_;repeat (go_big_quiet_step (fail))
  refine BL ?_;rintro _⟨x,rfl⟩
 case' neg =>
  have Y:at_<t.length:=AA
  obtain⟨b,ad,i,rfl,j,R,q0⟩:=U.out.get Y;rw[<-s.out.cell (p:=⟨b,ad+at_,none⟩) j] at q0;have ay:b<a.heap.size:=AA
  have a0:decide (t.length<=at_)=false:=by rw[AZ];omega
  have N:Hid (∀r,Ur G i=some r->r.left≠non):=by
   rcases A.out with h0 | ⟨i',m,h0⟩
   ·exact absurd h0 v
   rw[R.out] at m;injection m with m;subst m;exact LH h0
  clear A v;by_cases a5:i<0
  case' pos =>
   refine Zs AB AB ?_;repeat (go_big_quiet_step (fail))
   refine BL ?_;rintro _⟨x,rfl⟩
  case' neg =>
   by_cases a6:(n3:Int)<=i
   case' pos =>
    refine Zs AB AB ?_;repeat (go_big_quiet_step (fail))
    refine BL ?_;rintro _⟨x,rfl⟩
   case' neg =>
    obtain⟨f,rfl⟩:∃f:Nat,i=(f:Int):=⟨i.toNat,AA⟩;have X:f<n3:=AA
    obtain⟨I,af,r,Arr,am,rfl,Z,T,ag,ah,ai,aa⟩:=P.out.rules.get X;rw[<-s.out.cell (p:=⟨I,af+f*3,none⟩) Z] at ag;have F:Ur G (f:Int)=some r:=by
     unfold Ur;rw[if_pos AA,DC];exact T.out
    have a9:(r.left != non)=true:=by rw[BK];exact N.out r F
    have ba:I<a.heap.size:=AA
    have a4:decide (n3<=f)=false:=by rw[AZ];omega
    clear F ah ai aa;generalize r.left=rl at *;refine Zs AB AB ?_;repeat (go_big_quiet_step (fail))
    refine BL ?_;rintro _⟨x,rfl⟩
 all_goals
  have d:=L.out.ext (Zr a x);have g0:=d.frozen 0;have g1:=d.frozen 1;have g2:=d.frozen 2;have g3:=d.frozen 3;have k0:(bl a x).cell? ⟨w+1,0,none⟩=some (.int .i64 0):=d.cell 0;have k1:(bl a x).cell? ⟨w+1,1,none⟩=some (.slice none 0 0):=d.cell 1;have k2:(bl a x).cell? ⟨w+1,2,none⟩=some (.int .i64 0):=d.cell 2;have bi:(bl a x).cell? ⟨w+1,3,none⟩=some (.slice none 0 0):=d.cell 3;have J:=LH (Zz s.out (Zr a x));have M:=LH d;clear d;generalize bl a x=W2 at *;go_wp2_with fail;refine AW (AX (p:=8) AB _ _ (w.heap.size+1) 74 #[.int .i64 0,.slice none 0 0,.int .i64 0,.slice none 0 0] (0,0) _ rfl ((((M.out.set 0 (.int .i64 0)).set 1 (.slice none 0 0)).set 2 (.int .i64 0)).set 3 (.slice none 0 0)) underlying74 rfl AB) rfl ?_;exact O.out _ w (Zg (Zg (Zg (Zg J.out _ _ _ AA) _ _ _ AA) _ _ _ AA) _ _ _ AA)
theorem Tryz.infoI64R:(prog.info? 3).map (λi=>(i.zero,i.size,i.bytes))=some (some (.int .i64 0),1,8):=AB
def WholeRet(G:Gr)(t:List Int)(w:World)(e:Ending)(w':World):Prop:=Below w.heap.size w w' /\
 ((Xl G t=none/\e = .returned (.agg #[.int .i64 0,.slice none 0 0,.int .i64 0,.slice none 0 0])) \/
  (∃(wd ps:List Int) (k a:Nat) (c:Option Addr) (f:Nat) (b:Option Addr) (d:Nat),Xl G t=some (wd,ps,k)/\0<a/\a<=t.length/\e = .returned (.agg #[.int .i64 ((a:Nat):Int),.slice c wd.length f,.int .i64 ((k:Nat):Int),.slice b ps.length d])/\Za .i64 w' c wd.length f wd/\Za .i64 w' b ps.length d ps))
theorem readT_some(b:G.right=true)(a:t.length<=300):Xl G t=match Y0 G t.length ⟨t,[],[]⟩ G.start with
 | none=>none
 | some (st,n)=>if st.rest=[] then some (st.word,st.posts,n) else none:=by
 unfold Xl;rw[b,show decide (t.length<=300)=true by rw[BA];exact a];rfl
section
variable {P:Program} {w:World}
theorem Kl{a:Act}(y:o.guard=none)(s x:Operand)(t:TypeId)(B:o.op = .call { callee := .builtin .append,args:=#[s,x],argTypes:=#[t,t] })(base:Nat)(e:TypeId)(z:Value)(bytes:Nat)(H:P.underlying t=some (.slice e))(hi:(P.info? e).map (λi=>(i.zero,i.size,i.bytes))=some (some z,1,bytes))(L:z.cells.size=1)(A:Option Addr)(n c:Nat)(xs:List Value)(G:a.eval s = .slice A n c)(C:w.ownsRow base e 1 (.slice A n c) n xs)(j:Option Addr)(m c2:Nat)(g:List Value)(J:a.eval x = .slice j m c2)(D:Sl w j m c2 g)(h1:∀u∈g,u.oneCell'=true)(q:n+m<=9223372036854775807)(v:(n+m)*bytes<=140737488355328)(r:base<=w.heap.size)(h:∀d f w',w'.ownsRow base e 1 (.slice d (n+m) f) (n+m) (xs++g)->w.grownBy w' (Value.slice A n c).ownBlock->(∀b,(Value.slice d (n+m) f).ownBlock=some b->b<w.heap.size->(Value.slice A n c).ownBlock=some b)->
   K (a.put o.dst (.slice d (n+m) f)) w'):if Region.wanted o (yielded ops a.tmps)=true then Oper.wp P o a w K Q else E:=by
 have I:Region.wanted o (yielded ops a.tmps)=true:=by simp[Region.wanted,y]
 rw[if_pos I];obtain⟨d,f,w',F,k,l,p⟩:=Zqw (P:=P) base t o.type e z bytes H hi L A n c xs C j m c2 g D h1 q v r;unfold Oper.wp execOp;simp only[B,resolve,invoke,builtin,Sem.run_bind,Sem.run_pure,Result.andThen_ok,List.map_toArray,CU,List.map_nil,G,J,F];exact h d f w' k l p
end
set_option maxHeartbeats 8000000 in
theorem rf_node(h:GH)(G:Gr)(bf:G.Fits)(At:Option Addr)(n c:Nat)(t:List Int)(dl:n<=400)(h3:h.n3<=100):∀(q at_:Nat) (non:Int) (w:World),
 Yf w h G->Za .i64 w At n c t->q<=400->at_<=n->n-at_<=q->-100<=non->non<=100->
 Calls prog 68 #[GV h G.start,.slice At n c,.int .i64 (at_:Int),.int .i64 non] w (La G q at_ non t w):=by
 intro q
 induction q with
 | zero =>
   intro at_ non w T ht hq b7 hr he hf;exact G4 h G At n c t dl 0 at_ non w T ht b7 h3 (.inl AA)
 | succ q ih =>
   intro at_ non w T ht hq b7 hr he hf;by_cases fl:at_=n
   ·exact G4 h G At n c t dl (q+1) at_ non w T ht b7 h3 (.inl fl)
   have fu:at_<n:=AA
   obtain⟨b,az,i,rfl,R,Hi,q0⟩:=ht.get fu;by_cases df:∀r,Ur G i=some r->r.left≠non
   ·exact G4 h G _ n c t dl (q+1) at_ non w T ht b7 h3 (.inr ⟨i,Hi.out,df⟩)
   obtain⟨r,dp,dk⟩:∃r,Ur G i=some r/\r.left=non:=by
    rcases Classical.not_forall.1 df with ⟨r,hr⟩;rcases Classical.not_imp.1 hr with ⟨h1,h2⟩;exact⟨r,h1,Classical.not_not.1 h2⟩
   obtain rfl:=ht.len;have jj:=ht.cap;have fd:Hid (Y0 G (q+1) ⟨t.drop at_,[],[]⟩ non=(Wt (Y0 G q) r.right ⟨t.drop (at_+1),[],[]⟩ 0).map λx=>({ x.1 with posts:=x.1.posts++[i] },x.2+1)):=Zwq (rest:=t.drop (at_+1)) (Q8 Hi.out) dp dk;obtain⟨z,rfl,dr⟩:=Uo dp;obtain⟨a1,n1,c1,a2,n2,c2,a3,n3,c3⟩:=h;simp only[] at h3;have e3:G.rules.length=n3:=T.rules.len;have k3:=T.rules.cap;simp only[] at k3;have g9:z<n3:=by rw[<-e3];exact (AO.1 dr).1
   obtain⟨E,N,r',Arr,Z,ff,dq,fc,ck,cl,cm,ds⟩:=T.rules.get g9;simp only[] at ff;subst ff;obtain rfl:r=r':=by
    have:=fc.out;rw[dr] at this;injection this
   have dt:=AN dr;have jz:=bf.len r dt;have fx:=bf.sym r dt;have jr:=bf.n2;have js:=bf.n1;have jk:=ds.cap;have ca:∀s∈r.right,-16<=s/\s<24:=λs hs=>by have:=fx s hs;omega
   have j1:(r.left != non)=false:=by rw[BM];exact dk
   have fg:=Zy w (.cells #[.slice a1 n1 c1,.slice a2 n2 c2,.slice (some ⟨E,N,none⟩) n3 c3,.int .i64 G.start] 26);have fq:=Y1.new w 26 ⟨a1,n1,c1,a2,n2,c2,some ⟨E,N,none⟩,n3,c3⟩ G.start;have de:=Zy (w.alloc (.cells #[.slice a1 n1 c1,.slice a2 n2 c2,.slice (some ⟨E,N,none⟩) n3 c3,.int .i64 G.start] 26)) (.cells #[.int .i64 0,.slice none 0 0,.int .i64 0,.slice none 0 0] 74);have hO:=Blk.new (w.alloc (.cells #[.slice a1 n1 c1,.slice a2 n2 c2,.slice (some ⟨E,N,none⟩) n3 c3,.int .i64 G.start] 26)) 74 #[.int .i64 0,.slice none 0 0,.int .i64 0,.slice none 0 0];have V:=Zz fg de;have dh:=fq.below de;have p5:=Zl w (.cells #[.slice a1 n1 c1,.slice a2 n2 c2,.slice (some ⟨E,N,none⟩) n3 c3,.int .i64 G.start] 26);rw[p5] at hO;have Hg:=LH T;have Ht:=LH ht;have gq:=LH ds;have gr:=LH ca;have IH:=LH ih;have gk:=LH bf;clear de fq p5 fg T ht ds ca ih bf dt fx dk dp df fl fc;have⟨z5,z0,z1,z2,z3⟩:=dh;simp only[] at z0 z1 z2 z3;go_enter func68,ntmps68;go_wp2_with fail;rw[<-V.cell (p:=⟨b,az+at_,none⟩) R] at q0;rw[<-V.cell (p:=⟨E,N+z*3,none⟩) dq] at ck;rw[<-V.cell (p:=⟨E,N+z*3+1,none⟩) dq] at cl;rw[<-V.cell (p:=⟨E,N+z*3+2,none⟩) dq] at cm;generalize (w.alloc (.cells #[.slice a1 n1 c1,.slice a2 n2 c2,.slice (some ⟨E,N,none⟩) n3 c3,.int .i64 G.start] 26)).alloc (.cells #[.int .i64 0,.slice none 0 0,.int .i64 0,.slice none 0 0] 74)=W0 at *;have bc:=Yt W0;have j2:w.heap.size<=W0.heap.size:=V.size;have jy:w.heap.size+1<W0.heap.size:=hO.lt;have fm:b<W0.heap.size:=AA
   have hm:E<W0.heap.size:=AA
   have jl:decide (t.length<=at_)=false:=by rw[AZ];omega
   have jm:decide (n3<=z)=false:=by rw[AZ];omega
   have jn:decide ((z:Int)<0)=false:=by rw[AZ];omega
   have HO:=LH hO;have cq:=LH V;have fa:=LH dh;clear hO V dh;generalize hd:r.left=rl at *;generalize hj:r.prec=rp at *;generalize hp:r.right=right at *;clear hd hj hp;refine Zs AB AB ?_;repeat (go_big_quiet_step (fail))
   refine BL ?_;rintro _⟨x,rfl⟩;have X:=Zr W0 x;have fi:=HO.out.ext X;have di:=fa.out.below X;rw[<-bc x _ _ fm] at q0;rw[<-bc x _ _ hm] at ck cl cm;have⟨y5,y0,y1,y2,y3⟩:=di;simp only[] at y0 y1 y2 y3;have d2:=LH (Zz cq.out X);have d6:=LH fi;have gj:=LH di;have j5:=Lb W0 x;clear z0 z1 z2 z3 z5 fi di X bc fa HO;generalize bl W0 x=F at *;have g3:b<F.heap.size:=AA
   have dn:E<F.heap.size:=AA
   have HS:Hid (∀d,Below F F d->d.cell? ⟨w,2,none⟩=some (.slice (some ⟨E,N,none⟩) n3 c3)/\d.cell? ⟨b,az+at_,none⟩=some (.int .i64 (z:Int))/\d.cell? ⟨E,N+z*3,none⟩=some (.int .i64 rl)/\d.cell? ⟨E,N+z*3+1,none⟩=some (.slice Arr right.length Z)/\d.cell? ⟨E,N+z*3+2,none⟩=some (.int .i64 rp)/\Below F F d):=LH λd y=>⟨by rw[y.cell (by exact y5)];exact y2,by rw[y.cell (by exact g3)];exact q0,by rw[y.cell (by exact dn)];exact ck,by rw[y.cell (by exact dn)];exact cl,by rw[y.cell (by exact dn)];exact cm,y⟩;go_wp2_with fail;go_region_held3 (λd=>d.cell? ⟨w,2,none⟩=some (.slice (some ⟨E,N,none⟩) n3 c3)/\d.cell? ⟨b,az+at_,none⟩=some (.int .i64 (z:Int))/\d.cell? ⟨E,N+z*3,none⟩=some (.int .i64 rl)/\d.cell? ⟨E,N+z*3+1,none⟩=some (.slice Arr right.length Z)/\d.cell? ⟨E,N+z*3+2,none⟩=some (.int .i64 rp)/\Below F F d)
    ((refine HS.out _ ?_;(repeat (first | assumption | exact AL _ _ | refine Below.drew ?_ | refine Zo ?_ _ | refine Zg ?_ _ _ _ (by (first | exact AJ _ | exact DP _ | exact Below.size AH | exact Nat.le_succ_of_le (Below.size AH) | (simp;done) | omega))));done))
    (fail)
   have fj:=Blk.new F 60 #[.int .i64 rl,.slice Arr right.length Z,.int .i64 rp];have bd:=Blk.new (F.alloc (.cells #[.int .i64 rl,.slice Arr right.length Z,.int .i64 rp] 60)) 74 #[.int .i64 ((at_:Int)+1),.slice none 0 0,.int .i64 0,.slice none 0 0];have fn:=(AL F F).alloc (AJ _) (.cells #[.int .i64 rl,.slice Arr right.length Z,.int .i64 rp] 60);have fy:(F.alloc (.cells #[.int .i64 rl,.slice Arr right.length Z,.int .i64 rp] 60)).heap.size=F.heap.size+1:=Zl _ _;have fo:=(Zo fn (.cells #[.int .i64 ((at_:Int)+1),.slice none 0 0,.int .i64 0,.slice none 0 0] 74)).drew;have fk:=(fj.ext (Zy _ (.cells #[.int .i64 ((at_:Int)+1),.slice none 0 0,.int .i64 0,.slice none 0 0] 74))).drew;rw[fy] at bd;have bd:=bd.drew;have j8:IntKind.i64.wrap ((at_:Int)+1)=(at_:Int)+1:=Cc _ AA;go_wp2_with fail;generalize ((F.alloc (.cells #[.int .i64 rl,.slice Arr right.length Z,.int .i64 rp] 60)).alloc (.cells #[.int .i64 ((at_:Int)+1),.slice none 0 0,.int .i64 0,.slice none 0 0] 74)).drew=S at *;have jh:=bd.lt;have gf:Hid (Blk S (F.heap.size+1) 74 (NdC (at_+1) none 0 0 0 none 0 0)):=bd;have gc:=LH fk;have f8:=LH fo;clear fj bd fn fy fo fk y0 y1 y2 y3 HS q0 ck cl cm;generalize fs:F.heap.size=a at *;go_loopw [11] (λi wr=>∃(k e T:Nat) (l:Option Addr) (m:Nat) (C:Option Addr) (D:Nat) (wd ps:List Int),i = .int .i64 (k:Int)/\k<=right.length/\at_+1<=e/\e<=t.length/\T<=q/\wd.length<=6*(e-at_-1)+k/\ps.length<=e-at_-1 /\
    Hid (Blk wr (a+1) 74 (NdC e l wd.length m T C ps.length D))/\Hid (X7 wr S l m wd C D ps)/\Hid (Below (a+1) S wr)/\S.heap.size<=wr.heap.size /\
    Hid (Wt (Y0 G q) right ⟨t.drop (at_+1),[],[]⟩ 0=Wt (Y0 G q) (right.drop k) ⟨t.drop e,wd,ps⟩ T)) (λi _=>right.length-(intOf i).toNat)
   case atStart=>exact⟨0,at_+1,0,none,0,none,0,[],[],rfl,AS _,AJ _,AA,AS _,AE,AE,gf,LH (X7.nil _ _),LH (AL _ _),AJ _,LH rfl⟩
   obtain⟨k,e,o,l,m,C,D,wd,ps,rfl,hk,g4,g5,g8,ka,hi,U,HR,HB,bh,b5⟩:=hrel;have ct:Hid (Below a F wr):=f8.out.trans (HB.out.mono (DP _));have a9:Hid (Below w w wr):=LH (d2.out.trans (ct.out.mono (by rw[<-fs];exact d2.out.size)));have h7:=U.out.lt;have x0:wr.cell? ⟨a+1,0,none⟩=some (.int .i64 (e:Int)):=U.out.cell 0;have x1:wr.cell? ⟨a+1,1,none⟩=some (.slice l wd.length m):=U.out.cell 1;have x2:wr.cell? ⟨a+1,2,none⟩=some (.int .i64 (o:Int)):=U.out.cell 2;have x3:wr.cell? ⟨a+1,3,none⟩=some (.slice C ps.length D):=U.out.cell 3;have v0:=U.out.frozen 0;have v1:=U.out.frozen 1;have v2:=U.out.frozen 2;have v3:=U.out.frozen 3;have ge:=LH (gc.out.below HB.out AA);have r1:wr.cell? ⟨a,1,none⟩=some (.slice Arr right.length Z):=ge.out.cell 1;have ab:Hid (Blk wr (w.heap.size+1) 74 #[.int .i64 0,.slice none 0 0,.int .i64 0,.slice none 0 0]):=LH (d6.out.below ct.out (by have:=d6.out.lt;omega));have u0:wr.cell? ⟨w+1,0,none⟩=some (.int .i64 0):=ab.out.cell 0;have u1:wr.cell? ⟨w+1,1,none⟩=some (.slice none 0 0):=ab.out.cell 1;have u2:wr.cell? ⟨w+1,2,none⟩=some (.int .i64 0):=ab.out.cell 2;have u3:wr.cell? ⟨w+1,3,none⟩=some (.slice none 0 0):=ab.out.cell 3;have cc:=ab.out.frozen 0;have cd:=ab.out.frozen 1;have ce:=ab.out.frozen 2;have cf:=ab.out.frozen 3;by_cases hc:k<right.length
   case neg =>
    have jx:k=right.length:=AA
    have dj:Y0 G (q+1) ⟨t.drop at_,[],[]⟩ non=some (⟨t.drop e,wd,ps++[(z:Int)]⟩,o+1):=by
     rw[fd.out,b5.out,List.drop_eq_nil_of_le AA,Wt];rfl
    obtain⟨e',s1,s2,s3,s4,s5,s6,s7⟩:=walkP_shape gk.out dj;simp only at s3 s4 s5;have g6:e'=e:=by
     have:=congrArg List.length s3;rw[BT,BT] at this;omega
    subst g6;have fv:(ps++[(z:Int)]).length=ps.length+1:=AE
    have fb:Hid (∀(w':World) (A:Option Addr) (B:Nat),Below w w w'->X7 w' w l m wd A B (ps++[(z:Int)])->La G (q+1) at_ non t w (.returned (.agg #[.int .i64 ((e':Nat):Int),.slice l wd.length m,.int .i64 ((o+1:Nat):Int),.slice A (ps.length+1) B])) w'):=LH λw' A B R hu=>⟨R,.inr ⟨_,_,e',l,m,A,B,dj,rfl,s1,s2,s4,s5,s6,s7,by rw[fv],hu⟩⟩;have fr:((o+1:Nat):Int)=(o:Int)+1:=AA
    rw[fr] at fb;have j9:IntKind.i64.wrap ((o:Int)+1)=(o:Int)+1:=Cc _ AA;have f4:wr.cell? ⟨b,az+at_,none⟩=some (.int .i64 (z:Int)):=by
     obtain⟨b',kl,i',dg,fm,gm,ja⟩:=(Ht.out.below a9.out).get fu;injection dg with dg;injection dg with h1 h2 h3;subst h1;subst h2;rw[ja];have:=Hi.out.symm.trans gm.out;injection this with this;rw[this]
    have fp:b<a+1:=AA
    have bz:Hid (Blk (wr.setCell ⟨a+1,2,none⟩ (.int .i64 ((o:Int)+1))) (a+1) 74 #[.int .i64 (e':Int),.slice l wd.length m,.int .i64 ((o:Int)+1),.slice C ps.length D]):=LH (U.out.set 2 (.int .i64 ((o:Int)+1)));have d7:=LH (HR.out.set (a+1) 2 (.int .i64 ((o:Int)+1)) AA);have V:=Gw (AL (a+1) wr) AA (a+1) 2 (.int .i64 ((o:Int)+1)) (AJ _);have q1:(wr.setCell ⟨a+1,2,none⟩ (.int .i64 ((o:Int)+1))).cell? ⟨b,az+at_,none⟩=some (.int .i64 (z:Int)):=by rw[V.cell (p:=⟨b,az+at_,none⟩) fp];exact f4
    have cq:=LH V;have j3:=V.size;clear dj s3 s4 s5 s6 s7 fv fr V u0 u1 u2 u3 cc cd ce cf x0 x1 x3 v0 v1 v3;go_upto_region 16 with fail;generalize wr.setCell ⟨a+1,2,none⟩ (.int .i64 ((o:Int)+1))=W1 at *;have x3:W1.cell? ⟨a+1,3,none⟩=some (.slice C ps.length D):=bz.out.cell 3;have v3:=bz.out.frozen 3;have c7:=LH d7.out.posts;have an:=LH Tryz.infoI64R;have cr:=LH ((AL W1 W1).drew.alloc (AJ _) (.cells #[.int .i64 (z:Int)] 3));have HS:Hid (∀d,Below (a+1) W1 d->d.cell? ⟨b,az+at_,none⟩=some (.int .i64 (z:Int))):=LH λd y=>by rw[y.cell (by exact fp)];exact q1
    have ax:a+1<=W1.heap.size:=AA
    have h4:S.heap.size<=W1.heap.size:=AA
    have kc:a+1<W1.heap.size:=bz.out.lt;clear x2 v2 f4;go_wp2_with fail;go_region_law (first
     | (refine Bw (w:=W1) rfl _ _ 30 rfl S 3 _ 1 8 underlying30 an.out AC AC C ps.length D (ints .i64 ps) (by simp[Act.eval,Act.put]) c7.out [.int .i64 (z:Int)] rfl (by simp[Act.eval,Act.put]) (by simp[Value.oneCell']) (by exact cr.out) (by exact Qn W1 [.int .i64 (z:Int)] _) AA AA (by exact h4) ?_;intro A B w4 P g O
        have b4:=bz.out.grown g (by intro e;have:=(c7.out.lt _ e.symm).1;omega);have c9:=LH ((d7.out.putP [(z:Int)] P g O).set (a+1) 3 (.slice A (ps.length+1) B) AA);have bn:Below (a+1) W1 w4:=Ke c7.out g AA ax;have fz:=b4.frozen 3;have f0:w4.cell? ⟨a+1,3,none⟩=some (.slice C ps.length D):=b4.cell 3;have cx:=LH b4;clear P g O b4))
    all_goals
     have b0:Hid (Blk (w4.setCell ⟨a+1,3,none⟩ (.slice A (ps.length+1) B)) (a+1) 74 #[.int .i64 (e':Int),.slice l wd.length m,.int .i64 ((o:Int)+1),.slice A (ps.length+1) B]):=cx.out.set 3 (.slice A (ps.length+1) B);have fh:=Gw bn ax (a+1) 3 (.slice A (ps.length+1) B) (AJ _);have dd:=cq.out.trans fh;have gb:=LH (a9.out.trans (dd.mono AA));have ag:=LH (ab.out.below dd AA);go_upto_region 17 with fail;generalize w4.setCell ⟨a+1,3,none⟩ (.slice A (ps.length+1) B)=W5 at *;have u0:W5.cell? ⟨w+1,0,none⟩=some (.int .i64 0):=ag.out.cell 0;have u1:W5.cell? ⟨w+1,1,none⟩=some (.slice none 0 0):=ag.out.cell 1;have u2:W5.cell? ⟨w+1,2,none⟩=some (.int .i64 0):=ag.out.cell 2;have u3:W5.cell? ⟨w+1,3,none⟩=some (.slice none 0 0):=ag.out.cell 3;have cc:=ag.out.frozen 0;have cd:=ag.out.frozen 1;have ce:=ag.out.frozen 2;have cf:=ag.out.frozen 3;have k0:W5.cell? ⟨a+1,0,none⟩=some (.int .i64 (e':Int)):=b0.out.cell 0;have k1:W5.cell? ⟨a+1,1,none⟩=some (.slice l wd.length m):=b0.out.cell 1;have k2:W5.cell? ⟨a+1,2,none⟩=some (.int .i64 ((o:Int)+1)):=b0.out.cell 2;have kj:W5.cell? ⟨a+1,3,none⟩=some (.slice A (ps.length+1) B):=b0.out.cell 3;clear x3 v3 fz f0 bn fh dd q1;go_wp2_with fail;refine AW (AX (p:=8) AB _ _ (w.heap.size+1) 74 #[.int .i64 (e':Int),.slice l wd.length m,.int .i64 ((o:Int)+1),.slice A (ps.length+1) B] (0,0) _ rfl ((((ag.out.set 0 (.int .i64 (e':Int))).set 1 (.slice l wd.length m)).set 2 (.int .i64 ((o:Int)+1))).set 3 (.slice A (ps.length+1) B)) underlying74 rfl AB) rfl ?_;exact fb.out _ A B (Zg (Zg (Zg (Zg gb.out _ _ _ AA) _ _ _ AA) _ _ _ AA) _ _ _ AA) (((((c9.out.set _ _ _ AA).set _ _ _ AA).set _ _ _ AA).set _ _ _ AA).mono AA)
   obtain⟨sb,so,s,rfl,hx,Hs,qs⟩:=gq.out.get hc;rw[<-a9.out.cell (p:=⟨sb,so+k,none⟩) hx] at qs;have ca:sb<a+1:=AA
   have hy:sb<wr.heap.size:=AA
   have j4:=gr.out s (AN Hs.out);have ax:a+1<=wr.heap.size:=AA
   by_cases h0:0<=s
   case pos =>
    have c8:=LH HR.out.word;have an:=LH Tryz.infoI64R;have cr:=LH ((AL wr wr).drew.alloc (AJ _) (.cells #[.int .i64 s] 3));have HS:Hid (∀d,Below (a+1) wr d->d.cell? ⟨a,1,none⟩=some (.slice (some ⟨sb,so,none⟩) right.length Z)/\d.cell? ⟨sb,so+k,none⟩=some (.int .i64 s)):=LH λd y=>⟨by rw[y.cell (by show a<_;omega)];exact r1,by rw[y.cell (by exact ca)];exact qs⟩;go_wp2_with fail;go_region_law (first
     | (refine Bw (w:=wr) rfl _ _ 30 rfl S 3 _ 1 8 underlying30 an.out AC AC l wd.length m (ints .i64 wd) (by simp[Act.eval,Act.put]) c8.out [.int .i64 s] rfl (by simp[Act.eval,Act.put]) (by simp[Value.oneCell']) (by exact cr.out) (by exact Qn wr [.int .i64 s] _) AA AA (by exact bh) ?_;intro A B w4 P g O
        have b4:=U.out.grown g (by intro e;have:=(c8.out.lt _ e.symm).1;omega);have c9:=LH ((HR.out.putW [s] P g O).set (a+1) 1 (.slice A (wd.length+1) B) AA);have bn:Below (a+1) wr w4:=Ke c8.out g AA ax;have fz:=b4.frozen 1;have f0:w4.cell? ⟨a+1,1,none⟩=some (.slice l wd.length m):=b4.cell 1;have cx:=LH b4;clear P g O b4))
    all_goals go_wp2_with fail
    all_goals
     have bo:(wd++[s]).length=wd.length+1:=AE
     refine⟨⟨k+1,e,o,A,B,C,D,wd++[s],ps,AF,AA,g4,g5,g8,by rw[bo];omega,hi,LH (by rw[bo];exact cx.out.set 1 (.slice A (wd.length+1) B)),LH c9.out,LH (HB.out.trans (Gw bn ax _ _ _ (AJ _))),BC bh (Gw bn ax _ _ _ (AJ _)).size,LH (by rw[b5.out,Zxx Hs.out h0])⟩,?_⟩;simp[intOf];omega
   have kb:IntKind.i64.wrap (-1-s)=-1-s:=Cc _ AA;have⟨y5,y0,y1,y2,y3⟩:=(gj.out.below (show Below F F wr by rw[fs];exact ct.out));simp only[] at y0 y1 y2 y3;have HS:Hid (∀d,Below wr wr d->d.cell? ⟨w,0,none⟩=some (.slice a1 n1 c1)/\d.cell? ⟨w,1,none⟩=some (.slice a2 n2 c2)/\d.cell? ⟨w,2,none⟩=some (.slice (some ⟨E,N,none⟩) n3 c3)/\d.cell? ⟨w,3,none⟩=some (.int .i64 G.start)/\d.cell? ⟨a+1,0,none⟩=some (.int .i64 (e:Int))/\d.cell? ⟨a,1,none⟩=some (.slice (some ⟨sb,so,none⟩) right.length Z)/\d.cell? ⟨sb,so+k,none⟩=some (.int .i64 s)/\Below wr wr d):=LH λd y=>⟨by rw[y.cell (by exact y5)];exact y0,by rw[y.cell (by exact y5)];exact y1,by rw[y.cell (by exact y5)];exact y2,by rw[y.cell (by exact y5)];exact y3,by rw[y.cell (by exact h7)];exact x0,by rw[y.cell (by show a<_;omega)];exact r1,by rw[y.cell (by exact hy)];exact qs,y⟩;have CI:=LH λW (R:Below wr wr W)=>(IH.out e (-1-s) W (Hg.out.below (Zz a9.out R)) (Ht.out.below (Zz a9.out R)) AA AA AA AA AA).mono λe' w' (hh:La G q e (-1-s) t W e' w')=>And.intro hh.form (And.intro (Zz R hh.1) (And.intro hh.1.size (And.intro (Jd hh.1).1 (And.intro (Jd hh.1).2 (LH hh.1)))));go_upto_region 10 with fail;go_cut [12] (λv wx=>YAt G q e (-1-s) t wr v wx)
   case first =>
    go_region_held3 (λd=>d.cell? ⟨w,0,none⟩=some (.slice a1 n1 c1)/\d.cell? ⟨w,1,none⟩=some (.slice a2 n2 c2)/\d.cell? ⟨w,2,none⟩=some (.slice (some ⟨E,N,none⟩) n3 c3)/\d.cell? ⟨w,3,none⟩=some (.int .i64 G.start)/\d.cell? ⟨a+1,0,none⟩=some (.int .i64 (e:Int))/\d.cell? ⟨a,1,none⟩=some (.slice (some ⟨sb,so,none⟩) right.length Z)/\d.cell? ⟨sb,so+k,none⟩=some (.int .i64 s)/\Below wr wr d)
     ((refine HS.out _ ?_;(repeat (first | assumption | exact AL _ _ | refine Below.drew ?_ | refine Zo ?_ _ | refine Zg ?_ _ _ _ (by (first | exact AJ _ | exact DP _ | exact Below.size AH | exact Nat.le_succ_of_le (Below.size AH) | (simp;done) | omega))));done))
     (first
       | (go_at_call 68;refine (CI.out _ (by (repeat (first | assumption | exact AL _ _ | refine Below.drew ?_ | refine Zo ?_ _ | refine Zg ?_ _ _ _ (by (first | exact AJ _ | exact DP _ | exact Below.size AH | exact Nat.le_succ_of_le (Below.size AH) | (simp;done) | omega)))))).mono ?_;rintro e w2⟨⟨M,kk,I,L,H,J,yw,yp,rfl,bi,cb⟩,y,j6,ji,jq,gh⟩))
    ·have hY:=Blk.new w2 74 (NdC M I yw.length L kk H yp.length J);go_wp2_with fail;go_meet
     exact⟨w2,M,kk,I,L,H,J,yw,yp,rfl,y.size,Zo y _,hY,(bi.below (Zy w2 _)).mono (AJ _),cb⟩
    have g2:=(Blk.drew (Blk.new wr 74 #[.int .i64 0,.slice none 0 0,.int .i64 0,.slice none 0 0])).ext gh.out;have hY:=(((g2.set 0 (.int .i64 ((M:Nat):Int))).set 1 (.slice I yw.length L)).set 2 (.int .i64 ((kk:Nat):Int))).set 3 (.slice H yp.length J);have hw:(wr.alloc (.cells #[.int .i64 0,.slice none 0 0,.int .i64 0,.slice none 0 0] 74)).drew.heap.size=wr.heap.size+1:=Zl _ _;go_wp2_with fail;go_meet
    rw[hw] at bi;exact⟨wr,M,kk,I,L,H,J,yw,yp,rfl,AJ _,Zg (Zg (Zg (Zg y _ _ _ (AJ _)) _ _ _ (AJ _)) _ _ _ (AJ _)) _ _ _ (AJ _),hY,((((bi.set _ _ _ (Em _)).set _ _ _ (Em _)).set _ _ _ (Em _)).set _ _ _ (Em _)).mono (DP _),cb⟩
   obtain⟨u,M,kk,I,L,H,J,yw,yp,rfl,b8,X,hY,bi,cb⟩:=hcut;have f9:=LH (Zz a9.out X);have bk:=LH (U.out.ext X);have gd:=LH (HR.out.below X);have ga:=LH (HB.out.trans (X.mono ax));have ah:=LH (ab.out.ext X);have HY:=LH hY;have gg:=LH bi;have jt:a+1<u:=AA
   have j7:wr.heap.size<=wc.heap.size:=X.size;clear x0 x1 x2 x3 v0 v1 v2 v3 u0 u1 u2 u3 cc cd ce cf r1 qs y0 y1 y2 y3 y5 HS CI hY bi X;obtain⟨wC,h5⟩:∃x,x=wc:=⟨_,rfl⟩;subst h5;have y0:wC.cell? ⟨u,0,none⟩=some (.int .i64 (M:Int)):=HY.out.cell 0;rcases cb with ⟨hn,rfl⟩ | ⟨f,hn,rfl,rfl,fw,jo,g7,ke,f1,jv,jw⟩
   ·have gi:Hid (Y0 G (q+1) ⟨t.drop at_,[],[]⟩ non=none):=LH (by rw[fd.out,b5.out,Zwv Hs.out h0 (walkP_onto_none hn)];rfl);have u0:wC.cell? ⟨w+1,0,none⟩=some (.int .i64 0):=ah.out.cell 0;have u1:wC.cell? ⟨w+1,1,none⟩=some (.slice none 0 0):=ah.out.cell 1;have u2:wC.cell? ⟨w+1,2,none⟩=some (.int .i64 0):=ah.out.cell 2;have u3:wC.cell? ⟨w+1,3,none⟩=some (.slice none 0 0):=ah.out.cell 3;have cc:=ah.out.frozen 0;have cd:=ah.out.frozen 1;have ce:=ah.out.frozen 2;have cf:=ah.out.frozen 3;clear hn;go_wp2_with fail;refine AW (AX (p:=8) AB _ _ (w.heap.size+1) 74 #[.int .i64 0,.slice none 0 0,.int .i64 0,.slice none 0 0] (0,0) _ rfl ((((ah.out.set 0 (.int .i64 0)).set 1 (.slice none 0 0)).set 2 (.int .i64 0)).set 3 (.slice none 0 0)) underlying74 rfl AB) rfl ?_;exact⟨Zg (Zg (Zg (Zg f9.out _ _ _ AA) _ _ _ AA) _ _ _ AA) _ _ _ AA,.inl ⟨gi.out,rfl⟩⟩
   have Hn:=LH (Zxs (top:=o) Hs.out h0 (walkP_onto (wd:=wd) (ps:=ps) hn));have gp:=LH fw;have kd:f.posts.length<=M-e:=Nat.le_of_eq f1;clear f1;have jp:((M:Int)==0)=false:=by rw[AQ];omega
   have x0:wC.cell? ⟨a+1,0,none⟩=some (.int .i64 (e:Int)):=bk.out.cell 0;have x2:wC.cell? ⟨a+1,2,none⟩=some (.int .i64 (o:Int)):=bk.out.cell 2;have y2:wC.cell? ⟨u,2,none⟩=some (.int .i64 (kk:Int)):=HY.out.cell 2;have v0:=bk.out.frozen 0;have v2:=bk.out.frozen 2;have j0:max (o:Int) (kk:Int)=((max o kk:Nat):Int):=AA
   have d9:Hid (∀d,Blk d u 74 (NdC M I f.word.length L kk H f.posts.length J)->d.cell? ⟨u,0,none⟩=some (.int .i64 (M:Int))/\d.cell? ⟨u,2,none⟩=some (.int .i64 (kk:Int))):=LH λd R=>⟨R.cell 0,R.cell 2⟩;clear hn fw;go_upto_region 13 with fail;go_cut [] (λwx=>Hid (Blk wx (a+1) 74 (NdC M l wd.length m (max o kk) C ps.length D))/\Hid (Blk wx u 74 (NdC M I f.word.length L kk H f.posts.length J))/\Hid (X7 wx S l m wd C D ps)/\Hid (X7 wx wr I L f.word H J f.posts)/\Hid (Below (a+1) S wx)/\wr.heap.size<=wx.heap.size)
   case first =>
    go_region_law (fail)
    all_goals go_wp2_with fail
    all_goals
     go_meet
     exact⟨LH (((bk.out.set 0 (.int .i64 (M:Int))).set 2 (.int .i64 ((max o kk:Nat):Int))).drew),LH (((HY.out.other _ _ _ AA).other _ _ _ AA).drew),LH (((gd.out.set _ _ _ AA).set _ _ _ AA).drew),LH (((gg.out.set _ _ _ AA).set _ _ _ AA).drew),LH ((Gw (Gw ga.out AA _ _ _ (AJ _)) AA _ _ _ (AJ _)).drew),AG⟩
   obtain⟨bb,b1,am,b2,d3,b9⟩:=hcut;obtain⟨wD,h6⟩:∃x,x=wc:=⟨_,rfl⟩;subst h6;clear x0 x2 v0 v2 y0 d9;have x1:wD.cell? ⟨a+1,1,none⟩=some (.slice l wd.length m):=bb.out.cell 1;have x3:wD.cell? ⟨a+1,3,none⟩=some (.slice C ps.length D):=bb.out.cell 3;have y1:wD.cell? ⟨u,1,none⟩=some (.slice I f.word.length L):=b1.out.cell 1;have y3:wD.cell? ⟨u,3,none⟩=some (.slice H f.posts.length J):=b1.out.cell 3;have v1:=bb.out.frozen 1;have v3:=bb.out.frozen 3;have d9:Hid (∀d,Blk d u 74 (NdC M I f.word.length L kk H f.posts.length J)->d.cell? ⟨u,1,none⟩=some (.slice I f.word.length L)/\d.cell? ⟨u,3,none⟩=some (.slice H f.posts.length J)):=LH λd R=>⟨R.cell 1,R.cell 3⟩;have c6:Hid (∀b,wr.heap.size<=b->some b≠(Value.slice l wd.length m).ownBlock):=LH λb R e=>by have:=(HR.out.word.lt b e.symm).2;omega
   have c0:Hid (∀b,wr.heap.size<=b->some b≠(Value.slice C ps.length D).ownBlock):=LH λb R e=>by have:=(HR.out.posts.lt b e.symm).2;omega
   have an:=LH Tryz.infoI64R;go_wp2_with fail;go_region_law (first
    | (refine Kl rfl _ _ 30 rfl S 3 _ 8 underlying30 an.out AC C ps.length D (ints .i64 ps) (by simp[Act.eval,Act.put]) (by exact ai.out.posts) H f.posts.length J (ints .i64 f.posts) (by simp[Act.eval,Act.put]) (by exact Yl cv.out.posts) (Gu _ _) AA AA (by exact BC bh bq) ?_;intro A5 c5 wq P j O
       have g:wp.grownBy wq (Value.slice C ps.length D).ownBlock:=⟨j.os,j.tape,j.output,j.size,j.block⟩;have d8:=LH (ai.out.putP f.posts P g O);have ad:=LH (Y.out.grown g (by intro e;have:=(ai.out.posts.lt _ e.symm).1;omega));have d4:=LH (cs.out.trans (Ke ai.out.posts g AA AA));have hz:wr.heap.size<=wq.heap.size:=BC bq g.size;have h8:Blk wq u 74 (NdC M I f.word.length L kk H f.posts.length J):=ay.grown g (c0.out u b8);have gu:wq.cell? ⟨a+1,1,none⟩=some (.slice l wd.length m):=ad.out.cell 1;have gw:wq.cell? ⟨a+1,3,none⟩=some (.slice C ps.length D):=ad.out.cell 3;have gz:=ad.out.frozen 1;have g1:=ad.out.frozen 3;clear P g j O)
    | (refine Kl rfl _ _ 30 rfl S 3 _ 8 underlying30 an.out AC l wd.length m (ints .i64 wd) (by simp[Act.eval,Act.put]) (by exact ai.out.word) I f.word.length L (ints .i64 f.word) (by simp[Act.eval,Act.put]) (by exact Yl cv.out.word) (Gu _ _) AA AA (by exact BC bh bq) ?_;intro A B wq P j O
       have g:wp.grownBy wq (Value.slice l wd.length m).ownBlock:=⟨j.os,j.tape,j.output,j.size,j.block⟩;have d8:=LH (ai.out.putW f.word P g O);have ad:=LH (Y.out.grown g (by intro e;have:=(ai.out.word.lt _ e.symm).1;omega));have d4:=LH (cs.out.trans (Ke ai.out.word g AA AA));have hz:wr.heap.size<=wq.heap.size:=BC bq g.size;have h8:Blk wq u 74 (NdC M I f.word.length L kk H f.posts.length J):=ay.grown g (c6.out u b8);have gu:wq.cell? ⟨a+1,1,none⟩=some (.slice l wd.length m):=ad.out.cell 1;have gw:wq.cell? ⟨a+1,3,none⟩=some (.slice C ps.length D):=ad.out.cell 3;have gz:=ad.out.frozen 1;have g1:=ad.out.frozen 3;clear P g j O)
    | (refine Kl rfl _ _ 30 rfl S 3 _ 8 underlying30 an.out AC l wd.length m (ints .i64 wd) (by simp[Act.eval,Act.put]) (by exact am.out.word) I f.word.length L (ints .i64 f.word) (by simp[Act.eval,Act.put]) (by exact Yl b2.out.word) (Gu _ _) AA AA (by exact BC bh b9) ?_;intro A B wp P j O
       have g:wD.grownBy wp (Value.slice l wd.length m).ownBlock:=⟨j.os,j.tape,j.output,j.size,j.block⟩;have ai:=LH (am.out.putW f.word P g O);have Y:=LH (bb.out.grown g (by intro e;have:=(am.out.word.lt _ e.symm).1;omega));have cs:=LH (d3.out.trans (Ke am.out.word g AA AA));have bq:wr.heap.size<=wp.heap.size:=BC b9 g.size;have cv:=LH (b2.out.keepRow g c6.out);have ay:Blk wp u 74 (NdC M I f.word.length L kk H f.posts.length J):=b1.out.grown g (c6.out u b8);have je:wp.cell? ⟨u,1,none⟩=some (.slice I f.word.length L):=ay.cell 1;have jf:wp.cell? ⟨u,3,none⟩=some (.slice H f.posts.length J):=ay.cell 3;have gt:wp.cell? ⟨a+1,1,none⟩=some (.slice l wd.length m):=Y.out.cell 1;have gv:wp.cell? ⟨a+1,3,none⟩=some (.slice C ps.length D):=Y.out.cell 3;have gy:=Y.out.frozen 1;have g0:=Y.out.frozen 3;clear P g j O)
    | (refine Kl rfl _ _ 30 rfl S 3 _ 8 underlying30 an.out AC C ps.length D (ints .i64 ps) (by simp[Act.eval,Act.put]) (by exact am.out.posts) H f.posts.length J (ints .i64 f.posts) (by simp[Act.eval,Act.put]) (by exact Yl b2.out.posts) (Gu _ _) AA AA (by exact BC bh b9) ?_;intro A5 c5 wp P j O
       have g:wD.grownBy wp (Value.slice C ps.length D).ownBlock:=⟨j.os,j.tape,j.output,j.size,j.block⟩;have ai:=LH (am.out.putP f.posts P g O);have Y:=LH (bb.out.grown g (by intro e;have:=(am.out.posts.lt _ e.symm).1;omega));have cs:=LH (d3.out.trans (Ke am.out.posts g AA AA));have bq:wr.heap.size<=wp.heap.size:=BC b9 g.size;have cv:=LH (b2.out.keepRow g c0.out);have ay:Blk wp u 74 (NdC M I f.word.length L kk H f.posts.length J):=b1.out.grown g (c0.out u b8);have je:wp.cell? ⟨u,1,none⟩=some (.slice I f.word.length L):=ay.cell 1;have jf:wp.cell? ⟨u,3,none⟩=some (.slice H f.posts.length J):=ay.cell 3;have gt:wp.cell? ⟨a+1,1,none⟩=some (.slice l wd.length m):=Y.out.cell 1;have gv:wp.cell? ⟨a+1,3,none⟩=some (.slice C ps.length D):=Y.out.cell 3;have gy:=Y.out.frozen 1;have g0:=Y.out.frozen 3;clear P g j O))
   all_goals
    go_wp2_with fail;have bo:(wd++f.word).length=wd.length+f.word.length:=AV;have ft:(ps++f.posts).length=ps.length+f.posts.length:=AV;refine⟨⟨k+1,M,max o kk,A,B,A5,c5,wd++f.word,ps++f.posts,AF,AA,AA,g7,AA,by rw[bo];omega,by rw[ft];omega,LH (by rw[bo,ft];exact (ad.out.set 1 (.slice A (wd.length+f.word.length) B)).set 3 (.slice A5 (ps.length+f.posts.length) c5)),LH ((d8.out.set _ _ _ AA).set _ _ _ AA),LH (Gw (Gw d4.out AA _ _ _ (AJ _)) AA _ _ _ (AJ _)),AG,LH (by rw[b5.out,Hn.out,gp.out])⟩,?_⟩;simp[intOf];omega
theorem rf_Whole(h:GH)(G:Gr)(At:Option Addr)(n c:Nat)(t:List Int)(w:World)(P:Yf w h G)(F:Za .i64 w At n c t)(bg:n<=400)(h1:h.n1<=100)(h2:h.n2<=100)(h3:h.n3<=100):
 Calls prog 32 #[GV h G.start,.slice At n c] w (WholeRet G t w):=by
 obtain rfl:=F.len;have be:=F.cap;obtain⟨a1,n1,c1,a2,n2,c2,a3,n3,c3⟩:=h;simp only[] at h1 h2 h3;have af:=Zy w (.cells #[.slice a1 n1 c1,.slice a2 n2 c2,.slice a3 n3 c3,.int .i64 G.start] 26);have ag:=Y1.new w 26 ⟨a1,n1,c1,a2,n2,c2,a3,n3,c3⟩ G.start;have q:=Zy (w.alloc (.cells #[.slice a1 n1 c1,.slice a2 n2 c2,.slice a3 n3 c3,.int .i64 G.start] 26)) (.cells #[.int .i64 0,.slice none 0 0,.int .i64 0,.slice none 0 0] 74);have L:=Blk.new (w.alloc (.cells #[.slice a1 n1 c1,.slice a2 n2 c2,.slice a3 n3 c3,.int .i64 G.start] 26)) 74 #[.int .i64 0,.slice none 0 0,.int .i64 0,.slice none 0 0];have J:=Zz af q;have O:=ag.below q;have p5:=Zl w (.cells #[.slice a1 n1 c1,.slice a2 n2 c2,.slice a3 n3 c3,.int .i64 G.start] 26);rw[p5] at L;have T:=LH (Jr ⟨a1,n1,c1,a2,n2,c2,a3,n3,c3⟩ G _ (P.below J) (by simp only[];omega) (by simp only[];omega) (by simp only[];omega));have Hg:=LH P;have Ht:=LH F;have Y:=LH L;have ak:=LH J;have am:=LH O;clear q ag p5 af P F;go_enter func32,ntmps32;have⟨z5,z0,z1,z2,z3⟩:=O;simp only[] at z0 z1 z2 z3;clear O J L;go_wp2_with fail;generalize (w.alloc (.cells #[.slice a1 n1 c1,.slice a2 n2 c2,.slice a3 n3 c3,.int .i64 G.start] 26)).alloc (.cells #[.int .i64 0,.slice none 0 0,.int .i64 0,.slice none 0 0] 74)=W0 at *;(with_reducible refine T.out.mono ?_);rintro e y⟨rfl,q⟩;have x:=LH (Y.out.ext q);have A:=LH (Zz ak.out q);have an:=LH (am.out.below q);have E:w.heap.size+1<y.heap.size:=x.out.lt;clear z0 z1 z2 z3 z5 q Y T;have aa:∀(W:World),Hid (Blk W (w.heap.size+1) 74 #[.int .i64 0,.slice none 0 0,.int .i64 0,.slice none 0 0])->W.cell? ⟨w+1,0,none⟩=some (.int .i64 0)/\W.cell? ⟨w+1,1,none⟩=some (.slice none 0 0)/\W.cell? ⟨w+1,2,none⟩=some (.int .i64 0)/\W.cell? ⟨w+1,3,none⟩=some (.slice none 0 0)/\W.frozen? ⟨w+1,0,none⟩=false/\W.frozen? ⟨w+1,1,none⟩=false/\W.frozen? ⟨w+1,2,none⟩=false/\W.frozen? ⟨w+1,3,none⟩=false:=λW o=>⟨o.out.cell 0,o.out.cell 1,o.out.cell 2,o.out.cell 3,o.out.frozen 0,o.out.frozen 1,o.out.frozen 2,o.out.frozen 3⟩;have B:=LH aa;clear aa;rcases v:G.right with _ | _
 case' false =>
  have C:Hid (Xl G t=none):=LH (by unfold Xl;rw[v];rfl);have⟨k0,k1,k2,k3,f0,f1,f2,f3⟩:=B.out y x;clear v;go_wp2_with fail;have s:=x;have z:=A;obtain⟨u,M⟩:∃u,u=y:=⟨_,rfl⟩;subst M
 case' true =>
  by_cases ba:(300:Int)<(t.length:Int)
  case' pos =>
   have C:Hid (Xl G t=none):=LH (by unfold Xl;rw[v,show decide (t.length<=300)=false by rw[AZ];omega];rfl);have⟨k0,k1,k2,k3,f0,f1,f2,f3⟩:=B.out y x;clear v;go_wp2_with fail;have s:=x;have z:=A;obtain⟨u,M⟩:∃u,u=y:=⟨_,rfl⟩;subst M
  case' neg =>
   have D:=Gr.fits v;have bh:=D.st;have bf:=D.n2;have I:=LH (readT_some (G:=G) (t:=t) v AA);have S:=LH (rf_node ⟨a1,n1,c1,a2,n2,c2,a3,n3,c3⟩ G D At t.length c t AA (by simp only[];omega) t.length 0 G.start y (Hg.out.below A.out) (Ht.out.below A.out) AA (AS _) AA AA AA);rw[show ((0:Nat):Int)=0 from rfl] at S;have⟨z5,z0,z1,z2,z3⟩:=an.out;simp only[] at z0 z1 z2 z3;clear v D;go_wp2_with fail;(with_reducible refine S.out.mono ?_);rintro e a⟨N,az⟩;have H:=LH (x.out.ext N);have X:=LH (Zz A.out N);have bi:w.heap.size+1<a.heap.size:=H.out.lt;clear z0 z1 z2 z3 z5 N;rcases az with ⟨R,rfl⟩ | ⟨b,k,d,g,l,f,j,ab,ae,a9,bb,ax,ay,bc,bd,rfl,ad⟩
   case' inl =>
    have C:Hid (Xl G t=none):=LH (by
     rw[Ed] at R;rw[I.out,R])
    have r:=Zy a (.cells #[.int .i64 0,.slice none 0 0,.int .i64 0,.slice none 0 0] 74);have s:=LH (H.out.ext r);have z:=LH (Zz X.out r);have⟨k0,k1,k2,k3,f0,f1,f2,f3⟩:=B.out _ s;clear R r;have m:=Blk.new a 74 #[.int .i64 0,.slice none 0 0,.int .i64 0,.slice none 0 0];have x0:(a.alloc (.cells #[.int .i64 0,.slice none 0 0,.int .i64 0,.slice none 0 0] 74)).cell? ⟨a,0,none⟩=some (.int .i64 0):=m.cell 0;have x1:(a.alloc (.cells #[.int .i64 0,.slice none 0 0,.int .i64 0,.slice none 0 0] 74)).cell? ⟨a,1,none⟩=some (.slice none 0 0):=m.cell 1;have x2:(a.alloc (.cells #[.int .i64 0,.slice none 0 0,.int .i64 0,.slice none 0 0] 74)).cell? ⟨a,2,none⟩=some (.int .i64 0):=m.cell 2;have x3:(a.alloc (.cells #[.int .i64 0,.slice none 0 0,.int .i64 0,.slice none 0 0] 74)).cell? ⟨a,3,none⟩=some (.slice none 0 0):=m.cell 3;clear m;go_upto_region 4 with fail;generalize a.alloc (.cells #[.int .i64 0,.slice none 0 0,.int .i64 0,.slice none 0 0] 74)=u at *;generalize a.heap.size=gX at *;by_cases ai:t.length=0
    case' pos =>
     have au:((0:Int) != (t.length:Int))=false:=by rw[BM];omega
     clear ai;go_wp2_with fail
    case' neg =>
     have au:((0:Int) != (t.length:Int))=true:=by rw[BK];omega
     clear ai;go_wp2_with fail
   case' inr =>
    have r:=Zy a (.cells #[.int .i64 ((d:Nat):Int),.slice g b.word.length l,.int .i64 ((k:Nat):Int),.slice f b.posts.length j] 74);have s:=LH (H.out.ext r);have z:=LH (Zz X.out r);have⟨k0,k1,k2,k3,f0,f1,f2,f3⟩:=B.out _ s;have al:=LH (ad.below r);have U:=LH ab;have V:=LH ae;clear r ad ab ae ax ay;have m:=Blk.new a 74 #[.int .i64 ((d:Nat):Int),.slice g b.word.length l,.int .i64 ((k:Nat):Int),.slice f b.posts.length j];have x0:(a.alloc (.cells #[.int .i64 ((d:Nat):Int),.slice g b.word.length l,.int .i64 ((k:Nat):Int),.slice f b.posts.length j] 74)).cell? ⟨a,0,none⟩=some (.int .i64 ((d:Nat):Int)):=m.cell 0;have x1:(a.alloc (.cells #[.int .i64 ((d:Nat):Int),.slice g b.word.length l,.int .i64 ((k:Nat):Int),.slice f b.posts.length j] 74)).cell? ⟨a,1,none⟩=some (.slice g b.word.length l):=m.cell 1;have x2:(a.alloc (.cells #[.int .i64 ((d:Nat):Int),.slice g b.word.length l,.int .i64 ((k:Nat):Int),.slice f b.posts.length j] 74)).cell? ⟨a,2,none⟩=some (.int .i64 ((k:Nat):Int)):=m.cell 2;have x3:(a.alloc (.cells #[.int .i64 ((d:Nat):Int),.slice g b.word.length l,.int .i64 ((k:Nat):Int),.slice f b.posts.length j] 74)).cell? ⟨a,3,none⟩=some (.slice f b.posts.length j):=m.cell 3;clear m;go_upto_region 4 with fail;generalize a.alloc (.cells #[.int .i64 ((d:Nat):Int),.slice g b.word.length l,.int .i64 ((k:Nat):Int),.slice f b.posts.length j] 74)=u at *;generalize a.heap.size=gX at *;by_cases ah:d=t.length
    case' neg =>
     have a0:((d:Int) != (t.length:Int))=true:=by rw[BK];omega
     have C:Hid (Xl G t=none):=LH (by
      have:=U.out;rw[Ed] at this;rw[I.out,this];simp only;rw[if_neg (by rw[V.out];intro h0;have:=congrArg List.length h0;rw[BT,DE] at this;omega)])
     clear ah;go_wp2_with fail
    case' pos =>
     have a0:((d:Int) != (t.length:Int))=false:=by rw[BM];omega
     have Hy:Hid (Xl G t=some (b.word,b.posts,k)):=LH (by
      have:=U.out;rw[Ed] at this;rw[I.out,this];simp only;rw[if_pos (by rw[V.out];exact List.drop_eq_nil_of_le AA)])
     clear ah;go_wp2_with fail;refine AW (AX (p:=4) AB _ _ (w.heap.size+1) 74 #[.int .i64 ((d:Nat):Int),.slice g b.word.length l,.int .i64 ((k:Nat):Int),.slice f b.posts.length j] (0,0) _ rfl ((((s.out.set 0 (.int .i64 ((d:Nat):Int))).set 1 (.slice g b.word.length l)).set 2 (.int .i64 ((k:Nat):Int))).set 3 (.slice f b.posts.length j)) underlying74 rfl AB) rfl ?_;have Z:=(((al.out.set (w.heap.size+1) 0 (.int .i64 ((d:Nat):Int)) E).set (w.heap.size+1) 1 (.slice g b.word.length l) E).set (w.heap.size+1) 2 (.int .i64 ((k:Nat):Int)) E).set (w.heap.size+1) 3 (.slice f b.posts.length j) E;refine⟨Zg (Zg (Zg (Zg z.out _ _ _ AA) _ _ _ AA) _ _ _ AA) _ _ _ AA,.inr ⟨_,_,k,d,g,l,f,j,Hy.out,AA,AA,rfl,Yl Z.word,Yl Z.posts⟩⟩
 all_goals
  refine AW (AX (p:=4) AB _ _ (w.heap.size+1) 74 #[.int .i64 0,.slice none 0 0,.int .i64 0,.slice none 0 0] (0,0) _ rfl ((((s.out.set 0 (.int .i64 0)).set 1 (.slice none 0 0)).set 2 (.int .i64 0)).set 3 (.slice none 0 0)) underlying74 rfl AB) rfl ?_;exact⟨Zg (Zg (Zg (Zg z.out _ _ _ AA) _ _ _ AA) _ _ _ AA) _ _ _ AA,.inl ⟨C.out,rfl⟩⟩
