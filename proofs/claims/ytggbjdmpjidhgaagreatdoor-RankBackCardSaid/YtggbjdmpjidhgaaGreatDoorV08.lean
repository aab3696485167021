/- Words for slices that read as lists: no program in sight. -/
import Derived.Test.YtggbjdmpjidhgaaGreatDoorV01
import Derived.Test.YtggbjdmpjidhgaaGreatDoorV02
import Derived.Test.YtggbjdmpjidhgaaGreatDoorV03
import Derived.Test.YtggbjdmpjidhgaaGreatDoorV04
set_option linter.all false
set_option maxHeartbeats 1500000
set_option maxRecDepth 100000
namespace Go.Proofs.YtggbjdmpjidhgaaGreatDoor
open Go.RowKit Go.Proofs.Tryz
variable{ts d rest:List Tk}{B n c q top:Nat}{a:WSt}{A:Option Addr}{cs:List Value}{ss:List ByteArray}{pr L:ByteArray}{s:Int}{l:List Int}{ps:List Prd}{T:Int->Nat->Nat}{xs:List Nat}{f:WSt->Int->Option (WSt × Nat)}{v:Value}
theorem and_bit(s:Nat)(n:Int):(s &&& Y6 n != 0)=hasN s n:=by
 unfold Y6 hasN;split
 ·rename_i h;rw[DY h,Bool.true_and,and_pow];have b:=Nat.two_pow_pos n.toNat
  cases a:s.testBit n.toNat
  ·simp
  simp only[if_true,BN];omega
 rename_i h;rw[BR h];simp
theorem ref_has(s:Nat)(n:Int)(w:World)(d:s<4294967296):Calls prog 62 #[.int .u32 (s:Int),.int .i64 n] w λe w'=>e = .returned (.bool (hasN s n))/\w=w':=by
 have f:=and32 s (Y6 n) d (Ua n);have g:(((s &&& Y6 n:Nat):Int) != 0)=hasN s n:=by
  rw[<-and_bit,BZ];simp[BN]
 have a:=Ch n w;generalize Y6 n=b at *;generalize s &&& b=x at *;have c:=LH a;go_enter func62,ntmps62;go_wp2_with (go_at_call 63;refine c.out.mono ?_;rintro e w'⟨rfl,rfl⟩);go_ret;exact⟨rfl,rfl⟩
def Gr.great(G:Gr):Bool:=decide (40<G.terms.length) || decide (40<G.nons.length) || decide (60<G.rules.length) || G.rules.any λr=>decide (20<r.right.length)
theorem andn32(a b:Nat)(c:a<4294967296)(j:b<4294967296):bits .andNot .u32 (a:Int) (b:Int)=((Ck a b:Nat):Int):=by
 have k:Ck a b<4294967296:=Ev (andN_le a b) c;have d:(BitVec.ofInt 32 (a:Int)).toNat=a:=by rw[BitVec.ofInt_natCast,Et];exact Ei AA
 have f:(BitVec.ofInt 32 (b:Int)).toNat=b:=by rw[BitVec.ofInt_natCast,Et];exact Ei AA
 show IntKind.u32.wrap ((BitVec.ofInt 32 (a:Int) &&& ~~~ BitVec.ofInt 32 (b:Int)).toNat:Int)=_;have g:(BitVec.ofInt 32 (a:Int) &&& ~~~ BitVec.ofInt 32 (b:Int)).toNat=Ck a b:=by
  apply Nat.eq_of_testBit_eq;intro t;rw[BitVec.testBit_toNat,BitVec.getLsbD_and,BitVec.getLsbD_not,<-BitVec.testBit_toNat,<-BitVec.testBit_toNat,d,f,Nu];rcases BD t 32 with h | h
  ·simp[h]
  rw[Zx7 a c t h];rfl
 rw[g,IntKind.wrap_u32];omega
def Kk(xs:List Nat)(i:Nat):Nat:=i+1+((xs.drop (i+1)).takeWhile Wa).length
def Qy:List Tk->Int
 | []=>0
 | t::_=>t.1
def Xa:List Tk->List ByteArray × List Tk
 | []=>([],[])
 | t::ts=>if Fz t.1 then (t.2::(Xa ts).1,(Xa ts).2) else ([],t::ts)
theorem Zw3{t:Tk}(h:Fz t.1=true):Xa (t::ts)=(t.2::(Xa ts).1,(Xa ts).2):=by
 show (if Fz t.1 then _ else _)=_;rw[if_pos h]
theorem Zt2(h:Fz (Qy ts)=false):Xa ts=([],ts):=by
 cases ts with
 | nil=>rfl
 | cons t ts =>
   show (if Fz t.1 then _ else _)=_;rw[if_neg (by simpa [Qy] using h)]
theorem Zvd(ts:List Tk):(Xa ts).2.length<=ts.length/\(Xa ts).1.length+(Xa ts).2.length=ts.length:=by
 induction ts with
 | nil=>exact⟨AI _,rfl⟩
 | cons t ts a =>
   by_cases h:Fz t.1=true
   ·rw[Zw3 h];simp only[AW];omega
   rw[Zt2 (by simpa [Qy] using h)];simp
def precP(ts:List Tk):Option (ByteArray × List Tk) :=
 if Qy ts=8 then (match ts with
  | _::t::r=>if Fz t.1 then some (t.2,r) else none
  | _=>none) else some (⟨#[]⟩,ts)
def L9(left:ByteArray):Nat->List Tk->Option (List Prd × List Tk)
 | 0,_=>none
 | q+1,ts =>
   match precP (Xa ts).2 with
   | none=>none
   | some (pr,us) =>
     if Qy us=11 then (L9 left q us.tail).map λr=>(⟨left,(Xa ts).1,pr⟩::r.1,r.2)
     else if Qy us=12 then some ([⟨left,(Xa ts).1,pr⟩],us.tail) else none
def Fj(q:Nat):List Tk->Option (List Prd × List Tk)
 | a::b::rest=>if a.1=1/\b.1=10 then L9 a.2 q rest else none
 | _=>none
def Ku:Nat->List Tk->Option (List Prd)
 | 0,_=>none
 | q+1,ts =>
   match ts with
   | []=>some []
   | t::_=>if t.1=9 then none else
     match Fj q ts with
     | none=>none
     | some (ps,rest)=>(Ku q rest).map (ps++·)
def srcP(q:Nat):List Tk->Option (List Prd)
 | m::rest=>if m.1=9 then (match Fj q rest with
   | none=>none
   | some (ps,r)=>(Ku q r).map (ps++·)) else none
 | []=>none
def Nv:List ByteArray->List Prd->Option (List ByteArray)
 | ns,[]=>some ns
 | ns,p::ps =>
   if !Xi (Zh p.left) then none
   else if 0<=Y8 (λt=>decide (t=p.left)) ns then Nv ns ps
   else if ns.length=16 then none
   else Nv (ns++[p.left]) ps
def Zzj(G:Gr)(s:ByteArray):Option (Int × Gr) :=
 if 0<=G.term s then some (G.term s,G)
 else if G.terms.length=24 then none
 else some ((G.terms.length:Int),{ G with terms:=G.terms++[⟨s,0,0⟩] })
def Nl(a:Bool)(G:Gr)(s:ByteArray):Option (Int × Gr) :=
 if 0<=G.non s then (if a then some (-1-G.non s,G) else none)
 else if decide (0<=G.term s) || H5 (Zh s) || decide (s=errS) then Zzj G s
 else none
def Ko:Gr->List ByteArray->List Int->Int->Option (Gr × List Int × Int)
 | G,[],acc,pr=>some (G,acc,pr)
 | G,s::ss,acc,pr =>
   if !Q7 s then none
   else if acc.length=6 then none
   else match Nl true G s with
    | none=>none
    | some (x,G')=>Ko G' ss (acc++[x]) (if 0<=x then x else pr)
def prodP(G:Gr)(p:Prd):Option Gr :=
 if G.rules.length=40 then none
 else match Ko G p.right [] (-1) with
  | none=>none
  | some (G1,l,pr) =>
    if p.prec=⟨#[]⟩ then some { G1 with rules:=G1.rules++[⟨G.non p.left,l,pr⟩] }
    else if !Q7 p.prec then none
    else match Nl false G1 p.prec with
     | none=>none
     | some (x,G2)=>some { G2 with rules:=G2.rules++[⟨G.non p.left,l,x⟩] }
def Gn:Gr->List Prd->Option Gr
 | G,[]=>some G
 | G,p::ps=>match prodP G p with
   | none=>none
   | some a=>Gn a ps
def Zwy(ps:List Prd):Option Gr :=
 match ps with
 | []=>none
 | _=>match Nv [] ps with
   | none=>none
   | some a=>Gn ⟨[],a,[],0⟩ ps
def Zyr(t:Af):Tk:=(t.kind,str t.text)
theorem Kq.wide{w:World}{a:Nat}(h:Kq w B A n c ts)(l:w.heap.size<=a):Kq w a A n c ts:=by
 refine⟨h.1,h.2.1,h.2.2.1,λg=>?_⟩;obtain⟨b,j,e,k,f,d⟩:=h.2.2.2 g;exact⟨b,j,e,AA,f,d⟩
theorem Kq.head{w:World}{t:Tk}(h:Kq w B A n c (t::ts)):
 ∃b a x y,A=some ⟨b,a,none⟩/\b<B/\b<w.heap.size/\w.cell? ⟨b,a,none⟩=some (.int .i64 t.1)/\w.cell? ⟨b,a+1,none⟩=some (.string t.2)/\w.cell? ⟨b,a+2,none⟩=some (.complex .f64 x y):=by
 have l:=h.1;simp only[AW] at l;obtain⟨b,a,e,j,m,k⟩:=h.2.2.2 AA;obtain⟨d,f,x,y,g⟩:=k 0 t rfl;simp only[Nat.zero_mul,DJ] at d f g;exact⟨b,a,x,y,e,j,m,d,f,g⟩
theorem own_toks{w:World}{base e:Nat}(h:w.ownsRow base e 3 (.slice A n c) n cs)(m:Dp cs ts):Kq w w A n c ts:=by
 have k:ts.length=n:=by have:=h.1;have:=m.1;omega
 rcases h.2 with ⟨l,rfl⟩ | ⟨g,cap,u,l,v,o,s,q,z,D⟩
 ·injection l with a f h3;subst a;subst h3;exact⟨k,AI _,AA,λd=>absurd d AA⟩
 injection l with a f h3;subst a;subst h3;have b:g<w.heap.size:=by
  rcases BD g w with b | r
  ·exact b
  rw[CX r] at o;cases o
 refine⟨k,s,by simpa [maxLen] using q,λC=>⟨g,0,rfl,b,b,λj t p=>?_⟩⟩;have B:j<n:=by rw[<-k];exact (AN.1 p).1
 obtain⟨d,a,x,y,f⟩:=m.2 j t p;refine⟨?_,?_,x,y,?_⟩
 ·rw[BH,h.cellAt (j*3) AA];exact d
 ·rw[BH,h.cellAt (j*3+1) AA];exact a
 rw[BH,h.cellAt (j*3+2) AA];exact f
theorem own_rfs{w:World}{base e:Nat}(h:w.ownsRow base e 2 (.slice A n c) n cs)(l:Gi cs ss):Rfs w A n c ss:=by
 have d:ss.length=n:=by have:=h.1;have:=l.1;omega
 rcases h.2 with ⟨k,rfl⟩ | ⟨g,cap,s,k,u,m,r,p,v,C⟩
 ·injection k with h1 b h3;subst h1;subst h3;exact⟨d,AI _,AA,λa=>absurd a AA⟩
 injection k with h1 b h3;subst h1;subst h3;have f:g<w.heap.size:=by
  rcases BD g w with f | q
  ·exact f
  rw[CX q] at m;cases m
 refine⟨d,r,by simpa [maxLen] using p,λB=>⟨g,0,rfl,f,λj t o=>?_⟩⟩;have z:j<n:=by rw[<-d];exact (AN.1 o).1
 obtain⟨a,x,y,b⟩:=l.2 j t o;refine⟨?_,x,y,?_⟩
 ·rw[BH,h.cellAt (j*2) AA];exact a
 rw[BH,h.cellAt (j*2+1) AA];exact b
theorem trmCs_snoc(ts:List Trm)(t:Trm):V8 (ts++[t])=V8 ts++[.string t.name,.int .i64 t.level,.int .i64 t.assoc]:=by simp[V8]
def isP(a b:Int):List Tk->Bool
 | []=>false
 | t::_=>decide (t.1=a) || decide (t.1=b)
theorem Ztj(ts:List Tk):isP 1 2 ts=Fz (Qy ts):=by
 cases ts with
 | nil=>rfl
 | cons t ts=>rfl
theorem Lf{k:Int}(h:Qy ts=k)(b:k≠0):∃u a,ts=u::a/\u.1=k:=by
 cases ts with
 | nil=>exact absurd h.symm b
 | cons u a=>exact⟨u,a,rfl,h⟩
theorem Zxq(h:precP ts=some (pr,d)):(Qy ts≠8/\pr=⟨#[]⟩/\d=ts)\/∃b c,ts=b::c::d/\b.1=8/\Fz c.1=true/\pr=c.2:=by
 unfold precP at h;by_cases a:Qy ts=8
 ·rw[if_pos a] at h
  match ts,a,h with
  | [],a,h=>cases h
  | [b],a,h=>cases h
  | b::c::r,a,h =>
    simp only at h;split at h
    ·rename_i f;simp only[BM,CZ] at h;obtain⟨rfl,rfl⟩:=h;exact .inr ⟨b,c,rfl,a,f,rfl⟩
    cases h
 rw[if_neg a] at h;simp only[BM,CZ] at h;exact .inl ⟨a,h.1.symm,h.2.symm⟩
theorem altsP_step{j:List Prd}(h:L9 L q d=some (j,rest)):
 ∃pr a u b,precP (Xa d).2=some (pr,a)/\a=u::b/\((u.1=11/\∃o n,L9 L o b=some (n,rest)/\j=⟨L,(Xa d).1,pr⟩::n)\/(u.1=12/\j=[⟨L,(Xa d).1,pr⟩]/\rest=b)):=by
 cases q with
 | zero=>cases h
 | succ q =>
   unfold L9 at h;split at h
   ·cases h
   rename_i pr a l;by_cases f:Qy a=11
   ·rw[if_pos f,Option.map_eq_some_iff] at h;obtain⟨⟨m,r⟩,c,k⟩:=h;simp only[CZ] at k;obtain⟨rfl,rfl⟩:=k;obtain⟨u,b,e,g⟩:=Lf f AC;rw[e] at c;exact⟨pr,a,u,b,l,e,.inl ⟨g,q,m,c,rfl⟩⟩
   rw[if_neg f] at h;by_cases c:Qy a=12
   ·rw[if_pos c] at h;simp only[BM,CZ] at h;obtain⟨rfl,rfl⟩:=h;obtain⟨u,b,e,g⟩:=Lf c AC;exact⟨pr,a,u,b,l,e,.inr ⟨g,rfl,by rw[e];rfl⟩⟩
   rw[if_neg c] at h;cases h
theorem altsP_pos{b:List Tk}{d:List Prd}(h:L9 L q b=some (d,rest)):0<d.length/\d.length+rest.length<=b.length:=by
 induction q generalizing b d rest with
 | zero=>cases h
 | succ q l =>
   have o:=Zvd b;unfold L9 at h;split at h
   ·cases h
   rename_i pr g k;have c:g.length<=(Xa b).2.length:=by
    rcases Zxq k with ⟨_,_,e⟩ | ⟨p,s,e,_⟩
    ·rw[e];exact AI _
    rw[e];simp only[AW];omega
   by_cases f:Qy g=11
   ·rw[if_pos f,Option.map_eq_some_iff] at h;obtain⟨⟨m,r⟩,a,j⟩:=h;simp only[CZ] at j;obtain⟨rfl,rfl⟩:=j;have:=l a;rw[List.length_tail] at this;obtain⟨u,n,e,_⟩:=Lf f AC;rw[e] at this c;simp only[AW] at this c ⊢;omega
   rw[if_neg f] at h;by_cases a:Qy g=12
   ·rw[if_pos a] at h;simp only[BM,CZ] at h;obtain⟨rfl,rfl⟩:=h;obtain⟨u,n,e,_⟩:=Lf a AC;rw[e] at c;rw[e];simp only[AW,DS,List.tail_cons] at c ⊢;omega
   rw[if_neg a] at h;cases h
theorem Zxb{c:List Prd}(h:Fj q d=some (c,rest)):0<c.length/\c.length+rest.length<d.length:=by
 match d,h with
 | a::b::ts,h =>
   have h:(if a.1=1/\b.1=10 then L9 a.2 q ts else none)=some (c,rest):=h;split at h
   ·have:=altsP_pos h;simp only[AW];omega
   cases h
theorem groupsP_step{a:List Tk}{c:List Prd}(h:Ku q a=some c):
 (a=[]/\c=[])\/(∃u l,a=u::l/\u.1≠9/\∃f ps rest b,Fj f a=some (ps,rest)/\Ku f rest=some b/\c=ps++b):=by
 cases q with
 | zero=>cases h
 | succ q =>
   cases a with
   | nil =>
     injection h with h;exact .inl ⟨rfl,h.symm⟩
   | cons u a =>
     refine .inr ⟨u,a,rfl,?_⟩;have h:(if u.1=9 then none else match Fj q (u::a) with | none=>none | some (ps,rest)=>(Ku q rest).map (ps++·))=some c:=h;by_cases d:u.1=9
     ·rw[if_pos d] at h;cases h
     rw[if_neg d] at h;refine⟨d,?_⟩;split at h
     ·cases h
     rename_i ps rest k;rw[Option.map_eq_some_iff] at h;obtain⟨b,g,j⟩:=h;exact⟨q,ps,rest,b,k,g,j.symm⟩
theorem fill_step{j:Nat}(a:j<n):(Nb n j).set j (-1)=Nb n (j+1):=by
 unfold Nb;rw[List.set_append_right _ _ AE,Eh,Nat.sub_self];obtain⟨d,hd⟩:∃d,n-j=d+1:=⟨n-j-1,AA⟩;rw[hd,List.replicate_succ,List.set_cons_zero,show n-(j+1)=d by omega,List.replicate_succ',DQ];rfl
theorem Bu{g:Bool}{G d:Gr}{s:ByteArray}{i:Int}(h:Nl g G s=some (i,d)):
 (0<=G.non s/\g=true/\i=-1-G.non s/\d=G)\/(¬0<=G.non s/\Zzj G s=some (i,d)/\(0<=G.term s\/(¬0<=G.term s/\H5 (Zh s)=true)\/(¬0<=G.term s/\H5 (Zh s)=false/\s=errS))):=by
 unfold Nl at h;by_cases b:0<=G.non s
 ·rw[if_pos b] at h;split at h
  ·rename_i j;simp only[BM,CZ] at h;exact .inl ⟨b,j,h.1.symm,h.2.symm⟩
  cases h
 rw[if_neg b] at h;split at h
 ·rename_i a;refine .inr ⟨b,h,?_⟩;simp only[CJ,decide_eq_true_eq] at a;by_cases c:0<=G.term s
  ·exact .inl c
  by_cases f:H5 (Zh s)=true
  ·exact .inr (.inl ⟨c,f⟩)
  rcases a with (a | a) | a
  ·exact absurd a c
  ·exact absurd a f
  exact .inr (.inr ⟨c,by simpa using f,a⟩)
 cases h
theorem leftsP_step{a d:List ByteArray}{l:List Prd}{k:Nat}{q:Prd}(h:Nv a (l.drop k)=some d)(g:l[k]? = some q):
 Xi (Zh q.left)=true/\((0<=Y8 (λt=>decide (t=q.left)) a/\Nv a (l.drop (k+1))=some d)\/(Y8 (λt=>decide (t=q.left)) a=-1/\a.length≠16/\Nv (a++[q.left]) (l.drop (k+1))=some d)):=by
 rw[Q8 g] at h;unfold Nv at h;by_cases b:Xi (Zh q.left)=true
 ·rw[if_neg (by simp[b])] at h;refine⟨b,?_⟩;by_cases c:0<=Y8 (λt=>decide (t=q.left)) a
  ·rw[if_pos c] at h;exact .inl ⟨c,h⟩
  rw[if_neg c] at h;split at h
  ·cases h
  rename_i f;have:=(U9 (λt=>decide (t=q.left)) a).1;exact .inr ⟨AA,f,h⟩
 rw[if_pos (by simpa using b)] at h;cases h
theorem rightsP_step{G:Gr}{l:List ByteArray}{k:Nat}{b:List Int}{pr:Int}{R:Gr × List Int × Int}{s:ByteArray}(h:Ko G (l.drop k) b pr=some R)(f:l[k]? = some s):
 Q7 s=true/\b.length≠6/\∃x a,Nl true G s=some (x,a)/\Ko a (l.drop (k+1)) (b++[x]) (if 0<=x then x else pr)=some R:=by
 rw[Q8 f] at h;unfold Ko at h;by_cases h1:Q7 s=true
 ·rw[if_neg (by simp[h1])] at h;split at h
  ·cases h
  rename_i c;refine⟨h1,c,?_⟩;split at h
  ·cases h
  rename_i x a d;exact⟨x,a,d,h⟩
 rw[if_pos (by simpa using h1)] at h;cases h
structure Zwr (W wx:World) (g:Nat) (n:Int):Prop where
 lo:W.heap.size<=g
 blk:Blk wx g 52 #[.int .i64 n,.slice none 0 0,.int .i64 (-1)]
 bel:Below W.heap.size W wx
theorem prodsP_step{G b:Gr}{l:List Prd}{k:Nat}{q:Prd}(h:Gn G (l.drop k)=some b)(d:l[k]? = some q):∃a,prodP G q=some a/\Gn a (l.drop (k+1))=some b:=by
 rw[Q8 d] at h;unfold Gn at h;split at h
 ·cases h
 rename_i a c;exact⟨a,c,h⟩
theorem buildP_ways{G:Gr}(h:Zwy ps=some G):0<ps.length/\∃ns,Nv [] ps=some ns/\Gn ⟨[],ns,[],0⟩ ps=some G:=by
 unfold Zwy at h;split at h
 ·cases h
 rename_i b;split at h
 ·cases h
 rename_i ns a;refine⟨?_,ns,a,h⟩;cases ps with
 | nil=>exact absurd rfl b
 | cons p ps=>simp
def Xt:Gr:=⟨[⟨⟨#[39,97,39]⟩,0,0⟩],[⟨#[115]⟩],[⟨0,[-1,-1],-1⟩,⟨0,[0],0⟩],0⟩
theorem Zxf:Xt.right=true:=AB
theorem Zwn{r:Nat}:∀{m:Nat},r<Yv T s l n m->∃k v,k<m/\r=Yv T s l n k+v/\v<T s k*Zx T l (n-k)
 | 0,h=>absurd h (Nat.not_lt_zero _)
 | m+1,h=>by
   by_cases b:r<Yv T s l n m
   ·obtain⟨k,v,c,h1,a⟩:=Zwn b;exact⟨k,v,AA,h1,a⟩
   rw[Xy] at h;exact⟨m,r-Yv T s l n m,AA,AA,AA⟩
def Mw(xs a:List Nat):List Nat × Nat :=
 if Zm xs&&Zm a then (if val xs<val a then ([],11) else (limbs (val xs-val a),0)) else ([],1)
def Vq(xs a:List Nat):Int:=if Zm xs&&Zm a then Vm (val xs) (val a) else 0
def Zz9(xs:List Nat):Nat:=if Zm xs then bitLen (val xs) else 0
def M2(xs a:List Nat):List Nat × List Nat × Nat :=
 if Zm xs&&Zm a&&a.length != 0 then (limbs (val xs / val a),limbs (val xs % val a),0) else ([],[],1)
theorem Dj(x y c:Nat)(w:World)(a:x<4294967296)(b:y<4294967296)(o:c<=1):
 Calls prog 210 #[.int .u32 (x:Int),.int .u32 (y:Int),.int .u32 (c:Int)] w λe w' =>
  e = .returned (.tuple #[.int .u32 (((4294967296+x-y-c) % 4294967296:Nat):Int),.int .u32 ((1-(4294967296+x-y-c) / 4294967296:Nat):Int)])/\w=w':=by
 have hd:((x:Int)-(y:Int)-(c:Int)) % 4294967296=(((4294967296+x-y-c) % 4294967296:Nat):Int):=AA
 have k:=borrow_bit x y c a b o;have f:(4294967296+x-y-c) % 4294967296<4294967296:=Nat.mod_lt _ AC;have h1:(4294967295 ^^^ x)<2 ^ 32:=Nat.xor_lt_two_pow AC a;have d:(x ^^^ y)<2 ^ 32:=Nat.xor_lt_two_pow a b;have g:(4294967295 ^^^ (x ^^^ y))<2 ^ 32:=Nat.xor_lt_two_pow AC d;have h:((4294967295 ^^^ x) &&& y)<2 ^ 32:=Nat.and_lt_two_pow _ b;have j:((4294967295 ^^^ (x ^^^ y)) &&& ((4294967296+x-y-c) % 4294967296))<2 ^ 32:=Nat.and_lt_two_pow _ f;have l:IntKind.u32.max=((4294967295:Nat):Int):=rfl;have e:bits .or .u32 (bits .and .u32 (bits .xor .u32 IntKind.u32.max (x:Int)) (y:Int)) (bits .and .u32 (bits .xor .u32 IntKind.u32.max (bits .xor .u32 (x:Int) (y:Int))) (((x:Int)-(y:Int)-(c:Int)) % 4294967296)) / 2147483648=((1-(4294967296+x-y-c) / 4294967296:Nat):Int):=by
  rw[hd,l,u32_xor_nat _ _ AC a,u32_xor_nat _ _ a b,u32_xor_nat _ _ AC d,u32_and_nat _ _ h1 b,u32_and_nat _ _ g f,u32_or_nat _ _ h j,<-k];rfl
 have n:=LH e;have m:=LH hd;clear e hd l h1 d g h j f k;go_enter func210,ntmps210;go_wp2;go_ret2;exact⟨Zst m.out n.out,rfl⟩
theorem bits_len32(x:Int)(w:World)(h0:0<=x)(h1:x<=4294967295):
 Calls prog 233 #[.int .u32 x] w λe w'=>e = .returned (.int .i64 (Lib.bitLen x.toNat))/\w=w':=by
 have a:Lib.len8tab.size=256:=rfl;go_enter func233,ntmps233;go_wp2;all_goals go_ret
 ·refine⟨Bo ?_,rfl⟩;have e:(x / 65536 / 256).toNat=x.toNat / 16777216:=AA
  have l:=Lib.bitLen_le8' (x / 65536 / 256) AA AA;have s:=Lib.bitLen_shift24 x.toNat AA AA;rw[<-e] at s;simp only[Bs];rw[Wq (Lib.bitLen _:Int) AA AA,Wq _ AA AA];omega
 ·refine⟨Bo ?_,rfl⟩;have e:(x / 65536).toNat=x.toNat / 65536:=AA
  have l:=Lib.bitLen_le8' (x / 65536) AA AA;have s:=Lib.bitLen_shift16 x.toNat AA AA;rw[<-e] at s;simp only[Bs];rw[Wq (Lib.bitLen _:Int) AA AA,Wq _ AA AA];omega
 ·refine⟨Bo ?_,rfl⟩;have e:(x / 256).toNat=x.toNat / 256:=AA
  have l:=Lib.bitLen_le8' (x / 256) AA AA;have s:=Lib.bitLen_shift8 x.toNat AA AA;rw[<-e] at s;simp only[Bs];rw[Wq (Lib.bitLen _:Int) AA AA,Wq _ AA AA];omega
 refine⟨Bo ?_,rfl⟩;have l:=Lib.bitLen_le8' x AA AA;simp only[Bs];rw[Wq (Lib.bitLen _:Int) AA AA,Wq _ AA AA]
theorem Be(k:IntKind)(xs:List Nat)(j x:Nat):nums k (xs.set j x)=(nums k xs).set j (.int k (x:Int)):=by simp[nums,List.map_set]
theorem Md(a xs:List Nat)(k s:Nat)(b:a.length=k)(c:k<xs.length):(a++xs.drop k).set k s=(a++[s])++xs.drop (k+1):=by
 subst b;rw[List.set_append_right _ _ (AI _),Nat.sub_self,DW c,List.set_cons_zero];simp
theorem L7(x c:Nat)(w:World)(b:x<4294967296)(a:c<=1):
 Calls prog 210 #[.int .u32 (x:Int),.int .u32 0,.int .u32 (c:Int)] w λe w' =>
  e = .returned (.tuple #[.int .u32 (((4294967296+x-0-c) % 4294967296:Nat):Int),.int .u32 ((1-(4294967296+x-0-c) / 4294967296:Nat):Int)])/\w=w' :=
 Dj x 0 c w b AA a
def SubRel(w:World)(A:Option Addr)(n c:Nat)(xs a:List Nat)(b i:Value)(wr:World):Prop :=
 ∃k:Nat,k<=n/\i = .int .i64 (k:Int)/\b = .int .u32 ((Xn xs a k).2:Int) /\
  wr.ownsRow w.heap.size 49 1 (.slice A n c) n (nums .u32 ((Xn xs a k).1++xs.drop k))/\Below w.heap.size w wr
theorem bitLen_top(b:List Nat)(z:Nat)(l:Lim b)(f:z≠0):bitLen (val (b++[z]))=32*b.length+bitLen z:=by
 have c:=Ui b l;rw[Wf];have j:(4294967296:Nat) ^ b.length=2 ^ (32*b.length):=by rw[Nat.pow_mul]
 rw[j] at c ⊢;generalize val b=a at *;generalize 32*b.length=k at *;have h0:0<2 ^ k:=Nat.two_pow_pos k;have n:2 ^ k*1<=2 ^ k*z:=El _ AA;unfold bitLen;rw[if_neg AA,if_neg f];have e:(a+2 ^ k*z) / 2 ^ k=z:=by
  rw[Nat.add_mul_div_left _ _ h0,Nat.div_eq_of_lt c,BH]
 have h1:2 ^ (z.log2+k)<=a+2 ^ k*z:=by
  have:=Nat.log2_self_le f;rw[Nat.pow_add,Ej];have:=El (2 ^ k) this;omega
 have g:a+2 ^ k*z<2 ^ (z.log2+k+1):=by
  have m:z<2 ^ (z.log2+1):=Nat.lt_log2_self;have h:2 ^ k*(z+1)<=2 ^ k*2 ^ (z.log2+1):=El _ AA;rw[<-Nat.pow_add,Ee] at h;rw[show z.log2+k+1=k+(z.log2+1) from by omega];omega
 have:(a+2 ^ k*z).log2=z.log2+k:=by
  have d:a+2 ^ k*z≠0:=AA
  apply Nat.le_antisymm
  ·have:=(Nat.log2_lt d).2 g;omega
  exact (Nat.le_log2 d).2 h1
 omega
theorem val_set(a:List Nat)(j t:Nat)(b:j<a.length):val (a.set j (a.getD j 0+t))=val a+4294967296 ^ j*t:=by
 induction a generalizing j with
 | nil=>simp at b
 | cons q a c =>
   cases j with
   | zero=>simp[val];omega
   | succ j =>
     have:=c j (by simpa using b);simp only[List.set_cons_succ,List.getD_cons_succ,val,this,Nat.pow_succ,Ee];rw[<-DV,Ej 4294967296 (4294967296 ^ j)];omega
theorem nums_far{k:IntKind}{w:World}(h:Zq k w A n c xs)(g:∀b a,A=some ⟨b,a,none⟩->B<b)(i:Nat)(u:Value):
 Zq k (w.setCell ⟨B,i,none⟩ u) A n c xs:=by
 refine⟨h.1,h.2.1,h.2.2.1,λm=>?_⟩;obtain⟨b,a,e,d,f⟩:=h.2.2.2 m;have:=g b a e;refine⟨b,a,e,by simpa using d,λj l=>?_⟩;rw[World.cell?_setCell_other _ _ _ _ (by intro h;simp only[Addr.mk.injEq] at h;omega)];exact f j l
def TwRel(w:World)(xs:List Nat)(bit:Nat)(b o i:Value)(wr:World):Prop :=
 ∃(k:Nat) (A:Option Addr) (a:Nat),k<=xs.length/\i = .int .i64 (k:Int)/\b = .int .u32 ((twP xs bit k).2:Int)/\o = .slice A k a /\
  wr.ownsRow w.heap.size 49 1 (.slice A k a) k (nums .u32 (twP xs bit k).1)/\Below w.heap.size w wr
@[irreducible] def RetTake (w:World) (xs d:List Nat) (e:Ending) (w':World):Prop :=
  ∃(A:Option Addr) (c:Nat),e = .returned (.tuple #[.slice A (Xx (Xn xs d xs.length).1).length c,.bool (decide ((Xn xs d xs.length).2=0/\d.length<=xs.length))]) /\
   Zq .u32 w' A (Xx (Xn xs d xs.length).1).length c (Xx (Xn xs d xs.length).1)/\Below w.heap.size w w'/\(∀b a,A=some ⟨b,a,none⟩->w.heap.size<=b)
theorem bit_in(xs:List Nat)(b:Lim xs)(k:Nat)(a:k<bitLen (val xs)):k / 32<xs.length:=by
 rcases BD (k / 32) xs.length with h | h
 ·exact h
 have h1:=bitLen_le _ _ a;have c:=Ui _ b;have d:(4294967296:Nat) ^ xs.length=2 ^ (32*xs.length):=by rw[Nat.pow_mul]
 have f:2 ^ (32*xs.length)<=2 ^ k:=DD AC AA;omega
@[irreducible] def RetTk (w:World) (a b:Nat) (e:Ending) (w':World):Prop :=
  ∃(A:Option Addr) (c:Nat) (d:List Nat),e = .returned (.tuple #[.slice A d.length c,.bool (decide (b<=a))]) /\
   Zq .u32 w' A d.length c d/\Below w.heap.size w w'/\(∀b f,A=some ⟨b,f,none⟩->w.heap.size<=b)/\Hid (b<=a->d=limbs (a-b))
@[irreducible] def RetQuo (w:World) (p:List Nat × List Nat × Nat) (e:Ending) (w':World):Prop :=
  ∃A c a b,e = .returned (.tuple #[.slice A p.1.length c,.slice a p.2.1.length b,.int .i64 (p.2.2:Int)])/\Zq .u32 w' A p.1.length c p.1/\Zq .u32 w' a p.2.1.length b p.2.1/\Below w.heap.size w w'
def QuoRel(w:World)(xs:List Nat)(b:Nat)(r i:Value)(wr:World):Prop :=
 ∃(k:Nat) (A:Option Addr) (c:Nat) (a d:List Nat),i = .int .i64 ((k:Int)-1)/\k<=bitLen (val xs)/\r = .slice A d.length c/\Zq .u32 wr A d.length c d /\
  (∀b f,A=some ⟨b,f,none⟩->w.heap.size<b)/\Own wr w.heap.size 49 .u32 a/\Below w.heap.size w wr /\
  Hid (a.length=xs.length)/\Lim a/\Hid (val a=val xs / 2 ^ k / b*2 ^ k)/\Hid (d=limbs (val xs / 2 ^ k % b))
def RetOver(a x:Nat)(Ar:Option Addr)(cr:Nat)(w:World)(e:Ending)(w':World):Prop:=Below w.heap.size w w' /\
 ((a<x/\e = .returned (.tuple #[.slice Ar (limbs a).length cr,.bool false]))\/(x<=a/\∃A c,e = .returned (.tuple #[.slice A (limbs (a-x)).length c,.bool true])/\Zq .u32 w' A (limbs (a-x)).length c (limbs (a-x))))
theorem fsingle(T:Int->Nat->Nat)(s:Int)(n:Nat):Zx T [s] n=T s n:=N7 T s n
theorem Zxk{k:Nat}(j:k<=n)(m:q<T s k)(d:c<Zx T l (n-k))(h:Zx T (s::l) n<big):
 T s k<big/\Zx T l (n-k)<big/\q*Zx T l (n-k)+c<T s k*Zx T l (n-k):=by
 have h1:Yv T s l n (k+1)<=Zx T (s::l) n:=by
  rw[<-Jn];exact Wz T s l n AA
 rw[Xy] at h1;have f:T s k<=T s k*Zx T l (n-k):=Nat.le_mul_of_pos_right _ AA;have g:Zx T l (n-k)<=T s k*Zx T l (n-k):=Nat.le_mul_of_pos_left _ AA;have b:=Lc (a:=0) (q:=q) (AA:0+q<T s k) d;rw[BH] at b;exact⟨AA,AA,b⟩
theorem non22:Zp (-1)=0:=AC
section
open Go.ChangeShapes Go.WideShapes Go.ChangeAt Go.RowKit
theorem Zyl{W:World}(h:laidMetH prog Nn W):Q2 W:=by
 rw[MakeChecks.laidMetH_plain _ _ _ AB] at h;obtain⟨ps,⟨g0,B,m,u,p0,A,f,s,t,q,_,_⟩,_,_⟩:=h;obtain rfl:=BI (gTab.symm.trans f);obtain rfl:=BI (tTab.symm.trans s);obtain⟨xs,z,rfl,g,x,y,a⟩:=DataW.trod_array underlying270 q;have c1:prog.cellsOf 5=1:=AB
 simp only[CZ] at g;have c:=g.1;rw[tab_lits] at c;simp only[DataW.agg.injEq] at c;intro j r;have a:=a j r;have l:xs[j]? = some (xs[j]' AA):=AM AA;rw[l] at a;obtain⟨k,d,n,_⟩:=DataW.trod_int underlying5 a;have b:(xs.map (·.1))[j]? = some (.lit (.int .u8 k)):=by
  rw[BA,l,n];rfl
 rw[<-c,BA] at b;have v:Lib.deBruijn32tab.length=32:=AC
 rw[AM AA] at b;simp only[Ek,BM,DataW.lit.injEq,Lit.int.injEq,true_and] at b;have o:=World.var?_cell f t j;rw[c1] at d;have p:m[j]? = some (.int .u8 k):=by
  have:=congrArg List.head? d;simpa [List.head?_take,List.head?_drop] using this
 rw[o,p,<-b];simp[AM (show j<Lib.deBruijn32tab.length by omega)]
end
section
open Ieee
theorem Zxx{k:Nat}(b:l[k]? = some s)(h0:0<=s):Wt f (l.drop k) a top=Wt f (l.drop (k+1)) { a with word:=a.word++[s] } top:=by
 rw[Q8 b,Wt,if_pos h0]
theorem Zwv{k:Nat}(c:l[k]? = some s)(h0:¬0<=s)(b:f a (-1-s)=none):Wt f (l.drop k) a top=none:=by
 rw[Q8 c,Wt,if_neg h0,b]
theorem Zxs{k:Nat}{b:WSt}(d:l[k]? = some s)(h0:¬0<=s)(c:f a (-1-s)=some (b,n)):Wt f (l.drop k) a top=Wt f (l.drop (k+1)) b (max top n):=by
 rw[Q8 d,Wt,if_neg h0,c]
end
section
open Go.Maps (Keyed IsMap Tidy)
open Go.Maps (Keyed IsMap Tidy)
variable {P:Program} {Γ:Type} {R:World->World->Prop}
def JG(l:List Oper)(M:Γ->(Nat->Bool)->(Nat->Value)->World->Prop)(F:(Nat->Value)->Act)(D:Nat->Value->World->Prop)(listed:Array Bool)(a:Act)(X:World):Prop :=
 ∃u g,a=F u/\listed.size=l.length/\ClosB l (λi=>listed.getD i false)/\M g (λi=>listed.getD i false) u X/\(∀i,listed.getD i false=true->D i (u i) X)
end
section
open Go.Maps (Keyed IsMap Tidy)
open Go.Maps (Keyed IsMap Tidy)
variable {W0:World} {k:BkH} {h:GH} {G:Gr} {S':Nat->Prop} {w:World} {gR:Nat} {b:Nat->Bool} {u:Nat->Value} {X:World}
theorem Zsj{o:Nat}{v:Value}{b:List Int}(h:(ints .i64 b)[o]? = some v):∃z,v = .int .i64 z:=by
 simp only[ints,List.getElem?_map] at h;cases a:b[o]? with
 | none=>rw[a] at h;cases h
 | some z=>rw[a] at h;injection h with h;exact⟨z,h.symm⟩
end
section
open Go.Shelf
abbrev Alive23:Prop:=∀w:World,Q2 w->Calls Tryz.prog 32 #[] w λe w'=>e = .returned (.bool true)/\Below w.heap.size w w'
end
section
open Go.Shelf
open Go.ChangeShapes Go.WideShapes Go.ChangeAt Go.RowKit
theorem Zyg{w:World}{b:Nat}(h:w.cell? ⟨b,c,none⟩=some v):b<w.heap.size:=by
 rcases BD b w with a | a
 ·exact a
 simp[World.cell?,CX a] at h
end
section
open Go.Shelf
open Go.ChangeShapes Go.WideShapes Go.ChangeAt Go.RowKit
open Go.ChangeShapes Go.WideShapes Go.ChangeAt Go.RowKit
open Go.ChangeShapes Go.WideShapes Go.ChangeAt Go.RowKit Go.Lib Go.Deep
variable {H:Type} {enc:TypeId × Value->H} {w:World} {base:Nat} {sp:Nat->Bool} {held:Bool}
theorem elem3{P:Program}{e:TypeId}{b c d:Field}(v:P.underlying e=some (.struct #[b,c,d]))(C:P.cellsOf e=3)(z:b.offset=0)(A:c.offset=1)(B:d.offset=2)(c0:P.cellsOf b.type=1)(c1:P.cellsOf c.type=1)(c2:P.cellsOf d.type=1)
 {a:Addr} {i n:Nat} {cs:List Value} {y:DataW H × List MemPlace} (h1:w.cells? base (a.add (i*3)) 3=some cs) (u:DataW.trod enc P w base sp held n e cs=some y) :
 ∃f g h l m o k,w.cell? (a.add (i*3))=some f/\w.cell? (a.add (i*3+1))=some g/\w.cell? (a.add (i*3+2))=some h /\
  DataW.trod enc P w base sp held k b.type [f]=some l/\DataW.trod enc P w base sp held k c.type [g]=some m/\DataW.trod enc P w base sp held k d.type [h]=some o:=by
 obtain⟨_,x,j⟩:=World.cells?_some h1;obtain⟨l,m,o,k,_,_,g0,s,t⟩:=trod_struct3 v u
 match cs,x with
 | [f,g,h],_ =>
   have p:=j 0 (by omega);have q:=j 1 (by omega);have r:=j 2 (by omega);rw[Addr.add_add] at p q r;simp[z,A,B,c0,c1,c2] at g0 s t;exact⟨f,g,h,l,m,o,k,by simpa using p,by simpa using q,by simpa using r,g0,s,t⟩
end
section
open Go.Shelf
open Go.ChangeShapes Go.WideShapes Go.ChangeAt Go.RowKit
open Go.ChangeShapes Go.WideShapes Go.ChangeAt Go.RowKit
open Go.ChangeShapes Go.WideShapes Go.ChangeAt Go.RowKit Go.Lib Go.Deep
open Go.ChangeShapes Go.WideShapes Go.ChangeAt Go.RowKit Go.Lib Go.Deep
theorem Kv{G:Gr}(h:G.great=false):G.terms.length<=40/\G.nons.length<=40/\G.rules.length<=60/\∀r∈G.rules,r.right.length<=20:=by
 unfold Gr.great at h;simp at h;obtain⟨⟨⟨h1,a⟩,b⟩,c⟩:=h;exact⟨h1,a,b,c⟩
end
end Go.Proofs.YtggbjdmpjidhgaaGreatDoor
