/- reading, plainly: the rules of a text, as they are written; the grammar that they make. -/
import Derived.Test.YtggbjdmpjidhgaaGreatDoorVQQuiet2
set_option linter.unusedVariables false
set_option linter.unusedSimpArgs false
set_option maxHeartbeats 8000000
set_option maxRecDepth 100000
namespace Go.Proofs.YtggbjdmpjidhgaaGreatDoor
open Go.RowKit
abbrev Tk:=Int × ByteArray
structure Prd where
 left:ByteArray
 right:List ByteArray
 prec:ByteArray
def isSym (k:Int):Bool:=decide (k=1) || decide (k=2)
def headK:List Tk→Int
 | []=>0
 | t::_=>t.1
def spanS:List Tk→List ByteArray × List Tk
 | []=>([],[])
 | t::ts=>if isSym t.1 then (t.2::(spanS ts).1,(spanS ts).2) else ([],t::ts)
theorem spanS_yes {t:Tk} {ts:List Tk} (h:isSym t.1=true):spanS (t::ts)=(t.2::(spanS ts).1,(spanS ts).2):=by
 show (if isSym t.1 then _ else _)=_
 rw [if_pos h]
theorem spanS_no {ts:List Tk} (h:isSym (headK ts)=false):spanS ts=([],ts):=by
 cases ts with
 | nil=>rfl
 | cons t ts =>
   show (if isSym t.1 then _ else _)=_
   rw [if_neg (by simpa [headK] using h)]
theorem spanS_len (ts:List Tk):(spanS ts).2.length≤ts.length∧(spanS ts).1.length+(spanS ts).2.length=ts.length:=by
 induction ts with
 | nil=>exact ⟨Nat.le_refl _,rfl⟩
 | cons t ts a =>
   by_cases h:isSym t.1=true
   · rw [spanS_yes h];simp only [List.length_cons];omega
   · rw [spanS_no (by simpa [headK] using h)];simp
def precP (ts:List Tk):Option (ByteArray × List Tk) :=
 if headK ts=8 then (match ts with
  | _::t::r=>if isSym t.1 then some (t.2,r) else none
  | _=>none) else some (⟨#[]⟩,ts)
def altsP (left:ByteArray):Nat→List Tk→Option (List Prd × List Tk)
 | 0,_=>none
 | q+1,ts =>
   match precP (spanS ts).2 with
   | none=>none
   | some (pr,us) =>
     if headK us=11 then (altsP left q us.tail).map fun r=>(⟨left,(spanS ts).1,pr⟩::r.1,r.2)
     else if headK us=12 then some ([⟨left,(spanS ts).1,pr⟩],us.tail) else none
def groupP (q:Nat):List Tk→Option (List Prd × List Tk)
 | a::b::rest=>if a.1=1∧b.1=10 then altsP a.2 q rest else none
 | _=>none
def groupsP:Nat→List Tk→Option (List Prd)
 | 0,_=>none
 | q+1,ts =>
   match ts with
   | []=>some []
   | t::_=>if t.1=9 then none else
     match groupP q ts with
     | none=>none
     | some (ps,rest)=>(groupsP q rest).map (ps++·)
def srcP (q:Nat):List Tk→Option (List Prd)
 | m::rest=>if m.1=9 then (match groupP q rest with
   | none=>none
   | some (ps,r)=>(groupsP q r).map (ps++·)) else none
 | []=>none
def leftsP:List ByteArray→List Prd→Option (List ByteArray)
 | ns,[]=>some ns
 | ns,p::ps =>
   if !nameB (bytesOf p.left) then none
   else if 0≤findI (fun t=>decide (t=p.left)) ns then leftsP ns ps
   else if ns.length=16 then none
   else leftsP (ns++[p.left]) ps
def errS:ByteArray:=⟨#[101,114,114,111,114]⟩
def termP (G:Gr) (s:ByteArray):Option (Int × Gr) :=
 if 0≤G.term s then some (G.term s,G)
 else if G.terms.length=24 then none
 else some ((G.terms.length:Int),{ G with terms:=G.terms++[⟨s,0,0⟩] })
def symbolP (a:Bool) (G:Gr) (s:ByteArray):Option (Int × Gr) :=
 if 0≤G.non s then (if a then some (-1 - G.non s,G) else none)
 else if decide (0≤G.term s) || litB (bytesOf s) || decide (s=errS) then termP G s
 else none
def rightsP:Gr→List ByteArray→List Int→Int→Option (Gr × List Int × Int)
 | G,[],acc,pr=>some (G,acc,pr)
 | G,s::ss,acc,pr =>
   if !namedB s then none
   else if acc.length=6 then none
   else match symbolP true G s with
    | none=>none
    | some (x,G')=>rightsP G' ss (acc++[x]) (if 0≤x then x else pr)
def prodP (G:Gr) (p:Prd):Option Gr :=
 if G.rules.length=40 then none
 else match rightsP G p.right [] (-1) with
  | none=>none
  | some (G1,l,pr) =>
    if p.prec=⟨#[]⟩ then some { G1 with rules:=G1.rules++[⟨G.non p.left,l,pr⟩] }
    else if !namedB p.prec then none
    else match symbolP false G1 p.prec with
     | none=>none
     | some (x,G2)=>some { G2 with rules:=G2.rules++[⟨G.non p.left,l,x⟩] }
def prodsP:Gr→List Prd→Option Gr
 | G,[]=>some G
 | G,p::ps=>match prodP G p with
   | none=>none
   | some a=>prodsP a ps
def buildP (ps:List Prd):Option Gr :=
 match ps with
 | []=>none
 | _=>match leftsP [] ps with
   | none=>none
   | some a=>prodsP ⟨[],a,[],0⟩ ps
def tkOf (t:TokP):Tk:=(t.kind,str t.text)
theorem stride_old {cs c:List Value} {n m j i:Nat} (b:cs.length=n * m) (a:j < n) (hi:i < m):(cs++c)[j * m+i]? = cs[j * m+i]? := by
 have:j * m+i < cs.length:=by
  rw [b]
  calc j * m+i < j * m+m:=by omega
   _=(j+1) * m:=by rw [Nat.succ_mul]
   _≤n * m:=Nat.mul_le_mul_right _ a
 rw [List.getElem?_append_left this]
theorem stride_new {cs a:List Value} {n m i:Nat} (b:cs.length=n * m):(cs++a)[n * m+i]? = a[i]? := by
 rw [List.getElem?_append_right (by omega)]
 congr 1
 omega
def TokCs (cs:List Value) (ts:List Tk):Prop:=cs.length=ts.length * 3∧∀ (j:Nat) (t:Tk),ts[j]? = some t→cs[j * 3+0]? = some (.int .i64 t.1)∧cs[j * 3+1]? = some (.string t.2)∧∃ x y,cs[j * 3+2]? = some (.complex .f64 x y)
theorem TokCs.nil:TokCs [] []:=⟨rfl,fun j t h=>by simp at h⟩
theorem snoc_cases {α:Type} {l:List α} {x y:α} {j:Nat} (h:(l++[x])[j]? = some y):(j < l.length∧l[j]? = some y)∨(j=l.length∧x=y):=by
 rcases Nat.lt_or_ge j l.length with b | c
 · exact .inl ⟨b,by rwa [List.getElem?_append_left b] at h⟩
 · rw [List.getElem?_append_right c] at h
   have d:j < (l++[x]).length:=by
    rcases Nat.lt_or_ge j (l++[x]).length with a | a
    · exact a
    · simp only [List.length_append,List.length_singleton] at a
      rw [List.getElem?_eq_none (by simp;omega)] at h;cases h
   simp at d
   obtain rfl:j=l.length:=by omega
   simp at h
   exact .inr ⟨rfl,h⟩
theorem TokCs.snoc {cs:List Value} {ts:List Tk} (h:TokCs cs ts) (t:Tk) (x y:Nat):TokCs (cs++[.int .i64 t.1, .string t.2, .complex .f64 x y]) (ts++[t]):=by
 refine ⟨by simp [h.1];omega,fun j u b=>?_⟩
 rcases snoc_cases b with ⟨a,b⟩ | ⟨rfl,rfl⟩
 · obtain ⟨c,d,g,k,f⟩:=h.2 j u b
   exact ⟨by rw [stride_old h.1 a (by omega)];exact c,by rw [stride_old h.1 a (by omega)];exact d,g,k,by rw [stride_old h.1 a (by omega)];exact f⟩
 · exact ⟨by rw [stride_new h.1];rfl,by rw [stride_new h.1];rfl,x,y,by rw [stride_new h.1];rfl⟩
def Toks (w:World) (B:Nat) (A:Option Addr) (n c:Nat) (ts:List Tk):Prop :=
 ts.length=n∧n≤c∧c≤9223372036854775807∧(0 < n→∃ b a,A=some ⟨b,a,none⟩∧b < B∧b < w.heap.size∧∀ (j:Nat) (t:Tk),ts[j]? = some t →
  w.cell? ⟨b,a+j * 3,none⟩=some (.int .i64 t.1)∧w.cell? ⟨b,a+j * 3+1,none⟩=some (.string t.2)∧∃ x y,w.cell? ⟨b,a+j * 3+2,none⟩=some (.complex .f64 x y))
theorem Toks.keep {w w':World} {B n c:Nat} {A:Option Addr} {ts:List Tk} (h:Toks w B A n c ts) (q:w.heap.size≤w'.heap.size) (g:∀ k,k < B→k < w.heap.size→w'.heap[k]? = w.heap[k]?):Toks w' B A n c ts:=by
 refine ⟨h.1,h.2.1,h.2.2.1,fun o=>?_⟩
 obtain ⟨b,f,e,d,l,m⟩:=h.2.2.2 o
 refine ⟨b,f,e,d,by omega,fun j t p=>?_⟩
 rw [World.cell?_of_block (a:=⟨b,f+j * 3,none⟩) (g b d l),World.cell?_of_block (a:=⟨b,f+j * 3+1,none⟩) (g b d l),World.cell?_of_block (a:=⟨b,f+j * 3+2,none⟩) (g b d l)]
 exact m j t p
theorem Toks.below {w w':World} {B n c:Nat} {A:Option Addr} {ts:List Tk} (h:Toks w B A n c ts) (a:Below w.heap.size w w'):Toks w' B A n c ts:=h.keep a.size fun k _ b=>a.block k b
theorem Toks.grown {w w':World} {B n c p:Nat} {A:Option Addr} {ts:List Tk} (h:Toks w B A n c ts) (b:w.grownBy w' (some p)) (g:B≤p):Toks w' B A n c ts :=
 h.keep b.size fun k f d=>b.block k d (by intro a;injection a with a;omega)
theorem Toks.wide {w:World} {B a n c:Nat} {A:Option Addr} {ts:List Tk} (h:Toks w B A n c ts) (l:w.heap.size≤a):Toks w a A n c ts:=by
 refine ⟨h.1,h.2.1,h.2.2.1,fun g=>?_⟩
 obtain ⟨b,j,e,k,f,d⟩:=h.2.2.2 g
 exact ⟨b,j,e,by omega,f,d⟩
theorem Toks.head {w:World} {B n c:Nat} {A:Option Addr} {t:Tk} {ts:List Tk} (h:Toks w B A n c (t::ts)) :
 ∃ b a x y,A=some ⟨b,a,none⟩∧b < B∧b < w.heap.size∧w.cell? ⟨b,a,none⟩=some (.int .i64 t.1)∧w.cell? ⟨b,a+1,none⟩=some (.string t.2)∧w.cell? ⟨b,a+2,none⟩=some (.complex .f64 x y):=by
 have l:=h.1
 simp only [List.length_cons] at l
 obtain ⟨b,a,e,j,m,k⟩:=h.2.2.2 (by omega)
 obtain ⟨d,f,x,y,g⟩:=k 0 t rfl
 simp only [Nat.zero_mul,Nat.add_zero] at d f g
 exact ⟨b,a,x,y,e,j,m,d,f,g⟩
theorem Toks.tail {w:World} {B n c b a:Nat} {t:Tk} {ts:List Tk} (h:Toks w B (some ⟨b,a,none⟩) n c (t::ts)) :
 Toks w B (if c=1 then some ⟨b,a,none⟩ else some ⟨b,a+3,none⟩) (n - 1) (c - 1) ts:=by
 have g:=h.1
 have o:=h.2.1
 have p:=h.2.2.1
 simp only [List.length_cons] at g
 refine ⟨by omega,by omega,by omega,fun q=>?_⟩
 obtain ⟨m,r,e,d,k,f⟩:=h.2.2.2 (by omega)
 injection e with e
 injection e with e1 e2
 subst e1;subst e2
 refine ⟨b,a+3,by rw [if_neg (by omega)],d,k,fun j u l=>?_⟩
 have:=f (j+1) u (by simpa using l)
 rw [show a+(j+1) * 3=a+3+j * 3 by omega] at this
 exact this
theorem own_toks {w:World} {base e n c:Nat} {A:Option Addr} {cs:List Value} {ts:List Tk} (h:w.ownsRow base e 3 (.slice A n c) n cs) (m:TokCs cs ts):Toks w w.heap.size A n c ts:=by
 have k:ts.length=n:=by have:=h.1;have:=m.1;omega
 rcases h.2 with ⟨l,rfl⟩ | ⟨g,cap,u,l,v,o,s,q,z,D⟩
 · injection l with a f h3
   subst a;subst h3
   exact ⟨k,Nat.le_refl _,by omega,fun d=>absurd d (by omega)⟩
 · injection l with a f h3
   subst a;subst h3
   have b:g < w.heap.size:=by
    rcases Nat.lt_or_ge g w.heap.size with b | r
    · exact b
    · rw [Array.getElem?_eq_none r] at o;cases o
   refine ⟨k,s,by simpa [maxLen] using q,fun C=>⟨g,0,rfl,b,b,fun j t p=>?_⟩⟩
   have B:j < n:=by rw [← k];exact (List.getElem?_eq_some_iff.1 p).1
   obtain ⟨d,a,x,y,f⟩:=m.2 j t p
   refine ⟨?_,?_,x,y,?_⟩
   · rw [Nat.zero_add,h.cellAt (j * 3) (by omega)];exact d
   · rw [Nat.zero_add,h.cellAt (j * 3+1) (by omega)];exact a
   · rw [Nat.zero_add,h.cellAt (j * 3+2) (by omega)];exact f
def RdAt (w:World) (p:Nat) (ts:List Tk):Prop :=
 ts.length≤4000∧∃ A c x y a b,Blk w p 236 #[.slice A ts.length c, .complex .f64 x y, .complex .f64 a b, .int .i64 0]∧Toks w p A ts.length c ts
def RefCs (cs:List Value) (ss:List ByteArray):Prop:=cs.length=ss.length * 2∧∀ (j:Nat) (s:ByteArray),ss[j]? = some s→cs[j * 2+0]? = some (.string s)∧∃ x y,cs[j * 2+1]? = some (.complex .f64 x y)
theorem RefCs.nil:RefCs [] []:=⟨rfl,fun j t h=>by simp at h⟩
theorem RefCs.snoc {cs:List Value} {ss:List ByteArray} (h:RefCs cs ss) (s:ByteArray) (x y:Nat):RefCs (cs++[.string s, .complex .f64 x y]) (ss++[s]):=by
 refine ⟨by simp [h.1];omega,fun j u a=>?_⟩
 rcases snoc_cases a with ⟨b,a⟩ | ⟨rfl,rfl⟩
 · obtain ⟨c,f,g,d⟩:=h.2 j u a
   exact ⟨by rw [stride_old h.1 b (by omega)];exact c,f,g,by rw [stride_old h.1 b (by omega)];exact d⟩
 · exact ⟨by rw [stride_new h.1];rfl,x,y,by rw [stride_new h.1];rfl⟩
def Rfs (w:World) (A:Option Addr) (n c:Nat) (ss:List ByteArray):Prop :=
 ss.length=n∧n≤c∧c≤9223372036854775807∧(0 < n→∃ b a,A=some ⟨b,a,none⟩∧b < w.heap.size∧∀ (j:Nat) (s:ByteArray),ss[j]? = some s →
  w.cell? ⟨b,a+j * 2,none⟩=some (.string s)∧∃ x y,w.cell? ⟨b,a+j * 2+1,none⟩=some (.complex .f64 x y))
theorem Rfs.keep {w w':World} {n c:Nat} {A:Option Addr} {ss:List ByteArray} (h:Rfs w A n c ss) (o:w.heap.size≤w'.heap.size) (f:∀ b d,A=some ⟨b,d,none⟩→b < w.heap.size→w'.heap[b]? = w.heap[b]?):Rfs w' A n c ss:=by
 refine ⟨h.1,h.2.1,h.2.2.1,fun l=>?_⟩
 obtain ⟨b,d,e,g,k⟩:=h.2.2.2 l
 refine ⟨b,d,e,by omega,fun j t m=>?_⟩
 rw [World.cell?_of_block (a:=⟨b,d+j * 2,none⟩) (f b d e g),World.cell?_of_block (a:=⟨b,d+j * 2+1,none⟩) (f b d e g)]
 exact k j t m
theorem Rfs.below {w w':World} {n c:Nat} {A:Option Addr} {ss:List ByteArray} (h:Rfs w A n c ss) (a:Below w.heap.size w w'):Rfs w' A n c ss:=h.keep a.size fun b _ _ d=>a.block b d
theorem Rfs.get {w:World} {n c:Nat} {A:Option Addr} {ss:List ByteArray} (h:Rfs w A n c ss) {j:Nat} (m:j < n) :
 ∃ b a s x y,A=some ⟨b,a,none⟩∧b < w.heap.size∧Hid (ss[j]? = some s)∧w.cell? ⟨b,a+j * 2,none⟩=some (.string s)∧w.cell? ⟨b,a+j * 2+1,none⟩=some (.complex .f64 x y):=by
 obtain ⟨b,a,e,l,k⟩:=h.2.2.2 (by omega)
 have o:=h.1
 have d:ss[j]? = some (ss[j]'(by omega)):=List.getElem?_eq_getElem (by omega)
 obtain ⟨f,x,y,g⟩:=k j _ d
 exact ⟨b,a,_,x,y,e,l,LH d,f,g⟩
theorem own_rfs {w:World} {base e n c:Nat} {A:Option Addr} {cs:List Value} {ss:List ByteArray} (h:w.ownsRow base e 2 (.slice A n c) n cs) (l:RefCs cs ss):Rfs w A n c ss:=by
 have d:ss.length=n:=by have:=h.1;have:=l.1;omega
 rcases h.2 with ⟨k,rfl⟩ | ⟨g,cap,s,k,u,m,r,p,v,C⟩
 · injection k with h1 b h3
   subst h1;subst h3
   exact ⟨d,Nat.le_refl _,by omega,fun a=>absurd a (by omega)⟩
 · injection k with h1 b h3
   subst h1;subst h3
   have f:g < w.heap.size:=by
    rcases Nat.lt_or_ge g w.heap.size with f | q
    · exact f
    · rw [Array.getElem?_eq_none q] at m;cases m
   refine ⟨d,r,by simpa [maxLen] using p,fun B=>⟨g,0,rfl,f,fun j t o=>?_⟩⟩
   have z:j < n:=by rw [← d];exact (List.getElem?_eq_some_iff.1 o).1
   obtain ⟨a,x,y,b⟩:=l.2 j t o
   refine ⟨?_,x,y,?_⟩
   · rw [Nat.zero_add,h.cellAt (j * 2) (by omega)];exact a
   · rw [Nat.zero_add,h.cellAt (j * 2+1) (by omega)];exact b
def PrdCs (w:World) (a:Nat→Prop) (cs:List Value) (ps:List Prd):Prop:=cs.length=ps.length * 5∧∀ (j:Nat) (p:Prd),ps[j]? = some p→∃ Ar cr x y d f,
 cs[j * 5+0]? = some (.string p.left)∧cs[j * 5+1]? = some (.complex .f64 x y)∧cs[j * 5+2]? = some (.slice Ar p.right.length cr)∧cs[j * 5+3]? = some (.string p.prec)∧cs[j * 5+4]? = some (.complex .f64 d f) ∧
 Rfs w Ar p.right.length cr p.right∧∀ b c,Ar=some ⟨b,c,none⟩→b < w.heap.size∧a b
theorem PrdCs.nil (w:World) (a:Nat→Prop):PrdCs w a [] []:=⟨rfl,fun j t h=>by simp at h⟩
theorem PrdCs.keep {w w':World} {d f:Nat→Prop} {cs:List Value} {ps:List Prd} (h:PrdCs w d cs ps) (l:w.heap.size≤w'.heap.size) (g:∀ k,k < w.heap.size→d k→w'.heap[k]? = w.heap[k]? ∧ f k):PrdCs w' f cs ps:=by
 refine ⟨h.1,fun j p u=>?_⟩
 obtain ⟨Ar,cr,x,y,v,z,m,n,o,q,r,s,c⟩:=h.2 j p u
 exact ⟨Ar,cr,x,y,v,z,m,n,o,q,r,s.keep l fun b a e t=>(g b t (c b a e).2).1,fun b a e=>⟨Nat.lt_of_lt_of_le (c b a e).1 l,(g b (c b a e).1 (c b a e).2).2⟩⟩
theorem PrdCs.app {w:World} {c:Nat→Prop} {cs q:List Value} {ps s:List Prd} (h:PrdCs w c cs ps) (r:PrdCs w c q s):PrdCs w c (cs++q) (ps++s):=by
 refine ⟨by rw [List.length_append,List.length_append,h.1,r.1];omega,fun j p b=>?_⟩
 rcases Nat.lt_or_ge j ps.length with a | a
 · rw [List.getElem?_append_left a] at b
   obtain ⟨Ar,cr,x,y,n,o,d,f,g,k,l,m⟩:=h.2 j p b
   exact ⟨Ar,cr,x,y,n,o,by rw [stride_old h.1 a (by omega)];exact d,by rw [stride_old h.1 a (by omega)];exact f,by rw [stride_old h.1 a (by omega)];exact g,by rw [stride_old h.1 a (by omega)];exact k,by rw [stride_old h.1 a (by omega)];exact l,m⟩
 · rw [List.getElem?_append_right a] at b
   obtain ⟨Ar,cr,x,y,n,o,d,f,g,k,l,m⟩:=r.2 _ p b
   have e:∀ i,j * 5+i=ps.length * 5+((j - ps.length) * 5+i):=fun i=>by omega
   exact ⟨Ar,cr,x,y,n,o,by rw [e,stride_new h.1];exact d,by rw [e,stride_new h.1];exact f,by rw [e,stride_new h.1];exact g,by rw [e,stride_new h.1];exact k,by rw [e,stride_new h.1];exact l,m⟩
theorem PrdCs.one {w:World} {c:Nat→Prop} (p:Prd) {Ar:Option Addr} {cr:Nat} (x y f g:Nat) (h:Rfs w Ar p.right.length cr p.right) (k:∀ b l,Ar=some ⟨b,l,none⟩→b < w.heap.size∧c b) :
 PrdCs w c [.string p.left, .complex .f64 x y, .slice Ar p.right.length cr, .string p.prec, .complex .f64 f g] [p]:=by
 refine ⟨rfl,fun j q a=>?_⟩
 have d:j < [p].length:=(List.getElem?_eq_some_iff.1 a).1
 simp at d
 subst d
 simp at a
 subst a
 exact ⟨Ar,cr,x,y,f,g,rfl,rfl,rfl,rfl,rfl,h,k⟩
def Prds (w:World) (A:Option Addr) (n c:Nat) (ps:List Prd):Prop :=
 ps.length=n∧n≤c∧c≤9223372036854775807∧(0 < n→∃ b a,A=some ⟨b,a,none⟩∧b < w.heap.size∧∀ (j:Nat) (p:Prd),ps[j]? = some p→∃ Ar cr x y d f,
  w.cell? ⟨b,a+j * 5,none⟩=some (.string p.left)∧w.cell? ⟨b,a+j * 5+1,none⟩=some (.complex .f64 x y)∧w.cell? ⟨b,a+j * 5+2,none⟩=some (.slice Ar p.right.length cr) ∧
  w.cell? ⟨b,a+j * 5+3,none⟩=some (.string p.prec)∧w.cell? ⟨b,a+j * 5+4,none⟩=some (.complex .f64 d f)∧Rfs w Ar p.right.length cr p.right)
theorem Prds.below {w w':World} {n c:Nat} {A:Option Addr} {ps:List Prd} (h:Prds w A n c ps) (a:Below w.heap.size w w'):Prds w' A n c ps:=by
 refine ⟨h.1,h.2.1,h.2.2.1,fun s=>?_⟩
 obtain ⟨b,f,e,d,r⟩:=h.2.2.2 s
 refine ⟨b,f,e,Nat.lt_of_lt_of_le d a.size,fun j p t=>?_⟩
 rw [a.cell (p:=⟨b,f+j * 5,none⟩) d,a.cell (p:=⟨b,f+j * 5+1,none⟩) d,a.cell (p:=⟨b,f+j * 5+2,none⟩) d,a.cell (p:=⟨b,f+j * 5+3,none⟩) d,a.cell (p:=⟨b,f+j * 5+4,none⟩) d]
 obtain ⟨Ar,cr,x,y,u,v,g,k,l,m,o,q⟩:=r j p t
 exact ⟨Ar,cr,x,y,u,v,g,k,l,m,o,q.below a⟩
theorem Prds.get {w:World} {n c:Nat} {A:Option Addr} {ps:List Prd} (h:Prds w A n c ps) {j:Nat} (u:j < n) :
 ∃ b a p Ar cr x y d f,A=some ⟨b,a,none⟩∧b < w.heap.size∧Hid (ps[j]? = some p)∧w.cell? ⟨b,a+j * 5,none⟩=some (.string p.left)∧w.cell? ⟨b,a+j * 5+1,none⟩=some (.complex .f64 x y)∧w.cell? ⟨b,a+j * 5+2,none⟩=some (.slice Ar p.right.length cr) ∧
 w.cell? ⟨b,a+j * 5+3,none⟩=some (.string p.prec)∧w.cell? ⟨b,a+j * 5+4,none⟩=some (.complex .f64 d f)∧Rfs w Ar p.right.length cr p.right:=by
 obtain ⟨b,a,e,t,s⟩:=h.2.2.2 (by omega)
 have v:=h.1
 have g:ps[j]? = some (ps[j]'(by omega)):=List.getElem?_eq_getElem (by omega)
 obtain ⟨Ar,cr,x,y,d,f,k,l,m,o,q,r⟩:=s j _ g
 exact ⟨b,a,_,Ar,cr,x,y,d,f,e,t,LH g,k,l,m,o,q,r⟩
theorem own_prds {w:World} {base e n c:Nat} {A:Option Addr} {r:Nat→Prop} {cs:List Value} {ps:List Prd} (h:w.ownsRow base e 5 (.slice A n c) n cs) (o:PrdCs w r cs ps):Prds w A n c ps:=by
 have k:ps.length=n:=by have:=h.1;have:=o.1;omega
 rcases h.2 with ⟨m,rfl⟩ | ⟨g,cap,E,m,F,p,B,v,G,J⟩
 · injection m with a f b
   subst a;subst b
   exact ⟨k,Nat.le_refl _,by omega,fun d=>absurd d (by omega)⟩
 · injection m with a f b
   subst a;subst b
   have l:g < w.heap.size:=by
    rcases Nat.lt_or_ge g w.heap.size with l | z
    · exact l
    · rw [Array.getElem?_eq_none z] at p;cases p
   refine ⟨k,B,by simpa [maxLen] using v,fun I=>⟨g,0,rfl,l,fun j t q=>?_⟩⟩
   have H:j < n:=by rw [← k];exact (List.getElem?_eq_some_iff.1 q).1
   obtain ⟨Ar,cr,x,y,C,D,d,a,f,b,s,u,_⟩:=o.2 j t q
   refine ⟨Ar,cr,x,y,C,D,?_,?_,?_,?_,?_,u⟩
   · rw [Nat.zero_add,h.cellAt (j * 5) (by omega)];exact d
   · rw [Nat.zero_add,h.cellAt (j * 5+1) (by omega)];exact a
   · rw [Nat.zero_add,h.cellAt (j * 5+2) (by omega)];exact f
   · rw [Nat.zero_add,h.cellAt (j * 5+3) (by omega)];exact b
   · rw [Nat.zero_add,h.cellAt (j * 5+4) (by omega)];exact s
theorem own_keep {w w':World} {base e size n c:Nat} {A:Option Addr} {xs:List Value} (h:w.ownsRow base e size (.slice A n c) n xs) (m:∀ b,(Value.slice A n c).ownBlock=some b→b < w.heap.size→w'.heap[b]? = w.heap[b]?):w'.ownsRow base e size (.slice A n c) n xs:=by
 refine ⟨h.1,?_⟩
 rcases h.2 with o | ⟨g,cap,j,f,k,a,rest⟩
 · exact .inl o
 · refine .inr ⟨g,cap,j,f,k,?_,rest⟩
   have d:g < w.heap.size:=by
    rcases Nat.lt_or_ge g w.heap.size with d | l
    · exact d
    · rw [Array.getElem?_eq_none l] at a;cases a
   rw [m g (by rw [f];rfl) d];exact a
section
variable {P:Program} {w:World}
theorem wpl_appendM {ops:Array Oper} {rest:List Oper} {o:Oper} {a:Act} {Q:Exit→Act→World→Prop} (H:o.guard=none) (s x:Operand) (t:TypeId)
 (L:o.op = .call { callee := .builtin .append,args:=#[s,x],argTypes:=#[t,t] })
 (base:Nat) (e:TypeId) (z:Value) (size bytes:Nat) (T:P.underlying t=some (.slice e))
 (hi:(P.info? e).map (fun i=>(i.zero,i.size,i.bytes))=some (some z,size,bytes)) (W:z.cells.size=size) (S:0 < size)
 (A:Option Addr) (n c:Nat) (xs:List Value) (O:a.eval s = .slice A n c) (M:w.ownsRow base e size (.slice A n c) n xs)
 (p:Addr) (m c2:Nat) (k:List Value) (J:k.length=m * size) (U:a.eval x = .slice (some p) m c2) (G:∀ j u,k[j]? = some u→w.cell? (p.add j)=some u) (r:∀ u ∈ k,u.oneCell'=true)
 (B:n+m≤9223372036854775807) (F:(n+m) * bytes≤140737488355328) (D:base≤w.heap.size)
 (h:∀ d f w',w'.ownsRow base e size (.slice d (n+m) f) (n+m) (xs++k)→w.grownBy w' (Value.slice A n c).ownBlock→(∀ b,(Value.slice d (n+m) f).ownBlock=some b→b < w.heap.size→(Value.slice A n c).ownBlock=some b) →
   wpList P ops Q rest (a.put o.dst (.slice d (n+m) f)) w'):wpList P ops Q (o::rest) a w:=by
 obtain ⟨i,I,V,R,E⟩:=info_parts hi
 obtain ⟨Y,w',N,q,v,_,g⟩:=run_append_own_at (P:=P) w base t o.type e i z size bytes T I V R E W S _ n xs M p m c2 k J G r (by simpa [maxLen] using B) F D
 obtain ⟨d,f,rfl⟩:=own_formS q
 have y:∀ b,(Value.slice d (n+m) f).ownBlock=some b→b < w.heap.size→(Value.slice A n c).ownBlock=some b:=by
  intro b l X
  rcases g with g | g
  · rw [← g];exact l
  · rw [g] at l;injection l with l;omega
 refine wpList_plain H fun K C=>?_
 unfold Oper.wp execOp
 simp only [L,resolve,invoke,builtin,Sem.run_bind,Sem.run_pure,Result.andThen_ok,List.map_toArray,List.map_cons,List.map_nil,O,U,N]
 exact C _ _ (h d f w' q v y)
theorem wpl_appendT {ops:Array Oper} {rest:List Oper} {o:Oper} {a:Act} {Q:Exit→Act→World→Prop} (H:o.guard=none) (s x:Operand) (t:TypeId)
 (J:o.op = .call { callee := .builtin .append,args:=#[s,x],argTypes:=#[t,t] })
 (base:Nat) (e:TypeId) (z:Value) (size bytes:Nat) (O:P.underlying t=some (.slice e))
 (hi:(P.info? e).map (fun i=>(i.zero,i.size,i.bytes))=some (some z,size,bytes)) (T:z.cells.size=size) (N:0 < size)
 (A:Option Addr) (n c:Nat) (xs:List Value) (M:a.eval s = .slice A n c) (L:w.ownsRow base e size (.slice A n c) n xs)
 (d:List Value) (I:d.length=size) (S:a.eval x = .slice (some ⟨w.heap.size,0,none⟩) 1 1) (y:∀ u ∈ d,u.oneCell'=true)
 (D:n+1≤9223372036854775807) (F:(n+1) * bytes≤140737488355328) (U:base≤w.heap.size)
 (h:∀ g l w',w'.ownsRow base e size (.slice g (n+1) l) (n+1) (xs++d)→w.grownBy w' (Value.slice A n c).ownBlock→(∀ b,(Value.slice g (n+1) l).ownBlock=some b→b < w.heap.size→(Value.slice A n c).ownBlock=some b) →
   wpList P ops Q rest (a.put o.dst (.slice g (n+1) l)) w'):wpList P ops Q (o::rest) a (w.alloc (.cells d.toArray e)):=by
 have G:∀ j u,d[j]? = some u→(w.alloc (.cells d.toArray e)).cell? ((⟨w.heap.size,0,none⟩:Addr).add j)=some u:=by
  intro j u R
  have r:(⟨w.heap.size,0,none⟩:Addr).add j=⟨w.heap.size,j,none⟩:=by
   unfold Addr.add
   split
   · rename_i v;subst v;rfl
   · simp
  rw [r,World.cell?_alloc_mark]
  simpa using R
 refine wpl_appendM H s x t J base e z size bytes O hi T N A n c xs M (L.alloc _) _ 1 1 d (by rw [I,Nat.one_mul]) S G y D F (by simp;omega) fun g l w' B m C=>?_
 have f:w.grownBy (w.alloc (.cells d.toArray e)) (Value.slice A n c).ownBlock:=World.grownBy_alloc _ _ _
 exact h g l w' B ⟨m.os.trans f.os,m.tape.trans f.tape,m.output.trans f.output,Nat.le_trans f.size m.size,fun k p q=>(m.block k (Nat.lt_of_lt_of_le p f.size) q).trans (f.block k p q)⟩ fun b E V=>C b E (by simp;omega)
end
def V1 (h:GH):Value := .slice h.a1 h.n1 h.c1
def V2 (h:GH):Value := .slice h.a2 h.n2 h.c2
def V3 (h:GH):Value := .slice h.a3 h.n3 h.c3
def foot (p:Nat) (h:GH) (k:Nat):Prop:=k=p∨(V1 h).ownBlock=some k∨(V2 h).ownBlock=some k∨(V3 h).ownBlock=some k
structure Turn (w w':World) (p:Nat) (h h':GH):Prop where
 os:w'.os=w.os
 tape:w'.tape=w.tape
 output:w'.output=w.output
 size:w.heap.size≤w'.heap.size
 keep:∀ k,k < w.heap.size→¬ foot p h k→w'.heap[k]? = w.heap[k]?
 back:∀ k,k < w.heap.size→foot p h' k→foot p h k
theorem Turn.refl (w:World) (p:Nat) (h:GH):Turn w w p h h:=⟨rfl,rfl,rfl,Nat.le_refl _,fun _ _ _=>rfl,fun _ _ h=>h⟩
theorem Turn.trans {a b c:World} {p:Nat} {h g j:GH} (x:Turn a b p h g) (y:Turn b c p g j):Turn a c p h j :=
 ⟨y.os.trans x.os,y.tape.trans x.tape,y.output.trans x.output,Nat.le_trans x.size y.size,fun k d l=>(y.keep k (Nat.lt_of_lt_of_le d x.size) fun f=>l (x.back k d f)).trans (x.keep k d l),fun k d f=>x.back k d (y.back k (Nat.lt_of_lt_of_le d x.size) f)⟩
theorem Turn.of_below {w w':World} (h:Below w.heap.size w w') (p:Nat) (a:GH):Turn w w' p a a:=⟨h.os,h.tape,h.output,h.size,fun k b _=>h.block k b,fun _ _ h=>h⟩
def trmCs (ts:List Trm):List Value:=ts.flatMap fun t=>[.string t.name, .int .i64 t.level, .int .i64 t.assoc]
theorem trmCs_snoc (ts:List Trm) (t:Trm):trmCs (ts++[t])=trmCs ts++[.string t.name, .int .i64 t.level, .int .i64 t.assoc]:=by simp [trmCs]
theorem trmCs_len (ts:List Trm):(trmCs ts).length=ts.length * 3:=by
 induction ts with
 | nil=>rfl
 | cons t ts a=>rw [show trmCs (t::ts)=[.string t.name, .int .i64 t.level, .int .i64 t.assoc]++trmCs ts from rfl,List.length_append,a];simp;omega
theorem trmCs_at {ts:List Trm} {j:Nat} {t:Trm} (h:ts[j]? = some t):(trmCs ts)[j * 3+0]? = some (.string t.name)∧(trmCs ts)[j * 3+1]? = some (.int .i64 t.level)∧(trmCs ts)[j * 3+2]? = some (.int .i64 t.assoc):=by
 induction ts generalizing j with
 | nil=>simp at h
 | cons u ts d =>
   rw [show trmCs (u::ts)=[.string u.name, .int .i64 u.level, .int .i64 u.assoc]++trmCs ts from rfl]
   cases j with
   | zero=>simp at h;subst h;exact ⟨rfl,rfl,rfl⟩
   | succ j =>
     simp at h
     obtain ⟨a,b,c⟩:=d h
     have e:∀ i,(j+1) * 3+i=1 * 3+(j * 3+i):=fun i=>by omega
     exact ⟨by rw [e,stride_new rfl];exact a,by rw [e,stride_new rfl];exact b,by rw [e,stride_new rfl];exact c⟩
def RulCs (w:World) (c:Nat→Prop) (cs:List Value) (a:List Rul):Prop:=cs.length=a.length * 3∧∀ (j:Nat) (r:Rul),a[j]? = some r→∃ Ar cr,
 cs[j * 3+0]? = some (.int .i64 r.left)∧cs[j * 3+1]? = some (.slice Ar r.right.length cr)∧cs[j * 3+2]? = some (.int .i64 r.prec)∧Ints .i64 w Ar r.right.length cr r.right∧∀ b d,Ar=some ⟨b,d,none⟩→b < w.heap.size∧c b
theorem RulCs.nil (w:World) (a:Nat→Prop):RulCs w a [] []:=⟨rfl,fun j t h=>by simp at h⟩
theorem ints_keep {k:IntKind} {w w':World} {A:Option Addr} {n c:Nat} {f:List Int} (h:Ints k w A n c f) (q:w.heap.size≤w'.heap.size) (o:∀ b d,A=some ⟨b,d,none⟩→b < w.heap.size→w'.heap[b]? = w.heap[b]?):Ints k w' A n c f:=by
 refine ⟨h.1,h.2.1,h.2.2.1,fun p=>?_⟩
 obtain ⟨b,d,e,g,l⟩:=h.2.2.2 p
 refine ⟨b,d,e,by omega,fun j m=>?_⟩
 rw [World.cell?_of_block (a:=⟨b,d+j,none⟩) (o b d e g)]
 exact l j m
theorem RulCs.keep {w w':World} {d f:Nat→Prop} {cs:List Value} {m:List Rul} (h:RulCs w d cs m) (l:w.heap.size≤w'.heap.size) (g:∀ k,k < w.heap.size→d k→w'.heap[k]? = w.heap[k]? ∧ f k):RulCs w' f cs m:=by
 refine ⟨h.1,fun j p t=>?_⟩
 obtain ⟨Ar,cr,n,o,q,r,c⟩:=h.2 j p t
 exact ⟨Ar,cr,n,o,q,ints_keep r l fun b a e s=>(g b s (c b a e).2).1,fun b a e=>⟨Nat.lt_of_lt_of_le (c b a e).1 l,(g b (c b a e).1 (c b a e).2).2⟩⟩
theorem RulCs.snoc {w:World} {a:Nat→Prop} {cs:List Value} {f:List Rul} (h:RulCs w a cs f) (r:Rul) {Ar:Option Addr} {cr:Nat} (q:Ints .i64 w Ar r.right.length cr r.right) (p:∀ b s,Ar=some ⟨b,s,none⟩→b < w.heap.size∧a b) :
 RulCs w a (cs++[.int .i64 r.left, .slice Ar r.right.length cr, .int .i64 r.prec]) (f++[r]):=by
 refine ⟨by simp [h.1];omega,fun j u d=>?_⟩
 rcases snoc_cases d with ⟨c,d⟩ | ⟨rfl,rfl⟩
 · obtain ⟨g,k,l,m,n,o⟩:=h.2 j u d
   exact ⟨g,k,by rw [stride_old h.1 c (by omega)];exact l,by rw [stride_old h.1 c (by omega)];exact m,by rw [stride_old h.1 c (by omega)];exact n,o⟩
 · exact ⟨Ar,cr,by rw [stride_new h.1];rfl,by rw [stride_new h.1];rfl,by rw [stride_new h.1];rfl,q,p⟩
def ApartV (u v:Value):Prop:=∀ b,u.ownBlock=some b→v.ownBlock=some b→False
def wkCells (h:GH):Array Value:=#[V1 h,V2 h,V3 h, .int .i64 0, .slice none 0 0, .string ⟨#[]⟩, .complex .f64 0 0, .bool false, .int .i64 0, .complex .f64 0 0, .int .i64 0]
structure Wk (w:World) (p B:Nat) (h:GH) (G:Gr):Prop where
 blk:Blk w p 193 (wkCells h)
 r1:w.ownsRow (p+1) 91 3 (V1 h) h.n1 (trmCs G.terms)
 r2:w.ownsRow (p+1) 9 1 (V2 h) h.n2 (G.nons.map Value.string)
 r3:∃ cs,w.ownsRow (p+1) 52 3 (V3 h) h.n3 cs∧RulCs w (fun k=>¬ foot p h k∧k < B∧p < k) cs G.rules
 d12:ApartV (V1 h) (V2 h)
 d13:ApartV (V1 h) (V3 h)
 d23:ApartV (V2 h) (V3 h)
 st:G.start=0
 wf:∀ r ∈ G.rules,∀ s ∈ r.right,InI64 s
 b1:h.n1≤24
 b2:h.n2≤16
 b3:h.n3≤40
theorem own_trms {w:World} {base e n c:Nat} {A:Option Addr} {ts:List Trm} (h:w.ownsRow base e 3 (.slice A n c) n (trmCs ts)):Trms w A n c ts:=by
 have f:ts.length=n:=by have:=h.1;rw [trmCs_len] at this;omega
 rcases h.2 with ⟨l,rfl⟩ | ⟨g,cap,s,l,u,m,r,p,v,z⟩
 · injection l with a d h3
   subst a;subst h3
   exact ⟨f,Nat.le_refl _,by omega,fun b=>absurd b (by omega)⟩
 · injection l with a d h3
   subst a;subst h3
   have k:g < w.heap.size:=by
    rcases Nat.lt_or_ge g w.heap.size with k | q
    · exact k
    · rw [Array.getElem?_eq_none q] at m;cases m
   refine ⟨f,r,by simpa [maxLen] using p,fun y=>⟨g,0,rfl,k,fun j t o=>?_⟩⟩
   have x:j < n:=by rw [← f];exact (List.getElem?_eq_some_iff.1 o).1
   obtain ⟨b,a,d⟩:=trmCs_at o
   refine ⟨?_,?_,?_⟩
   · rw [Nat.zero_add,h.cellAt (j * 3) (by omega)];exact b
   · rw [Nat.zero_add,h.cellAt (j * 3+1) (by omega)];exact a
   · rw [Nat.zero_add,h.cellAt (j * 3+2) (by omega)];exact d
theorem own_ruls {w:World} {base e n c:Nat} {A:Option Addr} {s:Nat→Prop} {cs:List Value} {o:List Rul} (h:w.ownsRow base e 3 (.slice A n c) n cs) (p:RulCs w s cs o):Ruls w A n c o:=by
 have k:o.length=n:=by have:=h.1;have:=p.1;omega
 rcases h.2 with ⟨m,rfl⟩ | ⟨g,cap,y,m,z,q,x,u,B,E⟩
 · injection m with a f b
   subst a;subst b
   exact ⟨k,Nat.le_refl _,by omega,fun d=>absurd d (by omega)⟩
 · injection m with a f b
   subst a;subst b
   have l:g < w.heap.size:=by
    rcases Nat.lt_or_ge g w.heap.size with l | v
    · exact l
    · rw [Array.getElem?_eq_none v] at q;cases q
   refine ⟨k,x,by simpa [maxLen] using u,fun D=>⟨g,0,rfl,l,fun j t r=>?_⟩⟩
   have C:j < n:=by rw [← k];exact (List.getElem?_eq_some_iff.1 r).1
   obtain ⟨Ar,cr,d,a,f,b,_⟩:=p.2 j t r
   refine ⟨Ar,cr,?_,?_,?_,b⟩
   · rw [Nat.zero_add,h.cellAt (j * 3) (by omega)];exact d
   · rw [Nat.zero_add,h.cellAt (j * 3+1) (by omega)];exact a
   · rw [Nat.zero_add,h.cellAt (j * 3+2) (by omega)];exact f
theorem Wk.grAt {w:World} {p B:Nat} {h:GH} {G:Gr} (k:Wk w p B h G):GrAt w h G:=by
 obtain ⟨cs,a,b⟩:=k.r3
 exact ⟨own_trms k.r1,own_sl k.r2,own_ruls a b,k.wf⟩
theorem Wk.lt {w:World} {p B:Nat} {h:GH} {G:Gr} (k:Wk w p B h G):p < w.heap.size:=k.blk.lt
theorem own_kept {w w':World} {base e size n c:Nat} {A:Option Addr} {xs:List Value} (h:w.ownsRow base e size (.slice A n c) n xs) (d:∀ b,base≤b→(Value.slice A n c).ownBlock=some b→b < w.heap.size→w'.heap[b]? = w.heap[b]?):w'.ownsRow base e size (.slice A n c) n xs :=
 own_keep h fun b a f=>d b (h.lt b a).1 a f
theorem Wk.below {w w':World} {p B:Nat} {h:GH} {G:Gr} (k:Wk w p B h G) (a:Below w.heap.size w w'):Wk w' p B h G:=by
 obtain ⟨cs,d,g⟩:=k.r3
 exact ⟨k.blk.ext a,own_kept k.r1 fun b _ _ c=>a.block b c,own_kept k.r2 fun b _ _ c=>a.block b c,
  ⟨cs,own_kept d fun b _ _ c=>a.block b c,g.keep a.size fun k j f=>⟨a.block k j,f⟩⟩,k.d12,k.d13,k.d23,k.st,k.wf,k.b1,k.b2,k.b3⟩
theorem Turn.below {w w':World} {p B:Nat} {h c:GH} {G:Gr} (t:Turn w w' p h c) (k:Wk w p B h G):Below p w w':=by
 refine ⟨t.os,t.tape,t.output,t.size,fun b f=>t.keep b (Nat.lt_trans f k.lt) ?_⟩
 rintro (a | a | a | a)
 · omega
 · have:=(k.r1.lt b a).1;omega
 · have:=(k.r2.lt b a).1;omega
 · obtain ⟨cs,d,_⟩:=k.r3
   have:=(d.lt b a).1;omega
theorem Wk.put1 {w w1:World} {p B:Nat} {h:GH} {G:Gr} (k:Wk w p B h G) (t:Trm) (l:h.n1 < 24) (c:Option Addr) (d:Nat)
 (D:w1.ownsRow (p+1) 91 3 (.slice c (h.n1+1) d) (h.n1+1) (trmCs G.terms++[.string t.name, .int .i64 t.level, .int .i64 t.assoc]))
 (m:w.grownBy w1 (V1 h).ownBlock) (q:∀ b,(Value.slice c (h.n1+1) d).ownBlock=some b→b < w.heap.size→(V1 h).ownBlock=some b) :
 Wk (w1.setCell ⟨p,0,none⟩ (.slice c (h.n1+1) d)) p B { h with a1:=c,n1:=h.n1+1,c1:=d } { G with terms:=G.terms++[t] } ∧
 Turn w (w1.setCell ⟨p,0,none⟩ (.slice c (h.n1+1) d)) p h { h with a1:=c,n1:=h.n1+1,c1:=d }:=by
 obtain ⟨cs,s,z⟩:=k.r3
 have E:∀ b,(V1 h).ownBlock=some b→b ≠ p:=fun b a=>by have:=(k.r1.lt b a).1;omega
 have u:∀ b,b ≠ p→(w1.setCell ⟨p,0,none⟩ (.slice c (h.n1+1) d)).heap[b]? = w1.heap[b]? := fun b a=>Below.heap_setCell w1 ⟨p,0,none⟩ _ b a
 have v:w.heap.size≤(w1.setCell ⟨p,0,none⟩ (.slice c (h.n1+1) d)).heap.size:=by simpa using m.size
 have r:∀ b,b < w.heap.size→b ≠ p→(V1 h).ownBlock ≠ some b→(w1.setCell ⟨p,0,none⟩ (.slice c (h.n1+1) d)).heap[b]? = w.heap[b]? := fun b a C n =>
  (u b C).trans (m.block b a fun e=>n e.symm)
 have o:Turn w (w1.setCell ⟨p,0,none⟩ (.slice c (h.n1+1) d)) p h { h with a1:=c,n1:=h.n1+1,c1:=d }:=by
  refine ⟨m.os,m.tape,m.output,v,fun b a l=>r b a (fun e=>l (.inl e)) fun e=>l (.inr (.inl e)),?_⟩
  rintro b a (f | f | f | f)
  · exact .inl f
  · exact .inr (.inl (q b f a))
  · exact .inr (.inr (.inl f))
  · exact .inr (.inr (.inr f))
 refine ⟨⟨?_,?_,?_,⟨cs,?_,?_⟩,?_,?_,?_,k.st,k.wf,by show h.n1+1≤24;omega,k.b2,k.b3⟩,o⟩
 · have y:Blk w1 p 193 (wkCells h):=k.blk.grown m fun e=>E p e.symm rfl
   exact Blk.set y 0 (.slice c (h.n1+1) d)
 · rw [trmCs_snoc]
   exact own_kept D fun b a _ _=>u b (by omega)
 · exact own_kept k.r2 fun b a g j=>r b j (by omega) fun e=>k.d12 b e g
 · exact own_kept s fun b a x j=>r b j (by omega) fun e=>k.d13 b e x
 · exact z.keep v fun b a l=>⟨o.keep b a l.1,fun A=>l.1 (o.back b a A),l.2⟩
 · intro b n g
   have j:=(k.r2.lt b g).2
   exact k.d12 b (q b n j) g
 · intro b n g
   have j:=(s.lt b g).2
   exact k.d13 b (q b n j) g
 · exact k.d23
theorem Wk.put2 {w w1:World} {p B:Nat} {h:GH} {G:Gr} (k:Wk w p B h G) (s:ByteArray) (j:h.n2 < 16) (c:Option Addr) (d:Nat)
 (D:w1.ownsRow (p+1) 9 1 (.slice c (h.n2+1) d) (h.n2+1) (G.nons.map Value.string++[.string s]))
 (n:w.grownBy w1 (V2 h).ownBlock) (q:∀ b,(Value.slice c (h.n2+1) d).ownBlock=some b→b < w.heap.size→(V2 h).ownBlock=some b) :
 Wk (w1.setCell ⟨p,1,none⟩ (.slice c (h.n2+1) d)) p B { h with a2:=c,n2:=h.n2+1,c2:=d } { G with nons:=G.nons++[s] } ∧
 Turn w (w1.setCell ⟨p,1,none⟩ (.slice c (h.n2+1) d)) p h { h with a2:=c,n2:=h.n2+1,c2:=d }:=by
 obtain ⟨cs,t,z⟩:=k.r3
 have E:∀ b,(V2 h).ownBlock=some b→b ≠ p:=fun b a=>by have:=(k.r2.lt b a).1;omega
 have u:∀ b,b ≠ p→(w1.setCell ⟨p,1,none⟩ (.slice c (h.n2+1) d)).heap[b]? = w1.heap[b]? := fun b a=>Below.heap_setCell w1 ⟨p,1,none⟩ _ b a
 have v:w.heap.size≤(w1.setCell ⟨p,1,none⟩ (.slice c (h.n2+1) d)).heap.size:=by simpa using n.size
 have r:∀ b,b < w.heap.size→b ≠ p→(V2 h).ownBlock ≠ some b→(w1.setCell ⟨p,1,none⟩ (.slice c (h.n2+1) d)).heap[b]? = w.heap[b]? := fun b a C l =>
  (u b C).trans (n.block b a fun e=>l e.symm)
 have o:Turn w (w1.setCell ⟨p,1,none⟩ (.slice c (h.n2+1) d)) p h { h with a2:=c,n2:=h.n2+1,c2:=d }:=by
  refine ⟨n.os,n.tape,n.output,v,fun b a j=>r b a (fun e=>j (.inl e)) fun e=>j (.inr (.inr (.inl e))),?_⟩
  rintro b a (f | f | f | f)
  · exact .inl f
  · exact .inr (.inl f)
  · exact .inr (.inr (.inl (q b f a)))
  · exact .inr (.inr (.inr f))
 refine ⟨⟨?_,?_,?_,⟨cs,?_,?_⟩,?_,?_,?_,k.st,k.wf,k.b1,by show h.n2+1≤16;omega,k.b3⟩,o⟩
 · have y:Blk w1 p 193 (wkCells h):=k.blk.grown n fun e=>E p e.symm rfl
   exact Blk.set y 1 (.slice c (h.n2+1) d)
 · exact own_kept k.r1 fun b a m g=>r b g (by omega) fun e=>k.d12 b m e
 · show World.ownsRow _ _ _ _ _ _ ((G.nons++[s]).map Value.string)
   rw [List.map_append]
   exact own_kept D fun b a _ _=>u b (by omega)
 · exact own_kept t fun b a x g=>r b g (by omega) fun e=>k.d23 b e x
 · exact z.keep v fun b a j=>⟨o.keep b a j.1,fun A=>j.1 (o.back b a A),j.2⟩
 · intro b l m
   have g:=(k.r1.lt b l).2
   exact k.d12 b l (q b m g)
 · exact k.d13
 · intro b l m
   have g:=(t.lt b m).2
   exact k.d23 b (q b l g) m
theorem Wk.put3 {w w1:World} {p B:Nat} {h:GH} {G:Gr} (k:Wk w p B h G) (t:Nat) (D:B≤t) (r:Rul) (R:∀ s ∈ r.right,InI64 s) (f:h.n3 < 40) (c:Option Addr) (d:Nat) (Ar:Option Addr) (cr:Nat)
 (N:Ints .i64 w Ar r.right.length cr r.right) (O:∀ b S,Ar=some ⟨b,S,none⟩→b < w.heap.size∧¬ foot p h b∧b < t∧p < b)
 (J:∀ cs,w.ownsRow (p+1) 52 3 (V3 h) h.n3 cs→RulCs w (fun k=>¬ foot p h k∧k < B∧p < k) cs G.rules→w1.ownsRow (p+1) 52 3 (.slice c (h.n3+1) d) (h.n3+1) (cs++[.int .i64 r.left, .slice Ar r.right.length cr, .int .i64 r.prec]))
 (n:w.grownBy w1 (V3 h).ownBlock) (v:∀ b,(Value.slice c (h.n3+1) d).ownBlock=some b→b < w.heap.size→(V3 h).ownBlock=some b) :
 Wk (w1.setCell ⟨p,2,none⟩ (.slice c (h.n3+1) d)) p t { h with a3:=c,n3:=h.n3+1,c3:=d } { G with rules:=G.rules++[r] } ∧
 Turn w (w1.setCell ⟨p,2,none⟩ (.slice c (h.n3+1) d)) p h { h with a3:=c,n3:=h.n3+1,c3:=d }:=by
 obtain ⟨cs,y,z⟩:=k.r3
 have L:=J cs y z
 have M:∀ b,(V3 h).ownBlock=some b→b ≠ p:=fun b a=>by have:=(y.lt b a).1;omega
 have A:∀ b,b ≠ p→(w1.setCell ⟨p,2,none⟩ (.slice c (h.n3+1) d)).heap[b]? = w1.heap[b]? := fun b a=>Below.heap_setCell w1 ⟨p,2,none⟩ _ b a
 have C:w.heap.size≤(w1.setCell ⟨p,2,none⟩ (.slice c (h.n3+1) d)).heap.size:=by simpa using n.size
 have x:∀ b,b < w.heap.size→b ≠ p→(V3 h).ownBlock ≠ some b→(w1.setCell ⟨p,2,none⟩ (.slice c (h.n3+1) d)).heap[b]? = w.heap[b]? := fun b a I j =>
  (A b I).trans (n.block b a fun e=>j e.symm)
 have u:Turn w (w1.setCell ⟨p,2,none⟩ (.slice c (h.n3+1) d)) p h { h with a3:=c,n3:=h.n3+1,c3:=d }:=by
  refine ⟨n.os,n.tape,n.output,C,fun b a f=>x b a (fun e=>f (.inl e)) fun e=>f (.inr (.inr (.inr e))),?_⟩
  rintro b a (g | g | g | g)
  · exact .inl g
  · exact .inr (.inl g)
  · exact .inr (.inr (.inl g))
  · exact .inr (.inr (.inr (v b g a)))
 refine ⟨⟨?_,?_,?_,⟨cs++[.int .i64 r.left, .slice Ar r.right.length cr, .int .i64 r.prec],?_,?_⟩,?_,?_,?_,k.st,?_,k.b1,k.b2,by show h.n3+1≤40;omega⟩,u⟩
 · have E:Blk w1 p 193 (wkCells h):=k.blk.grown n fun e=>M p e.symm rfl
   exact Blk.set E 2 (.slice c (h.n3+1) d)
 · exact own_kept k.r1 fun b a l m=>x b m (by omega) fun e=>k.d13 b l e
 · exact own_kept k.r2 fun b a l m=>x b m (by omega) fun e=>k.d23 b l e
 · exact own_kept L fun b a _ _=>A b (by omega)
 · have F:RulCs w (fun k=>¬ foot p h k∧k < t∧p < k) cs G.rules:=z.keep (Nat.le_refl _) fun b _ f=>⟨rfl,f.1,Nat.lt_of_lt_of_le f.2.1 D,f.2.2⟩
   exact (F.snoc r N O).keep C fun b a f=>⟨u.keep b a f.1,fun H=>f.1 (u.back b a H),f.2⟩
 · exact k.d12
 · intro b j l
   have m:=(k.r1.lt b j).2
   exact k.d13 b j (v b l m)
 · intro b j l
   have m:=(k.r2.lt b j).2
   exact k.d23 b j (v b l m)
 · intro q o
   rcases List.mem_append.1 o with o | o
   · exact k.wf q o
   · rw [List.mem_singleton.1 o];exact R
theorem Wk.mono {w:World} {p B c:Nat} {h:GH} {G:Gr} (k:Wk w p B h G) (f:B≤c):Wk w p c h G:=by
 obtain ⟨cs,d,g⟩:=k.r3
 exact ⟨k.blk,k.r1,k.r2,⟨cs,d,g.keep (Nat.le_refl _) fun b _ a=>⟨rfl,a.1,Nat.lt_of_lt_of_le a.2.1 f,a.2.2⟩⟩,k.d12,k.d13,k.d23,k.st,k.wf,k.b1,k.b2,k.b3⟩
theorem Wk.away {w w':World} {p B:Nat} {h:GH} {G:Gr} (k:Wk w p B h G) (m:w.heap.size≤w'.heap.size) (c:∀ b,b < w.heap.size→(foot p h b∨b < B)→w'.heap[b]? = w.heap[b]?):Wk w' p B h G:=by
 obtain ⟨cs,g,l⟩:=k.r3
 exact ⟨(c p k.lt (.inl (.inl rfl))).trans k.blk,own_kept k.r1 fun b _ a d=>c b d (.inl (.inr (.inl a))),own_kept k.r2 fun b _ a d=>c b d (.inl (.inr (.inr (.inl a)))),
  ⟨cs,own_kept g fun b _ a d=>c b d (.inl (.inr (.inr (.inr a)))),l.keep m fun b j f=>⟨c b j (.inr f.2.1),f⟩⟩,k.d12,k.d13,k.d23,k.st,k.wf,k.b1,k.b2,k.b3⟩
theorem Wk.foot_lt {w:World} {p B:Nat} {h:GH} {G:Gr} (k:Wk w p B h G) {b:Nat} (d:foot p h b):b < w.heap.size:=by
 obtain ⟨cs,c,_⟩:=k.r3
 rcases d with a | a | a | a
 · rw [a];exact k.lt
 · exact (k.r1.lt b a).2
 · exact (k.r2.lt b a).2
 · exact (c.lt b a).2
theorem Turn.blk {w w':World} {p:Nat} {h b:GH} {g:Nat} {t:TypeId} {cs:Array Value} (T:Turn w w' p h b) (a:Blk w g t cs) (c:¬ foot p h g):Blk w' g t cs:=(T.keep g a.lt c).trans a
theorem Turn.nf {w w':World} {p:Nat} {h a:GH} {g:Nat} (T:Turn w w' p h a) (b:g < w.heap.size) (d:¬ foot p h g):¬ foot p a g:=fun c=>d (T.back g b c)
theorem Wk.grAt_ahead {w w':World} {p B:Nat} {h:GH} {G:Gr} (k:Wk w p B h G) (l:w.heap.size≤w'.heap.size) (d:∀ b,b < w.heap.size→p < b→w'.heap[b]? = w.heap[b]?):GrAt w' h G:=by
 obtain ⟨cs,g,j⟩:=k.r3
 exact ⟨own_trms (own_kept k.r1 fun b a _ c=>d b c a),own_sl (own_kept k.r2 fun b a _ c=>d b c a),own_ruls (own_kept g fun b a _ c=>d b c a) (j.keep l fun b a f=>⟨d b a f.2.2,f⟩),k.wf⟩
end Go.Proofs.YtggbjdmpjidhgaaGreatDoor
