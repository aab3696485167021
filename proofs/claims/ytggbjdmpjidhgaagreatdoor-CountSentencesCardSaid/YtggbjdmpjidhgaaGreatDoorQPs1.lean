/- reading, plainly: the rules of a text, as they are written; the grammar that they make. -/
import Derived.Test.YtggbjdmpjidhgaaGreatDoorQQuiet2
set_option linter.unusedVariables false
set_option linter.unusedSimpArgs false
set_option maxHeartbeats 8000000
set_option maxRecDepth 100000
namespace Go.Proofs.YtggbjdmpjidhgaaGreatDoor
open Go.RowKit
abbrev Tk:=Int × ByteArray
structure Prd where
 left:ByteArray
 right:List ByteArray
 prec:ByteArray
def isSym (k:Int):Bool:=decide (k=1) || decide (k=2)
def headK:List Tk→Int
 | []=>0
 | t::_=>t.1
def spanS:List Tk→List ByteArray × List Tk
 | []=>([],[])
 | t::ts=>if isSym t.1 then (t.2::(spanS ts).1,(spanS ts).2) else ([],t::ts)
theorem spanS_yes {t:Tk} {ts:List Tk} (h:isSym t.1=true):spanS (t::ts)=(t.2::(spanS ts).1,(spanS ts).2):=by
 show (if isSym t.1 then _ else _)=_
 rw [if_pos h]
theorem spanS_no {ts:List Tk} (h:isSym (headK ts)=false):spanS ts=([],ts):=by
 cases ts with
 | nil=>rfl
 | cons t ts =>
   show (if isSym t.1 then _ else _)=_
   rw [if_neg (by simpa [headK] using h)]
theorem spanS_len (ts:List Tk):(spanS ts).2.length≤ts.length∧(spanS ts).1.length+(spanS ts).2.length=ts.length:=by
 induction ts with
 | nil=>exact ⟨Nat.le_refl _,rfl⟩
 | cons t ts ih =>
   by_cases h:isSym t.1=true
   · rw [spanS_yes h];simp only [List.length_cons];omega
   · rw [spanS_no (by simpa [headK] using h)];simp
def precP (ts:List Tk):Option (ByteArray × List Tk) :=
 if headK ts=8 then (match ts with
  | _::t::r=>if isSym t.1 then some (t.2,r) else none
  | _=>none) else some (⟨#[]⟩,ts)
def altsP (left:ByteArray):Nat→List Tk→Option (List Prd × List Tk)
 | 0,_=>none
 | q+1,ts =>
   match precP (spanS ts).2 with
   | none=>none
   | some (pr,us) =>
     if headK us=11 then (altsP left q us.tail).map fun r=>(⟨left,(spanS ts).1,pr⟩::r.1,r.2)
     else if headK us=12 then some ([⟨left,(spanS ts).1,pr⟩],us.tail) else none
def groupP (q:Nat):List Tk→Option (List Prd × List Tk)
 | a::b::rest=>if a.1=1∧b.1=10 then altsP a.2 q rest else none
 | _=>none
def groupsP:Nat→List Tk→Option (List Prd)
 | 0,_=>none
 | q+1,ts =>
   match ts with
   | []=>some []
   | t::_=>if t.1=9 then none else
     match groupP q ts with
     | none=>none
     | some (ps,rest)=>(groupsP q rest).map (ps++·)
def srcP (q:Nat):List Tk→Option (List Prd)
 | m::rest=>if m.1=9 then (match groupP q rest with
   | none=>none
   | some (ps,r)=>(groupsP q r).map (ps++·)) else none
 | []=>none
def leftsP:List ByteArray→List Prd→Option (List ByteArray)
 | ns,[]=>some ns
 | ns,p::ps =>
   if !nameB (bytesOf p.left) then none
   else if 0≤findI (fun t=>decide (t=p.left)) ns then leftsP ns ps
   else if ns.length=16 then none
   else leftsP (ns++[p.left]) ps
def errS:ByteArray:=⟨#[101,114,114,111,114]⟩
def termP (G:Gr) (s:ByteArray):Option (Int × Gr) :=
 if 0≤G.term s then some (G.term s,G)
 else if G.terms.length=24 then none
 else some ((G.terms.length:Int),{ G with terms:=G.terms++[⟨s,0,0⟩] })
def symbolP (may:Bool) (G:Gr) (s:ByteArray):Option (Int × Gr) :=
 if 0≤G.non s then (if may then some (-1 - G.non s,G) else none)
 else if decide (0≤G.term s) || litB (bytesOf s) || decide (s=errS) then termP G s
 else none
def rightsP:Gr→List ByteArray→List Int→Int→Option (Gr × List Int × Int)
 | G,[],acc,pr=>some (G,acc,pr)
 | G,s::ss,acc,pr =>
   if !namedB s then none
   else if acc.length=6 then none
   else match symbolP true G s with
    | none=>none
    | some (x,G')=>rightsP G' ss (acc++[x]) (if 0≤x then x else pr)
def prodP (G:Gr) (p:Prd):Option Gr :=
 if G.rules.length=40 then none
 else match rightsP G p.right [] (-1) with
  | none=>none
  | some (G1,l,pr) =>
    if p.prec=⟨#[]⟩ then some { G1 with rules:=G1.rules++[⟨G.non p.left,l,pr⟩] }
    else if !namedB p.prec then none
    else match symbolP false G1 p.prec with
     | none=>none
     | some (x,G2)=>some { G2 with rules:=G2.rules++[⟨G.non p.left,l,x⟩] }
def prodsP:Gr→List Prd→Option Gr
 | G,[]=>some G
 | G,p::ps=>match prodP G p with
   | none=>none
   | some G'=>prodsP G' ps
def buildP (ps:List Prd):Option Gr :=
 match ps with
 | []=>none
 | _=>match leftsP [] ps with
   | none=>none
   | some ns=>prodsP ⟨[],ns,[],0⟩ ps
def tkOf (t:TokP):Tk:=(t.kind,str t.text)
theorem stride_old {cs news:List Value} {n m j i:Nat} (hl:cs.length=n * m) (hj:j < n) (hi:i < m):(cs++news)[j * m+i]? = cs[j * m+i]? := by
 have:j * m+i < cs.length:=by
  rw [hl]
  calc j * m+i < j * m+m:=by omega
   _=(j+1) * m:=by rw [Nat.succ_mul]
   _≤n * m:=Nat.mul_le_mul_right _ hj
 rw [List.getElem?_append_left this]
theorem stride_new {cs news:List Value} {n m i:Nat} (hl:cs.length=n * m):(cs++news)[n * m+i]? = news[i]? := by
 rw [List.getElem?_append_right (by omega)]
 congr 1
 omega
def TokCs (cs:List Value) (ts:List Tk):Prop:=cs.length=ts.length * 3∧∀ (j:Nat) (t:Tk),ts[j]? = some t→cs[j * 3+0]? = some (.int .i64 t.1)∧cs[j * 3+1]? = some (.string t.2)∧∃ x y,cs[j * 3+2]? = some (.complex .f64 x y)
theorem TokCs.nil:TokCs [] []:=⟨rfl,fun j t h=>by simp at h⟩
theorem snoc_cases {α:Type} {l:List α} {x y:α} {j:Nat} (h:(l++[x])[j]? = some y):(j < l.length∧l[j]? = some y)∨(j=l.length∧x=y):=by
 rcases Nat.lt_or_ge j l.length with hlt | hge
 · exact .inl ⟨hlt,by rwa [List.getElem?_append_left hlt] at h⟩
 · rw [List.getElem?_append_right hge] at h
   have hj:j < (l++[x]).length:=by
    rcases Nat.lt_or_ge j (l++[x]).length with h' | h'
    · exact h'
    · simp only [List.length_append,List.length_singleton] at h'
      rw [List.getElem?_eq_none (by simp;omega)] at h;cases h
   simp at hj
   obtain rfl:j=l.length:=by omega
   simp at h
   exact .inr ⟨rfl,h⟩
theorem TokCs.snoc {cs:List Value} {ts:List Tk} (h:TokCs cs ts) (t:Tk) (x y:Nat):TokCs (cs++[.int .i64 t.1, .string t.2, .complex .f64 x y]) (ts++[t]):=by
 refine ⟨by simp [h.1];omega,fun j u hu=>?_⟩
 rcases snoc_cases hu with ⟨hj,hu⟩ | ⟨rfl,rfl⟩
 · obtain ⟨h0,h1,x',y',h2⟩:=h.2 j u hu
   exact ⟨by rw [stride_old h.1 hj (by omega)];exact h0,by rw [stride_old h.1 hj (by omega)];exact h1,x',y',by rw [stride_old h.1 hj (by omega)];exact h2⟩
 · exact ⟨by rw [stride_new h.1];rfl,by rw [stride_new h.1];rfl,x,y,by rw [stride_new h.1];rfl⟩
def Toks (w:World) (B:Nat) (A:Option Addr) (n c:Nat) (ts:List Tk):Prop :=
 ts.length=n∧n≤c∧c≤9223372036854775807∧(0 < n→∃ b off,A=some ⟨b,off,none⟩∧b < B∧b < w.heap.size∧∀ (j:Nat) (t:Tk),ts[j]? = some t →
  w.cell? ⟨b,off+j * 3,none⟩=some (.int .i64 t.1)∧w.cell? ⟨b,off+j * 3+1,none⟩=some (.string t.2)∧∃ x y,w.cell? ⟨b,off+j * 3+2,none⟩=some (.complex .f64 x y))
theorem Toks.keep {w w':World} {B n c:Nat} {A:Option Addr} {ts:List Tk} (h:Toks w B A n c ts) (hs:w.heap.size≤w'.heap.size) (hk:∀ k,k < B→k < w.heap.size→w'.heap[k]? = w.heap[k]?):Toks w' B A n c ts:=by
 refine ⟨h.1,h.2.1,h.2.2.1,fun hn=>?_⟩
 obtain ⟨b,off,e,hB,hlt,hc⟩:=h.2.2.2 hn
 refine ⟨b,off,e,hB,by omega,fun j t ht=>?_⟩
 rw [World.cell?_of_block (a:=⟨b,off+j * 3,none⟩) (hk b hB hlt),World.cell?_of_block (a:=⟨b,off+j * 3+1,none⟩) (hk b hB hlt),World.cell?_of_block (a:=⟨b,off+j * 3+2,none⟩) (hk b hB hlt)]
 exact hc j t ht
theorem Toks.below {w w':World} {B n c:Nat} {A:Option Addr} {ts:List Tk} (h:Toks w B A n c ts) (hb:Below w.heap.size w w'):Toks w' B A n c ts:=h.keep hb.size fun k _ hk=>hb.block k hk
theorem Toks.grown {w w':World} {B n c p:Nat} {A:Option Addr} {ts:List Tk} (h:Toks w B A n c ts) (hg:w.grownBy w' (some p)) (hp:B≤p):Toks w' B A n c ts :=
 h.keep hg.size fun k hk hk2=>hg.block k hk2 (by intro h';injection h' with h';omega)
theorem Toks.wide {w:World} {B B' n c:Nat} {A:Option Addr} {ts:List Tk} (h:Toks w B A n c ts) (hb:w.heap.size≤B'):Toks w B' A n c ts:=by
 refine ⟨h.1,h.2.1,h.2.2.1,fun hn=>?_⟩
 obtain ⟨b,off,e,hB,hlt,hc⟩:=h.2.2.2 hn
 exact ⟨b,off,e,by omega,hlt,hc⟩
theorem Toks.head {w:World} {B n c:Nat} {A:Option Addr} {t:Tk} {ts:List Tk} (h:Toks w B A n c (t::ts)) :
 ∃ b off x y,A=some ⟨b,off,none⟩∧b < B∧b < w.heap.size∧w.cell? ⟨b,off,none⟩=some (.int .i64 t.1)∧w.cell? ⟨b,off+1,none⟩=some (.string t.2)∧w.cell? ⟨b,off+2,none⟩=some (.complex .f64 x y):=by
 have hl:=h.1
 simp only [List.length_cons] at hl
 obtain ⟨b,off,e,hB,hlt,hc⟩:=h.2.2.2 (by omega)
 obtain ⟨h0,h1,x,y,h2⟩:=hc 0 t rfl
 simp only [Nat.zero_mul,Nat.add_zero] at h0 h1 h2
 exact ⟨b,off,x,y,e,hB,hlt,h0,h1,h2⟩
theorem Toks.tail {w:World} {B n c b off:Nat} {t:Tk} {ts:List Tk} (h:Toks w B (some ⟨b,off,none⟩) n c (t::ts)) :
 Toks w B (if c=1 then some ⟨b,off,none⟩ else some ⟨b,off+3,none⟩) (n - 1) (c - 1) ts:=by
 have hl:=h.1
 have h2:=h.2.1
 have h3:=h.2.2.1
 simp only [List.length_cons] at hl
 refine ⟨by omega,by omega,by omega,fun hn=>?_⟩
 obtain ⟨b',off',e,hB,hlt,hc⟩:=h.2.2.2 (by omega)
 injection e with e
 injection e with e1 e2
 subst e1;subst e2
 refine ⟨b,off+3,by rw [if_neg (by omega)],hB,hlt,fun j u hu=>?_⟩
 have:=hc (j+1) u (by simpa using hu)
 rw [show off+(j+1) * 3=off+3+j * 3 by omega] at this
 exact this
theorem own_toks {w:World} {base e n c:Nat} {A:Option Addr} {cs:List Value} {ts:List Tk} (h:w.ownsRow base e 3 (.slice A n c) n cs) (hc:TokCs cs ts):Toks w w.heap.size A n c ts:=by
 have hl:ts.length=n:=by have:=h.1;have:=hc.1;omega
 rcases h.2 with ⟨hv,rfl⟩ | ⟨g,cap,cur,hv,hb,hg,hnc,hcm,hcs,htake⟩
 · injection hv with h1 h2 h3
   subst h1;subst h3
   exact ⟨hl,Nat.le_refl _,by omega,fun h0=>absurd h0 (by omega)⟩
 · injection hv with h1 h2 h3
   subst h1;subst h3
   have hlt:g < w.heap.size:=by
    rcases Nat.lt_or_ge g w.heap.size with hlt | hge
    · exact hlt
    · rw [Array.getElem?_eq_none hge] at hg;cases hg
   refine ⟨hl,hnc,by simpa [maxLen] using hcm,fun hn=>⟨g,0,rfl,hlt,hlt,fun j t ht=>?_⟩⟩
   have hj:j < n:=by rw [← hl];exact (List.getElem?_eq_some_iff.1 ht).1
   obtain ⟨h0,h1,x,y,h2⟩:=hc.2 j t ht
   refine ⟨?_,?_,x,y,?_⟩
   · rw [Nat.zero_add,h.cellAt (j * 3) (by omega)];exact h0
   · rw [Nat.zero_add,h.cellAt (j * 3+1) (by omega)];exact h1
   · rw [Nat.zero_add,h.cellAt (j * 3+2) (by omega)];exact h2
def RdAt (w:World) (p:Nat) (ts:List Tk):Prop :=
 ts.length≤4000∧∃ A c x y x' y',Blk w p 236 #[.slice A ts.length c, .complex .f64 x y, .complex .f64 x' y', .int .i64 0]∧Toks w p A ts.length c ts
def RefCs (cs:List Value) (ss:List ByteArray):Prop:=cs.length=ss.length * 2∧∀ (j:Nat) (s:ByteArray),ss[j]? = some s→cs[j * 2+0]? = some (.string s)∧∃ x y,cs[j * 2+1]? = some (.complex .f64 x y)
theorem RefCs.nil:RefCs [] []:=⟨rfl,fun j t h=>by simp at h⟩
theorem RefCs.snoc {cs:List Value} {ss:List ByteArray} (h:RefCs cs ss) (s:ByteArray) (x y:Nat):RefCs (cs++[.string s, .complex .f64 x y]) (ss++[s]):=by
 refine ⟨by simp [h.1];omega,fun j u hu=>?_⟩
 rcases snoc_cases hu with ⟨hj,hu⟩ | ⟨rfl,rfl⟩
 · obtain ⟨h0,x',y',h2⟩:=h.2 j u hu
   exact ⟨by rw [stride_old h.1 hj (by omega)];exact h0,x',y',by rw [stride_old h.1 hj (by omega)];exact h2⟩
 · exact ⟨by rw [stride_new h.1];rfl,x,y,by rw [stride_new h.1];rfl⟩
def Rfs (w:World) (A:Option Addr) (n c:Nat) (ss:List ByteArray):Prop :=
 ss.length=n∧n≤c∧c≤9223372036854775807∧(0 < n→∃ b off,A=some ⟨b,off,none⟩∧b < w.heap.size∧∀ (j:Nat) (s:ByteArray),ss[j]? = some s →
  w.cell? ⟨b,off+j * 2,none⟩=some (.string s)∧∃ x y,w.cell? ⟨b,off+j * 2+1,none⟩=some (.complex .f64 x y))
theorem Rfs.keep {w w':World} {n c:Nat} {A:Option Addr} {ss:List ByteArray} (h:Rfs w A n c ss) (hs:w.heap.size≤w'.heap.size) (hk:∀ b off,A=some ⟨b,off,none⟩→b < w.heap.size→w'.heap[b]? = w.heap[b]?):Rfs w' A n c ss:=by
 refine ⟨h.1,h.2.1,h.2.2.1,fun hn=>?_⟩
 obtain ⟨b,off,e,hlt,hc⟩:=h.2.2.2 hn
 refine ⟨b,off,e,by omega,fun j t ht=>?_⟩
 rw [World.cell?_of_block (a:=⟨b,off+j * 2,none⟩) (hk b off e hlt),World.cell?_of_block (a:=⟨b,off+j * 2+1,none⟩) (hk b off e hlt)]
 exact hc j t ht
theorem Rfs.below {w w':World} {n c:Nat} {A:Option Addr} {ss:List ByteArray} (h:Rfs w A n c ss) (hb:Below w.heap.size w w'):Rfs w' A n c ss:=h.keep hb.size fun b _ _ hk=>hb.block b hk
theorem Rfs.get {w:World} {n c:Nat} {A:Option Addr} {ss:List ByteArray} (h:Rfs w A n c ss) {j:Nat} (hj:j < n) :
 ∃ b off s x y,A=some ⟨b,off,none⟩∧b < w.heap.size∧Hid (ss[j]? = some s)∧w.cell? ⟨b,off+j * 2,none⟩=some (.string s)∧w.cell? ⟨b,off+j * 2+1,none⟩=some (.complex .f64 x y):=by
 obtain ⟨b,off,e,hlt,hc⟩:=h.2.2.2 (by omega)
 have hl:=h.1
 have ht:ss[j]? = some (ss[j]'(by omega)):=List.getElem?_eq_getElem (by omega)
 obtain ⟨h0,x,y,h1⟩:=hc j _ ht
 exact ⟨b,off,_,x,y,e,hlt,LH ht,h0,h1⟩
theorem own_rfs {w:World} {base e n c:Nat} {A:Option Addr} {cs:List Value} {ss:List ByteArray} (h:w.ownsRow base e 2 (.slice A n c) n cs) (hc:RefCs cs ss):Rfs w A n c ss:=by
 have hl:ss.length=n:=by have:=h.1;have:=hc.1;omega
 rcases h.2 with ⟨hv,rfl⟩ | ⟨g,cap,cur,hv,hb,hg,hnc,hcm,hcs,htake⟩
 · injection hv with h1 h2 h3
   subst h1;subst h3
   exact ⟨hl,Nat.le_refl _,by omega,fun h0=>absurd h0 (by omega)⟩
 · injection hv with h1 h2 h3
   subst h1;subst h3
   have hlt:g < w.heap.size:=by
    rcases Nat.lt_or_ge g w.heap.size with hlt | hge
    · exact hlt
    · rw [Array.getElem?_eq_none hge] at hg;cases hg
   refine ⟨hl,hnc,by simpa [maxLen] using hcm,fun hn=>⟨g,0,rfl,hlt,fun j t ht=>?_⟩⟩
   have hj:j < n:=by rw [← hl];exact (List.getElem?_eq_some_iff.1 ht).1
   obtain ⟨h0,x,y,h2⟩:=hc.2 j t ht
   refine ⟨?_,x,y,?_⟩
   · rw [Nat.zero_add,h.cellAt (j * 2) (by omega)];exact h0
   · rw [Nat.zero_add,h.cellAt (j * 2+1) (by omega)];exact h2
def PrdCs (w:World) (av:Nat→Prop) (cs:List Value) (ps:List Prd):Prop:=cs.length=ps.length * 5∧∀ (j:Nat) (p:Prd),ps[j]? = some p→∃ Ar cr x y x' y',
 cs[j * 5+0]? = some (.string p.left)∧cs[j * 5+1]? = some (.complex .f64 x y)∧cs[j * 5+2]? = some (.slice Ar p.right.length cr)∧cs[j * 5+3]? = some (.string p.prec)∧cs[j * 5+4]? = some (.complex .f64 x' y') ∧
 Rfs w Ar p.right.length cr p.right∧∀ b off,Ar=some ⟨b,off,none⟩→b < w.heap.size∧av b
theorem PrdCs.nil (w:World) (av:Nat→Prop):PrdCs w av [] []:=⟨rfl,fun j t h=>by simp at h⟩
theorem PrdCs.keep {w w':World} {av av':Nat→Prop} {cs:List Value} {ps:List Prd} (h:PrdCs w av cs ps) (hs:w.heap.size≤w'.heap.size) (hk:∀ k,k < w.heap.size→av k→w'.heap[k]? = w.heap[k]? ∧ av' k):PrdCs w' av' cs ps:=by
 refine ⟨h.1,fun j p hp=>?_⟩
 obtain ⟨Ar,cr,x,y,x',y',h0,h1,h2,h3,h4,h5,h6⟩:=h.2 j p hp
 exact ⟨Ar,cr,x,y,x',y',h0,h1,h2,h3,h4,h5.keep hs fun b off e hb=>(hk b hb (h6 b off e).2).1,fun b off e=>⟨Nat.lt_of_lt_of_le (h6 b off e).1 hs,(hk b (h6 b off e).1 (h6 b off e).2).2⟩⟩
theorem PrdCs.app {w:World} {av:Nat→Prop} {cs cs':List Value} {ps ps':List Prd} (h:PrdCs w av cs ps) (h':PrdCs w av cs' ps'):PrdCs w av (cs++cs') (ps++ps'):=by
 refine ⟨by rw [List.length_append,List.length_append,h.1,h'.1];omega,fun j p hp=>?_⟩
 rcases Nat.lt_or_ge j ps.length with hj | hj
 · rw [List.getElem?_append_left hj] at hp
   obtain ⟨Ar,cr,x,y,x',y',h0,h1,h2,h3,h4,h5⟩:=h.2 j p hp
   exact ⟨Ar,cr,x,y,x',y',by rw [stride_old h.1 hj (by omega)];exact h0,by rw [stride_old h.1 hj (by omega)];exact h1,by rw [stride_old h.1 hj (by omega)];exact h2,by rw [stride_old h.1 hj (by omega)];exact h3,by rw [stride_old h.1 hj (by omega)];exact h4,h5⟩
 · rw [List.getElem?_append_right hj] at hp
   obtain ⟨Ar,cr,x,y,x',y',h0,h1,h2,h3,h4,h5⟩:=h'.2 _ p hp
   have e:∀ i,j * 5+i=ps.length * 5+((j - ps.length) * 5+i):=fun i=>by omega
   exact ⟨Ar,cr,x,y,x',y',by rw [e,stride_new h.1];exact h0,by rw [e,stride_new h.1];exact h1,by rw [e,stride_new h.1];exact h2,by rw [e,stride_new h.1];exact h3,by rw [e,stride_new h.1];exact h4,h5⟩
theorem PrdCs.one {w:World} {av:Nat→Prop} (p:Prd) {Ar:Option Addr} {cr:Nat} (x y x' y':Nat) (h:Rfs w Ar p.right.length cr p.right) (ha:∀ b off,Ar=some ⟨b,off,none⟩→b < w.heap.size∧av b) :
 PrdCs w av [.string p.left, .complex .f64 x y, .slice Ar p.right.length cr, .string p.prec, .complex .f64 x' y'] [p]:=by
 refine ⟨rfl,fun j q hq=>?_⟩
 have hj:j < [p].length:=(List.getElem?_eq_some_iff.1 hq).1
 simp at hj
 subst hj
 simp at hq
 subst hq
 exact ⟨Ar,cr,x,y,x',y',rfl,rfl,rfl,rfl,rfl,h,ha⟩
def Prds (w:World) (A:Option Addr) (n c:Nat) (ps:List Prd):Prop :=
 ps.length=n∧n≤c∧c≤9223372036854775807∧(0 < n→∃ b off,A=some ⟨b,off,none⟩∧b < w.heap.size∧∀ (j:Nat) (p:Prd),ps[j]? = some p→∃ Ar cr x y x' y',
  w.cell? ⟨b,off+j * 5,none⟩=some (.string p.left)∧w.cell? ⟨b,off+j * 5+1,none⟩=some (.complex .f64 x y)∧w.cell? ⟨b,off+j * 5+2,none⟩=some (.slice Ar p.right.length cr) ∧
  w.cell? ⟨b,off+j * 5+3,none⟩=some (.string p.prec)∧w.cell? ⟨b,off+j * 5+4,none⟩=some (.complex .f64 x' y')∧Rfs w Ar p.right.length cr p.right)
theorem Prds.below {w w':World} {n c:Nat} {A:Option Addr} {ps:List Prd} (h:Prds w A n c ps) (hb:Below w.heap.size w w'):Prds w' A n c ps:=by
 refine ⟨h.1,h.2.1,h.2.2.1,fun hn=>?_⟩
 obtain ⟨b,off,e,hlt,hc⟩:=h.2.2.2 hn
 refine ⟨b,off,e,Nat.lt_of_lt_of_le hlt hb.size,fun j p hp=>?_⟩
 rw [hb.cell (p:=⟨b,off+j * 5,none⟩) hlt,hb.cell (p:=⟨b,off+j * 5+1,none⟩) hlt,hb.cell (p:=⟨b,off+j * 5+2,none⟩) hlt,hb.cell (p:=⟨b,off+j * 5+3,none⟩) hlt,hb.cell (p:=⟨b,off+j * 5+4,none⟩) hlt]
 obtain ⟨Ar,cr,x,y,x',y',h0,h1,h2,h3,h4,h5⟩:=hc j p hp
 exact ⟨Ar,cr,x,y,x',y',h0,h1,h2,h3,h4,h5.below hb⟩
theorem Prds.get {w:World} {n c:Nat} {A:Option Addr} {ps:List Prd} (h:Prds w A n c ps) {j:Nat} (hj:j < n) :
 ∃ b off p Ar cr x y x' y',A=some ⟨b,off,none⟩∧b < w.heap.size∧Hid (ps[j]? = some p)∧w.cell? ⟨b,off+j * 5,none⟩=some (.string p.left)∧w.cell? ⟨b,off+j * 5+1,none⟩=some (.complex .f64 x y)∧w.cell? ⟨b,off+j * 5+2,none⟩=some (.slice Ar p.right.length cr) ∧
 w.cell? ⟨b,off+j * 5+3,none⟩=some (.string p.prec)∧w.cell? ⟨b,off+j * 5+4,none⟩=some (.complex .f64 x' y')∧Rfs w Ar p.right.length cr p.right:=by
 obtain ⟨b,off,e,hlt,hc⟩:=h.2.2.2 (by omega)
 have hl:=h.1
 have ht:ps[j]? = some (ps[j]'(by omega)):=List.getElem?_eq_getElem (by omega)
 obtain ⟨Ar,cr,x,y,x',y',h0,h1,h2,h3,h4,h5⟩:=hc j _ ht
 exact ⟨b,off,_,Ar,cr,x,y,x',y',e,hlt,LH ht,h0,h1,h2,h3,h4,h5⟩
theorem own_prds {w:World} {base e n c:Nat} {A:Option Addr} {av:Nat→Prop} {cs:List Value} {ps:List Prd} (h:w.ownsRow base e 5 (.slice A n c) n cs) (hc:PrdCs w av cs ps):Prds w A n c ps:=by
 have hl:ps.length=n:=by have:=h.1;have:=hc.1;omega
 rcases h.2 with ⟨hv,rfl⟩ | ⟨g,cap,cur,hv,hb,hg,hnc,hcm,hcs,htake⟩
 · injection hv with h1 h2 h3
   subst h1;subst h3
   exact ⟨hl,Nat.le_refl _,by omega,fun h0=>absurd h0 (by omega)⟩
 · injection hv with h1 h2 h3
   subst h1;subst h3
   have hlt:g < w.heap.size:=by
    rcases Nat.lt_or_ge g w.heap.size with hlt | hge
    · exact hlt
    · rw [Array.getElem?_eq_none hge] at hg;cases hg
   refine ⟨hl,hnc,by simpa [maxLen] using hcm,fun hn=>⟨g,0,rfl,hlt,fun j t ht=>?_⟩⟩
   have hj:j < n:=by rw [← hl];exact (List.getElem?_eq_some_iff.1 ht).1
   obtain ⟨Ar,cr,x,y,x',y',h0,h1,h2,h3,h4,h5,_⟩:=hc.2 j t ht
   refine ⟨Ar,cr,x,y,x',y',?_,?_,?_,?_,?_,h5⟩
   · rw [Nat.zero_add,h.cellAt (j * 5) (by omega)];exact h0
   · rw [Nat.zero_add,h.cellAt (j * 5+1) (by omega)];exact h1
   · rw [Nat.zero_add,h.cellAt (j * 5+2) (by omega)];exact h2
   · rw [Nat.zero_add,h.cellAt (j * 5+3) (by omega)];exact h3
   · rw [Nat.zero_add,h.cellAt (j * 5+4) (by omega)];exact h4
theorem own_keep {w w':World} {base e size n c:Nat} {A:Option Addr} {xs:List Value} (h:w.ownsRow base e size (.slice A n c) n xs) (hk:∀ b,(Value.slice A n c).ownBlock=some b→b < w.heap.size→w'.heap[b]? = w.heap[b]?):w'.ownsRow base e size (.slice A n c) n xs:=by
 refine ⟨h.1,?_⟩
 rcases h.2 with hn | ⟨g,cap,cur,hv,hbg,hg,rest⟩
 · exact .inl hn
 · refine .inr ⟨g,cap,cur,hv,hbg,?_,rest⟩
   have hlt:g < w.heap.size:=by
    rcases Nat.lt_or_ge g w.heap.size with hlt | hge
    · exact hlt
    · rw [Array.getElem?_eq_none hge] at hg;cases hg
   rw [hk g (by rw [hv];rfl) hlt];exact hg
section
variable {P:Program} {w:World}
theorem wpl_appendM {ops:Array Oper} {rest:List Oper} {o:Oper} {a:Act} {Q:Exit→Act→World→Prop} (hgd:o.guard=none) (s x:Operand) (t:TypeId)
 (ho:o.op = .call { callee := .builtin .append,args:=#[s,x],argTypes:=#[t,t] })
 (base:Nat) (e:TypeId) (z:Value) (size bytes:Nat) (ht:P.underlying t=some (.slice e))
 (hi:(P.info? e).map (fun i=>(i.zero,i.size,i.bytes))=some (some z,size,bytes)) (hz1:z.cells.size=size) (hsz0:0 < size)
 (A:Option Addr) (n c:Nat) (xs:List Value) (hs:a.eval s = .slice A n c) (hown:w.ownsRow base e size (.slice A n c) n xs)
 (ad:Addr) (m c2:Nat) (news:List Value) (hl:news.length=m * size) (hx:a.eval x = .slice (some ad) m c2) (hcells:∀ j u,news[j]? = some u→w.cell? (ad.add j)=some u) (h1:∀ u ∈ news,u.oneCell'=true)
 (h63:n+m≤9223372036854775807) (hbytes:(n+m) * bytes≤140737488355328) (hbase:base≤w.heap.size)
 (h:∀ A' c' w',w'.ownsRow base e size (.slice A' (n+m) c') (n+m) (xs++news)→w.grownBy w' (Value.slice A n c).ownBlock→(∀ b,(Value.slice A' (n+m) c').ownBlock=some b→b < w.heap.size→(Value.slice A n c).ownBlock=some b) →
   wpList P ops Q rest (a.put o.dst (.slice A' (n+m) c')) w'):wpList P ops Q (o::rest) a w:=by
 obtain ⟨i,hi',hz,hsz,hby⟩:=info_parts hi
 obtain ⟨v',w',hrun,h3,h4,_,h5⟩:=run_append_own_at (P:=P) w base t o.type e i z size bytes ht hi' hz hsz hby hz1 hsz0 _ n xs hown ad m c2 news hl hcells h1 (by simpa [maxLen] using h63) hbytes hbase
 obtain ⟨A',c',rfl⟩:=own_formS h3
 have h5':∀ b,(Value.slice A' (n+m) c').ownBlock=some b→b < w.heap.size→(Value.slice A n c).ownBlock=some b:=by
  intro b hb hlt
  rcases h5 with h5 | h5
  · rw [← h5];exact hb
  · rw [h5] at hb;injection hb with hb;omega
 refine wpList_plain hgd fun K hK=>?_
 unfold Oper.wp execOp
 simp only [ho,resolve,invoke,builtin,Sem.run_bind,Sem.run_pure,Result.andThen_ok,List.map_toArray,List.map_cons,List.map_nil,hs,hx,hrun]
 exact hK _ _ (h A' c' w' h3 h4 h5')
theorem wpl_appendT {ops:Array Oper} {rest:List Oper} {o:Oper} {a:Act} {Q:Exit→Act→World→Prop} (hgd:o.guard=none) (s x:Operand) (t:TypeId)
 (ho:o.op = .call { callee := .builtin .append,args:=#[s,x],argTypes:=#[t,t] })
 (base:Nat) (e:TypeId) (z:Value) (size bytes:Nat) (ht:P.underlying t=some (.slice e))
 (hi:(P.info? e).map (fun i=>(i.zero,i.size,i.bytes))=some (some z,size,bytes)) (hz1:z.cells.size=size) (hsz0:0 < size)
 (A:Option Addr) (n c:Nat) (xs:List Value) (hs:a.eval s = .slice A n c) (hown:w.ownsRow base e size (.slice A n c) n xs)
 (news:List Value) (hl:news.length=size) (hx:a.eval x = .slice (some ⟨w.heap.size,0,none⟩) 1 1) (h1:∀ u ∈ news,u.oneCell'=true)
 (h63:n+1≤9223372036854775807) (hbytes:(n+1) * bytes≤140737488355328) (hbase:base≤w.heap.size)
 (h:∀ A' c' w',w'.ownsRow base e size (.slice A' (n+1) c') (n+1) (xs++news)→w.grownBy w' (Value.slice A n c).ownBlock→(∀ b,(Value.slice A' (n+1) c').ownBlock=some b→b < w.heap.size→(Value.slice A n c).ownBlock=some b) →
   wpList P ops Q rest (a.put o.dst (.slice A' (n+1) c')) w'):wpList P ops Q (o::rest) a (w.alloc (.cells news.toArray e)):=by
 have hcells:∀ j u,news[j]? = some u→(w.alloc (.cells news.toArray e)).cell? ((⟨w.heap.size,0,none⟩:Addr).add j)=some u:=by
  intro j u hu
  have e1:(⟨w.heap.size,0,none⟩:Addr).add j=⟨w.heap.size,j,none⟩:=by
   unfold Addr.add
   split
   · rename_i h0;subst h0;rfl
   · simp
  rw [e1,World.cell?_alloc_mark]
  simpa using hu
 refine wpl_appendM hgd s x t ho base e z size bytes ht hi hz1 hsz0 A n c xs hs (hown.alloc _) _ 1 1 news (by rw [hl,Nat.one_mul]) hx hcells h1 h63 hbytes (by simp;omega) fun A' c' w' h2 h3 h4=>?_
 have hg:w.grownBy (w.alloc (.cells news.toArray e)) (Value.slice A n c).ownBlock:=World.grownBy_alloc _ _ _
 exact h A' c' w' h2 ⟨h3.os.trans hg.os,h3.tape.trans hg.tape,h3.output.trans hg.output,Nat.le_trans hg.size h3.size,fun k hk hne=>(h3.block k (Nat.lt_of_lt_of_le hk hg.size) hne).trans (hg.block k hk hne)⟩ fun b hb hlt=>h4 b hb (by simp;omega)
end
def V1 (h:GH):Value := .slice h.a1 h.n1 h.c1
def V2 (h:GH):Value := .slice h.a2 h.n2 h.c2
def V3 (h:GH):Value := .slice h.a3 h.n3 h.c3
def foot (p:Nat) (h:GH) (k:Nat):Prop:=k=p∨(V1 h).ownBlock=some k∨(V2 h).ownBlock=some k∨(V3 h).ownBlock=some k
structure Turn (w w':World) (p:Nat) (h h':GH):Prop where
 os:w'.os=w.os
 tape:w'.tape=w.tape
 output:w'.output=w.output
 size:w.heap.size≤w'.heap.size
 keep:∀ k,k < w.heap.size→¬ foot p h k→w'.heap[k]? = w.heap[k]?
 back:∀ k,k < w.heap.size→foot p h' k→foot p h k
theorem Turn.refl (w:World) (p:Nat) (h:GH):Turn w w p h h:=⟨rfl,rfl,rfl,Nat.le_refl _,fun _ _ _=>rfl,fun _ _ h=>h⟩
theorem Turn.trans {a b c:World} {p:Nat} {h h1 h2:GH} (x:Turn a b p h h1) (y:Turn b c p h1 h2):Turn a c p h h2 :=
 ⟨y.os.trans x.os,y.tape.trans x.tape,y.output.trans x.output,Nat.le_trans x.size y.size,fun k hk hn=>(y.keep k (Nat.lt_of_lt_of_le hk x.size) fun hf=>hn (x.back k hk hf)).trans (x.keep k hk hn),fun k hk hf=>x.back k hk (y.back k (Nat.lt_of_lt_of_le hk x.size) hf)⟩
theorem Turn.of_below {w w':World} (h:Below w.heap.size w w') (p:Nat) (gh:GH):Turn w w' p gh gh:=⟨h.os,h.tape,h.output,h.size,fun k hk _=>h.block k hk,fun _ _ h=>h⟩
def trmCs (ts:List Trm):List Value:=ts.flatMap fun t=>[.string t.name, .int .i64 t.level, .int .i64 t.assoc]
theorem trmCs_snoc (ts:List Trm) (t:Trm):trmCs (ts++[t])=trmCs ts++[.string t.name, .int .i64 t.level, .int .i64 t.assoc]:=by simp [trmCs]
theorem trmCs_len (ts:List Trm):(trmCs ts).length=ts.length * 3:=by
 induction ts with
 | nil=>rfl
 | cons t ts ih=>rw [show trmCs (t::ts)=[.string t.name, .int .i64 t.level, .int .i64 t.assoc]++trmCs ts from rfl,List.length_append,ih];simp;omega
theorem trmCs_at {ts:List Trm} {j:Nat} {t:Trm} (h:ts[j]? = some t):(trmCs ts)[j * 3+0]? = some (.string t.name)∧(trmCs ts)[j * 3+1]? = some (.int .i64 t.level)∧(trmCs ts)[j * 3+2]? = some (.int .i64 t.assoc):=by
 induction ts generalizing j with
 | nil=>simp at h
 | cons u ts ih =>
   rw [show trmCs (u::ts)=[.string u.name, .int .i64 u.level, .int .i64 u.assoc]++trmCs ts from rfl]
   cases j with
   | zero=>simp at h;subst h;exact ⟨rfl,rfl,rfl⟩
   | succ j =>
     simp at h
     obtain ⟨h0,h1,h2⟩:=ih h
     have e:∀ i,(j+1) * 3+i=1 * 3+(j * 3+i):=fun i=>by omega
     exact ⟨by rw [e,stride_new rfl];exact h0,by rw [e,stride_new rfl];exact h1,by rw [e,stride_new rfl];exact h2⟩
def RulCs (w:World) (av:Nat→Prop) (cs:List Value) (rs:List Rul):Prop:=cs.length=rs.length * 3∧∀ (j:Nat) (r:Rul),rs[j]? = some r→∃ Ar cr,
 cs[j * 3+0]? = some (.int .i64 r.left)∧cs[j * 3+1]? = some (.slice Ar r.right.length cr)∧cs[j * 3+2]? = some (.int .i64 r.prec)∧Ints .i64 w Ar r.right.length cr r.right∧∀ b off,Ar=some ⟨b,off,none⟩→b < w.heap.size∧av b
theorem RulCs.nil (w:World) (av:Nat→Prop):RulCs w av [] []:=⟨rfl,fun j t h=>by simp at h⟩
theorem ints_keep {k:IntKind} {w w':World} {A:Option Addr} {n c:Nat} {zs:List Int} (h:Ints k w A n c zs) (hs:w.heap.size≤w'.heap.size) (hk:∀ b off,A=some ⟨b,off,none⟩→b < w.heap.size→w'.heap[b]? = w.heap[b]?):Ints k w' A n c zs:=by
 refine ⟨h.1,h.2.1,h.2.2.1,fun hn=>?_⟩
 obtain ⟨b,off,e,hb,hc⟩:=h.2.2.2 hn
 refine ⟨b,off,e,by omega,fun j hj=>?_⟩
 rw [World.cell?_of_block (a:=⟨b,off+j,none⟩) (hk b off e hb)]
 exact hc j hj
theorem RulCs.keep {w w':World} {av av':Nat→Prop} {cs:List Value} {rs:List Rul} (h:RulCs w av cs rs) (hs:w.heap.size≤w'.heap.size) (hk:∀ k,k < w.heap.size→av k→w'.heap[k]? = w.heap[k]? ∧ av' k):RulCs w' av' cs rs:=by
 refine ⟨h.1,fun j p hp=>?_⟩
 obtain ⟨Ar,cr,h0,h1,h2,h5,h6⟩:=h.2 j p hp
 exact ⟨Ar,cr,h0,h1,h2,ints_keep h5 hs fun b off e hb=>(hk b hb (h6 b off e).2).1,fun b off e=>⟨Nat.lt_of_lt_of_le (h6 b off e).1 hs,(hk b (h6 b off e).1 (h6 b off e).2).2⟩⟩
theorem RulCs.snoc {w:World} {av:Nat→Prop} {cs:List Value} {rs:List Rul} (h:RulCs w av cs rs) (r:Rul) {Ar:Option Addr} {cr:Nat} (hr:Ints .i64 w Ar r.right.length cr r.right) (ha:∀ b off,Ar=some ⟨b,off,none⟩→b < w.heap.size∧av b) :
 RulCs w av (cs++[.int .i64 r.left, .slice Ar r.right.length cr, .int .i64 r.prec]) (rs++[r]):=by
 refine ⟨by simp [h.1];omega,fun j u hu=>?_⟩
 rcases snoc_cases hu with ⟨hj,hu⟩ | ⟨rfl,rfl⟩
 · obtain ⟨Ar',cr',h0,h1,h2,h3⟩:=h.2 j u hu
   exact ⟨Ar',cr',by rw [stride_old h.1 hj (by omega)];exact h0,by rw [stride_old h.1 hj (by omega)];exact h1,by rw [stride_old h.1 hj (by omega)];exact h2,h3⟩
 · exact ⟨Ar,cr,by rw [stride_new h.1];rfl,by rw [stride_new h.1];rfl,by rw [stride_new h.1];rfl,hr,ha⟩
def ApartV (u v:Value):Prop:=∀ b,u.ownBlock=some b→v.ownBlock=some b→False
def wkCells (h:GH):Array Value:=#[V1 h,V2 h,V3 h, .int .i64 0, .slice none 0 0, .string ⟨#[]⟩, .complex .f64 0 0, .bool false, .int .i64 0, .complex .f64 0 0, .int .i64 0]
structure Wk (w:World) (p B:Nat) (h:GH) (G:Gr):Prop where
 blk:Blk w p 193 (wkCells h)
 r1:w.ownsRow (p+1) 91 3 (V1 h) h.n1 (trmCs G.terms)
 r2:w.ownsRow (p+1) 9 1 (V2 h) h.n2 (G.nons.map Value.string)
 r3:∃ cs,w.ownsRow (p+1) 52 3 (V3 h) h.n3 cs∧RulCs w (fun k=>¬ foot p h k∧k < B∧p < k) cs G.rules
 d12:ApartV (V1 h) (V2 h)
 d13:ApartV (V1 h) (V3 h)
 d23:ApartV (V2 h) (V3 h)
 st:G.start=0
 wf:∀ r ∈ G.rules,∀ s ∈ r.right,InI64 s
 b1:h.n1≤24
 b2:h.n2≤16
 b3:h.n3≤40
theorem own_trms {w:World} {base e n c:Nat} {A:Option Addr} {ts:List Trm} (h:w.ownsRow base e 3 (.slice A n c) n (trmCs ts)):Trms w A n c ts:=by
 have hl:ts.length=n:=by have:=h.1;rw [trmCs_len] at this;omega
 rcases h.2 with ⟨hv,rfl⟩ | ⟨g,cap,cur,hv,hb,hg,hnc,hcm,hcs,htake⟩
 · injection hv with h1 h2 h3
   subst h1;subst h3
   exact ⟨hl,Nat.le_refl _,by omega,fun h0=>absurd h0 (by omega)⟩
 · injection hv with h1 h2 h3
   subst h1;subst h3
   have hlt:g < w.heap.size:=by
    rcases Nat.lt_or_ge g w.heap.size with hlt | hge
    · exact hlt
    · rw [Array.getElem?_eq_none hge] at hg;cases hg
   refine ⟨hl,hnc,by simpa [maxLen] using hcm,fun hn=>⟨g,0,rfl,hlt,fun j t ht=>?_⟩⟩
   have hj:j < n:=by rw [← hl];exact (List.getElem?_eq_some_iff.1 ht).1
   obtain ⟨h0,h1,h2⟩:=trmCs_at ht
   refine ⟨?_,?_,?_⟩
   · rw [Nat.zero_add,h.cellAt (j * 3) (by omega)];exact h0
   · rw [Nat.zero_add,h.cellAt (j * 3+1) (by omega)];exact h1
   · rw [Nat.zero_add,h.cellAt (j * 3+2) (by omega)];exact h2
theorem own_ruls {w:World} {base e n c:Nat} {A:Option Addr} {av:Nat→Prop} {cs:List Value} {rs:List Rul} (h:w.ownsRow base e 3 (.slice A n c) n cs) (hc:RulCs w av cs rs):Ruls w A n c rs:=by
 have hl:rs.length=n:=by have:=h.1;have:=hc.1;omega
 rcases h.2 with ⟨hv,rfl⟩ | ⟨g,cap,cur,hv,hb,hg,hnc,hcm,hcs,htake⟩
 · injection hv with h1 h2 h3
   subst h1;subst h3
   exact ⟨hl,Nat.le_refl _,by omega,fun h0=>absurd h0 (by omega)⟩
 · injection hv with h1 h2 h3
   subst h1;subst h3
   have hlt:g < w.heap.size:=by
    rcases Nat.lt_or_ge g w.heap.size with hlt | hge
    · exact hlt
    · rw [Array.getElem?_eq_none hge] at hg;cases hg
   refine ⟨hl,hnc,by simpa [maxLen] using hcm,fun hn=>⟨g,0,rfl,hlt,fun j t ht=>?_⟩⟩
   have hj:j < n:=by rw [← hl];exact (List.getElem?_eq_some_iff.1 ht).1
   obtain ⟨Ar,cr,h0,h1,h2,h3,_⟩:=hc.2 j t ht
   refine ⟨Ar,cr,?_,?_,?_,h3⟩
   · rw [Nat.zero_add,h.cellAt (j * 3) (by omega)];exact h0
   · rw [Nat.zero_add,h.cellAt (j * 3+1) (by omega)];exact h1
   · rw [Nat.zero_add,h.cellAt (j * 3+2) (by omega)];exact h2
theorem Wk.grAt {w:World} {p B:Nat} {h:GH} {G:Gr} (k:Wk w p B h G):GrAt w h G:=by
 obtain ⟨cs,h3,hc⟩:=k.r3
 exact ⟨own_trms k.r1,own_sl k.r2,own_ruls h3 hc,k.wf⟩
theorem Wk.lt {w:World} {p B:Nat} {h:GH} {G:Gr} (k:Wk w p B h G):p < w.heap.size:=k.blk.lt
theorem own_kept {w w':World} {base e size n c:Nat} {A:Option Addr} {xs:List Value} (h:w.ownsRow base e size (.slice A n c) n xs) (hk:∀ b,base≤b→(Value.slice A n c).ownBlock=some b→b < w.heap.size→w'.heap[b]? = w.heap[b]?):w'.ownsRow base e size (.slice A n c) n xs :=
 own_keep h fun b hb hlt=>hk b (h.lt b hb).1 hb hlt
theorem Wk.below {w w':World} {p B:Nat} {h:GH} {G:Gr} (k:Wk w p B h G) (hb:Below w.heap.size w w'):Wk w' p B h G:=by
 obtain ⟨cs,h3,hc⟩:=k.r3
 exact ⟨k.blk.ext hb,own_kept k.r1 fun b _ _ hlt=>hb.block b hlt,own_kept k.r2 fun b _ _ hlt=>hb.block b hlt,
  ⟨cs,own_kept h3 fun b _ _ hlt=>hb.block b hlt,hc.keep hb.size fun k hk ha=>⟨hb.block k hk,ha⟩⟩,k.d12,k.d13,k.d23,k.st,k.wf,k.b1,k.b2,k.b3⟩
theorem Turn.below {w w':World} {p B:Nat} {h h':GH} {G:Gr} (t:Turn w w' p h h') (k:Wk w p B h G):Below p w w':=by
 refine ⟨t.os,t.tape,t.output,t.size,fun b hb=>t.keep b (Nat.lt_trans hb k.lt) ?_⟩
 rintro (h0 | h0 | h0 | h0)
 · omega
 · have:=(k.r1.lt b h0).1;omega
 · have:=(k.r2.lt b h0).1;omega
 · obtain ⟨cs,h3,_⟩:=k.r3
   have:=(h3.lt b h0).1;omega
theorem Wk.put1 {w w1:World} {p B:Nat} {h:GH} {G:Gr} (k:Wk w p B h G) (t:Trm) (hn:h.n1 < 24) (A':Option Addr) (c':Nat)
 (ho:w1.ownsRow (p+1) 91 3 (.slice A' (h.n1+1) c') (h.n1+1) (trmCs G.terms++[.string t.name, .int .i64 t.level, .int .i64 t.assoc]))
 (hg:w.grownBy w1 (V1 h).ownBlock) (ha:∀ b,(Value.slice A' (h.n1+1) c').ownBlock=some b→b < w.heap.size→(V1 h).ownBlock=some b) :
 Wk (w1.setCell ⟨p,0,none⟩ (.slice A' (h.n1+1) c')) p B { h with a1:=A',n1:=h.n1+1,c1:=c' } { G with terms:=G.terms++[t] } ∧
 Turn w (w1.setCell ⟨p,0,none⟩ (.slice A' (h.n1+1) c')) p h { h with a1:=A',n1:=h.n1+1,c1:=c' }:=by
 obtain ⟨cs,h3,hc⟩:=k.r3
 have hp1:∀ b,(V1 h).ownBlock=some b→b ≠ p:=fun b hb=>by have:=(k.r1.lt b hb).1;omega
 have hset:∀ b,b ≠ p→(w1.setCell ⟨p,0,none⟩ (.slice A' (h.n1+1) c')).heap[b]? = w1.heap[b]? := fun b hb=>Below.heap_setCell w1 ⟨p,0,none⟩ _ b hb
 have hsz:w.heap.size≤(w1.setCell ⟨p,0,none⟩ (.slice A' (h.n1+1) c')).heap.size:=by simpa using hg.size
 have hkeep:∀ b,b < w.heap.size→b ≠ p→(V1 h).ownBlock ≠ some b→(w1.setCell ⟨p,0,none⟩ (.slice A' (h.n1+1) c')).heap[b]? = w.heap[b]? := fun b hb hne h1 =>
  (hset b hne).trans (hg.block b hb fun e=>h1 e.symm)
 have hT:Turn w (w1.setCell ⟨p,0,none⟩ (.slice A' (h.n1+1) c')) p h { h with a1:=A',n1:=h.n1+1,c1:=c' }:=by
  refine ⟨hg.os,hg.tape,hg.output,hsz,fun b hb hn=>hkeep b hb (fun e=>hn (.inl e)) fun e=>hn (.inr (.inl e)),?_⟩
  rintro b hb (h0 | h0 | h0 | h0)
  · exact .inl h0
  · exact .inr (.inl (ha b h0 hb))
  · exact .inr (.inr (.inl h0))
  · exact .inr (.inr (.inr h0))
 refine ⟨⟨?_,?_,?_,⟨cs,?_,?_⟩,?_,?_,?_,k.st,k.wf,by show h.n1+1≤24;omega,k.b2,k.b3⟩,hT⟩
 · have hb1:Blk w1 p 193 (wkCells h):=k.blk.grown hg fun e=>hp1 p e.symm rfl
   exact Blk.set hb1 0 (.slice A' (h.n1+1) c')
 · rw [trmCs_snoc]
   exact own_kept ho fun b hb _ _=>hset b (by omega)
 · exact own_kept k.r2 fun b hb h2 hlt=>hkeep b hlt (by omega) fun e=>k.d12 b e h2
 · exact own_kept h3 fun b hb h3' hlt=>hkeep b hlt (by omega) fun e=>k.d13 b e h3'
 · exact hc.keep hsz fun b hb hn=>⟨hT.keep b hb hn.1,fun hf=>hn.1 (hT.back b hb hf),hn.2⟩
 · intro b h1 h2
   have hlt:=(k.r2.lt b h2).2
   exact k.d12 b (ha b h1 hlt) h2
 · intro b h1 h2
   have hlt:=(h3.lt b h2).2
   exact k.d13 b (ha b h1 hlt) h2
 · exact k.d23
theorem Wk.put2 {w w1:World} {p B:Nat} {h:GH} {G:Gr} (k:Wk w p B h G) (s:ByteArray) (hn:h.n2 < 16) (A':Option Addr) (c':Nat)
 (ho:w1.ownsRow (p+1) 9 1 (.slice A' (h.n2+1) c') (h.n2+1) (G.nons.map Value.string++[.string s]))
 (hg:w.grownBy w1 (V2 h).ownBlock) (ha:∀ b,(Value.slice A' (h.n2+1) c').ownBlock=some b→b < w.heap.size→(V2 h).ownBlock=some b) :
 Wk (w1.setCell ⟨p,1,none⟩ (.slice A' (h.n2+1) c')) p B { h with a2:=A',n2:=h.n2+1,c2:=c' } { G with nons:=G.nons++[s] } ∧
 Turn w (w1.setCell ⟨p,1,none⟩ (.slice A' (h.n2+1) c')) p h { h with a2:=A',n2:=h.n2+1,c2:=c' }:=by
 obtain ⟨cs,h3,hc⟩:=k.r3
 have hp1:∀ b,(V2 h).ownBlock=some b→b ≠ p:=fun b hb=>by have:=(k.r2.lt b hb).1;omega
 have hset:∀ b,b ≠ p→(w1.setCell ⟨p,1,none⟩ (.slice A' (h.n2+1) c')).heap[b]? = w1.heap[b]? := fun b hb=>Below.heap_setCell w1 ⟨p,1,none⟩ _ b hb
 have hsz:w.heap.size≤(w1.setCell ⟨p,1,none⟩ (.slice A' (h.n2+1) c')).heap.size:=by simpa using hg.size
 have hkeep:∀ b,b < w.heap.size→b ≠ p→(V2 h).ownBlock ≠ some b→(w1.setCell ⟨p,1,none⟩ (.slice A' (h.n2+1) c')).heap[b]? = w.heap[b]? := fun b hb hne h1 =>
  (hset b hne).trans (hg.block b hb fun e=>h1 e.symm)
 have hT:Turn w (w1.setCell ⟨p,1,none⟩ (.slice A' (h.n2+1) c')) p h { h with a2:=A',n2:=h.n2+1,c2:=c' }:=by
  refine ⟨hg.os,hg.tape,hg.output,hsz,fun b hb hn=>hkeep b hb (fun e=>hn (.inl e)) fun e=>hn (.inr (.inr (.inl e))),?_⟩
  rintro b hb (h0 | h0 | h0 | h0)
  · exact .inl h0
  · exact .inr (.inl h0)
  · exact .inr (.inr (.inl (ha b h0 hb)))
  · exact .inr (.inr (.inr h0))
 refine ⟨⟨?_,?_,?_,⟨cs,?_,?_⟩,?_,?_,?_,k.st,k.wf,k.b1,by show h.n2+1≤16;omega,k.b3⟩,hT⟩
 · have hb1:Blk w1 p 193 (wkCells h):=k.blk.grown hg fun e=>hp1 p e.symm rfl
   exact Blk.set hb1 1 (.slice A' (h.n2+1) c')
 · exact own_kept k.r1 fun b hb h2 hlt=>hkeep b hlt (by omega) fun e=>k.d12 b h2 e
 · show World.ownsRow _ _ _ _ _ _ ((G.nons++[s]).map Value.string)
   rw [List.map_append]
   exact own_kept ho fun b hb _ _=>hset b (by omega)
 · exact own_kept h3 fun b hb h3' hlt=>hkeep b hlt (by omega) fun e=>k.d23 b e h3'
 · exact hc.keep hsz fun b hb hn=>⟨hT.keep b hb hn.1,fun hf=>hn.1 (hT.back b hb hf),hn.2⟩
 · intro b h1 h2
   have hlt:=(k.r1.lt b h1).2
   exact k.d12 b h1 (ha b h2 hlt)
 · exact k.d13
 · intro b h1 h2
   have hlt:=(h3.lt b h2).2
   exact k.d23 b (ha b h1 hlt) h2
theorem Wk.put3 {w w1:World} {p B:Nat} {h:GH} {G:Gr} (k:Wk w p B h G) (B':Nat) (hBB:B≤B') (r:Rul) (hw:∀ s ∈ r.right,InI64 s) (hn:h.n3 < 40) (A':Option Addr) (c':Nat) (Ar:Option Addr) (cr:Nat)
 (hr:Ints .i64 w Ar r.right.length cr r.right) (hra:∀ b off,Ar=some ⟨b,off,none⟩→b < w.heap.size∧¬ foot p h b∧b < B'∧p < b)
 (ho:∀ cs,w.ownsRow (p+1) 52 3 (V3 h) h.n3 cs→RulCs w (fun k=>¬ foot p h k∧k < B∧p < k) cs G.rules→w1.ownsRow (p+1) 52 3 (.slice A' (h.n3+1) c') (h.n3+1) (cs++[.int .i64 r.left, .slice Ar r.right.length cr, .int .i64 r.prec]))
 (hg:w.grownBy w1 (V3 h).ownBlock) (ha:∀ b,(Value.slice A' (h.n3+1) c').ownBlock=some b→b < w.heap.size→(V3 h).ownBlock=some b) :
 Wk (w1.setCell ⟨p,2,none⟩ (.slice A' (h.n3+1) c')) p B' { h with a3:=A',n3:=h.n3+1,c3:=c' } { G with rules:=G.rules++[r] } ∧
 Turn w (w1.setCell ⟨p,2,none⟩ (.slice A' (h.n3+1) c')) p h { h with a3:=A',n3:=h.n3+1,c3:=c' }:=by
 obtain ⟨cs,h3,hc⟩:=k.r3
 have hown:=ho cs h3 hc
 have hp1:∀ b,(V3 h).ownBlock=some b→b ≠ p:=fun b hb=>by have:=(h3.lt b hb).1;omega
 have hset:∀ b,b ≠ p→(w1.setCell ⟨p,2,none⟩ (.slice A' (h.n3+1) c')).heap[b]? = w1.heap[b]? := fun b hb=>Below.heap_setCell w1 ⟨p,2,none⟩ _ b hb
 have hsz:w.heap.size≤(w1.setCell ⟨p,2,none⟩ (.slice A' (h.n3+1) c')).heap.size:=by simpa using hg.size
 have hkeep:∀ b,b < w.heap.size→b ≠ p→(V3 h).ownBlock ≠ some b→(w1.setCell ⟨p,2,none⟩ (.slice A' (h.n3+1) c')).heap[b]? = w.heap[b]? := fun b hb hne h1 =>
  (hset b hne).trans (hg.block b hb fun e=>h1 e.symm)
 have hT:Turn w (w1.setCell ⟨p,2,none⟩ (.slice A' (h.n3+1) c')) p h { h with a3:=A',n3:=h.n3+1,c3:=c' }:=by
  refine ⟨hg.os,hg.tape,hg.output,hsz,fun b hb hn=>hkeep b hb (fun e=>hn (.inl e)) fun e=>hn (.inr (.inr (.inr e))),?_⟩
  rintro b hb (h0 | h0 | h0 | h0)
  · exact .inl h0
  · exact .inr (.inl h0)
  · exact .inr (.inr (.inl h0))
  · exact .inr (.inr (.inr (ha b h0 hb)))
 refine ⟨⟨?_,?_,?_,⟨cs++[.int .i64 r.left, .slice Ar r.right.length cr, .int .i64 r.prec],?_,?_⟩,?_,?_,?_,k.st,?_,k.b1,k.b2,by show h.n3+1≤40;omega⟩,hT⟩
 · have hb1:Blk w1 p 193 (wkCells h):=k.blk.grown hg fun e=>hp1 p e.symm rfl
   exact Blk.set hb1 2 (.slice A' (h.n3+1) c')
 · exact own_kept k.r1 fun b hb h2 hlt=>hkeep b hlt (by omega) fun e=>k.d13 b h2 e
 · exact own_kept k.r2 fun b hb h2 hlt=>hkeep b hlt (by omega) fun e=>k.d23 b h2 e
 · exact own_kept hown fun b hb _ _=>hset b (by omega)
 · have hc':RulCs w (fun k=>¬ foot p h k∧k < B'∧p < k) cs G.rules:=hc.keep (Nat.le_refl _) fun b _ hn=>⟨rfl,hn.1,Nat.lt_of_lt_of_le hn.2.1 hBB,hn.2.2⟩
   exact (hc'.snoc r hr hra).keep hsz fun b hb hn=>⟨hT.keep b hb hn.1,fun hf=>hn.1 (hT.back b hb hf),hn.2⟩
 · exact k.d12
 · intro b h1 h2
   have hlt:=(k.r1.lt b h1).2
   exact k.d13 b h1 (ha b h2 hlt)
 · intro b h1 h2
   have hlt:=(k.r2.lt b h1).2
   exact k.d23 b h1 (ha b h2 hlt)
 · intro q hq
   rcases List.mem_append.1 hq with hq | hq
   · exact k.wf q hq
   · rw [List.mem_singleton.1 hq];exact hw
theorem Wk.mono {w:World} {p B B':Nat} {h:GH} {G:Gr} (k:Wk w p B h G) (hB:B≤B'):Wk w p B' h G:=by
 obtain ⟨cs,h3,hc⟩:=k.r3
 exact ⟨k.blk,k.r1,k.r2,⟨cs,h3,hc.keep (Nat.le_refl _) fun b _ hn=>⟨rfl,hn.1,Nat.lt_of_lt_of_le hn.2.1 hB,hn.2.2⟩⟩,k.d12,k.d13,k.d23,k.st,k.wf,k.b1,k.b2,k.b3⟩
theorem Wk.away {w w':World} {p B:Nat} {h:GH} {G:Gr} (k:Wk w p B h G) (hs:w.heap.size≤w'.heap.size) (hk:∀ b,b < w.heap.size→(foot p h b∨b < B)→w'.heap[b]? = w.heap[b]?):Wk w' p B h G:=by
 obtain ⟨cs,h3,hc⟩:=k.r3
 exact ⟨(hk p k.lt (.inl (.inl rfl))).trans k.blk,own_kept k.r1 fun b _ h1 hlt=>hk b hlt (.inl (.inr (.inl h1))),own_kept k.r2 fun b _ h1 hlt=>hk b hlt (.inl (.inr (.inr (.inl h1)))),
  ⟨cs,own_kept h3 fun b _ h1 hlt=>hk b hlt (.inl (.inr (.inr (.inr h1)))),hc.keep hs fun b hb hn=>⟨hk b hb (.inr hn.2.1),hn⟩⟩,k.d12,k.d13,k.d23,k.st,k.wf,k.b1,k.b2,k.b3⟩
theorem Wk.foot_lt {w:World} {p B:Nat} {h:GH} {G:Gr} (k:Wk w p B h G) {b:Nat} (hf:foot p h b):b < w.heap.size:=by
 obtain ⟨cs,h3,_⟩:=k.r3
 rcases hf with h0 | h0 | h0 | h0
 · rw [h0];exact k.lt
 · exact (k.r1.lt b h0).2
 · exact (k.r2.lt b h0).2
 · exact (h3.lt b h0).2
theorem Turn.blk {w w':World} {p:Nat} {h h':GH} {g:Nat} {t:TypeId} {cs:Array Value} (T:Turn w w' p h h') (hb:Blk w g t cs) (hn:¬ foot p h g):Blk w' g t cs:=(T.keep g hb.lt hn).trans hb
theorem Turn.nf {w w':World} {p:Nat} {h h':GH} {g:Nat} (T:Turn w w' p h h') (hb:g < w.heap.size) (hn:¬ foot p h g):¬ foot p h' g:=fun hf=>hn (T.back g hb hf)
theorem Wk.grAt_ahead {w w':World} {p B:Nat} {h:GH} {G:Gr} (k:Wk w p B h G) (hs:w.heap.size≤w'.heap.size) (hk:∀ b,b < w.heap.size→p < b→w'.heap[b]? = w.heap[b]?):GrAt w' h G:=by
 obtain ⟨cs,h3,hc⟩:=k.r3
 exact ⟨own_trms (own_kept k.r1 fun b hb _ hlt=>hk b hlt hb),own_sl (own_kept k.r2 fun b hb _ hlt=>hk b hlt hb),own_ruls (own_kept h3 fun b hb _ hlt=>hk b hlt hb) (hc.keep hs fun b hb hn=>⟨hk b hb hn.2.2,hn⟩),k.wf⟩
end Go.Proofs.YtggbjdmpjidhgaaGreatDoor
