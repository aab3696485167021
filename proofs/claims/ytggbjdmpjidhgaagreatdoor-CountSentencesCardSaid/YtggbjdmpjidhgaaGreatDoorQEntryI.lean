/- What a law's walk is told of a slice of integers that came in. -/
import Derived.Test.YtggbjdmpjidhgaaGreatDoorQKit
import Derived.OpenShut
import Derived.ProofKit
import Derived.Test.YtggbjdmpjidhgaaGreatDoorQKit5
import Derived.SliceStrings
import Derived.Lib.SmallJoins
import Derived.Deep.Slices
import Derived.Test.YtggbjdmpjidhgaaGreatDoorQCtA
set_option linter.unusedVariables false
set_option linter.unusedSimpArgs false
set_option maxHeartbeats 8000000
set_option maxRecDepth 100000
namespace Go.Proofs.YtggbjdmpjidhgaaGreatDoor
open Go.RowKit
open Go.ChangeShapes Go.WideShapes Go.ChangeAt Go.RowKit
def IsRow (k:IntKind) (w:World) (a:Option Addr) (len cap:Nat) (zs:List Int):Prop :=
 (a=none∧len=0∧cap=0∧zs=[]) ∨
 ∃ x,a=some x∧len≤cap∧cap≤maxLen∧zs.length=cap∧(∀ i,i < zs.length→w.cell? (x.add i)=some (.int k (zs.getD i 0)))∧∀ n ∈ zs,(Lit.int k n).wf=true
theorem cell_lt {w:World} {b off:Nat} {v:Value} (h:w.cell? ⟨b,off,none⟩=some v):b < w.heap.size:=by
 rcases Nat.lt_or_ge b w.heap.size with h' | h'
 · exact h'
 · simp [World.cell?,Array.getElem?_eq_none h'] at h
theorem IsRow.ints {k:IntKind} {w:World} {a:Option Addr} {len cap:Nat} {zs:List Int} (h:IsRow k w a len cap zs) :
 ∃ xs:List Int,Ints k w a len cap xs∧∀ x ∈ xs,(Lit.int k x).wf=true:=by
 rcases h with ⟨rfl,rfl,rfl,rfl⟩ | ⟨x,rfl,hl,hm,hz,hc,hw⟩
 · exact ⟨[],Ints.nil _ _ _ _ (by simp),fun x hx=>by cases hx⟩
 · have hlen:(zs.take len).length=len:=by rw [List.length_take];omega
   have hget:∀ j,j < len→(zs.take len)[j]? = some (zs.getD j 0):=fun j hj=>by
    rw [List.getElem?_take,if_pos hj,List.getD_eq_getElem?_getD,List.getElem?_eq_getElem (by omega)]
    rfl
   refine ⟨zs.take len,⟨?_,hl,by simpa [maxLen] using hm,fun hn=>?_⟩,fun z hz'=>hw z (List.mem_of_mem_take hz')⟩
   · rw [ints_length,hlen]
   · rw [ints_length,hlen] at hn
     obtain ⟨b,off,spot⟩:=x
     have h0:=hc 0 (by omega)
     have hspot:spot=none:=by simpa [Addr.add] using World.cell?_spot h0
     subst hspot
     have h0':w.cell? ⟨b,off,none⟩=some (.int k (zs.getD 0 0)):=by simpa [Addr.add] using h0
     refine ⟨b,off,rfl,cell_lt h0',fun j hj=>?_⟩
     rw [ints_length,hlen] at hj
     have hj':=hc j (by omega)
     have e:(⟨b,off,none⟩:Addr).add j=⟨b,off+j,none⟩:=by
      unfold Addr.add
      split
      · rename_i h0;subst h0;rfl
      · rfl
     rw [e] at hj'
     rw [hj']
     simp only [Go.Proofs.YtggbjdmpjidhgaaGreatDoor.ints,List.getElem?_map,hget j hj,Option.map_some]
open Go.ChangeShapes Go.WideShapes Go.ChangeAt Go.RowKit
theorem Strs.of_row {w:World} {x:Addr} {len cap:Nat} {ss:List ByteArray} (hl:len≤cap) (hm:cap≤maxLen) (hz:ss.length=cap)
 (hc:∀ i,i < ss.length→w.cell? (x.add i)=some (.string (ss.getD i ByteArray.empty))):Strs w (some x) len cap (ss.take len):=by
 have hlen:(ss.take len).length=len:=by rw [List.length_take];omega
 refine ⟨by rw [List.length_map,hlen],hl,by simpa [maxLen] using hm,fun hn=>?_⟩
 rw [List.length_map,hlen] at hn
 obtain ⟨b,off,spot⟩:=x
 have h0:=hc 0 (by omega)
 have hspot:spot=none:=by simpa [Addr.add] using World.cell?_spot h0
 subst hspot
 have h0':w.cell? ⟨b,off,none⟩=some (.string (ss.getD 0 ByteArray.empty)):=by simpa [Addr.add] using h0
 refine ⟨b,off,rfl,cell_lt h0',fun j hj=>?_⟩
 rw [List.length_map,hlen] at hj
 have hj':=hc j (by omega)
 have e:(⟨b,off,none⟩:Addr).add j=⟨b,off+j,none⟩:=by
  unfold Addr.add
  split
  · rename_i h0;subst h0;rfl
  · rfl
 rw [e] at hj'
 rw [hj',List.getElem?_map,List.getElem?_take,if_pos hj,List.getElem?_eq_getElem (by omega),List.getD_eq_getElem?_getD,List.getElem?_eq_getElem (by omega)]
 rfl
open Go.ChangeShapes Go.WideShapes Go.ChangeAt Go.RowKit Go.Lib Go.Deep
section
variable {H:Type} {enc:TypeId × Value→H} {w:World} {base:Nat} {sp:Nat→Bool} {held:Bool}
theorem addr_add (b off i:Nat):(⟨b,off,none⟩:Addr).add i=⟨b,off+i,none⟩:=by
 unfold Addr.add
 split
 · rename_i h;subst h;rfl
 · rfl
theorem elem3 {P:Program} {e:TypeId} {f0 f1 f2:Field} (he:P.underlying e=some (.struct #[f0,f1,f2])) (ce:P.cellsOf e=3) (o0:f0.offset=0) (o1:f1.offset=1) (o2:f2.offset=2) (c0:P.cellsOf f0.type=1) (c1:P.cellsOf f1.type=1) (c2:P.cellsOf f2.type=1)
 {a:Addr} {i n:Nat} {cs:List Value} {y:DataW H × List MemPlace} (h1:w.cells? base (a.add (i * 3)) 3=some cs) (h2:DataW.trod enc P w base sp held n e cs=some y) :
 ∃ v0 v1 v2 y0 y1 y2 k,w.cell? (a.add (i * 3))=some v0∧w.cell? (a.add (i * 3+1))=some v1∧w.cell? (a.add (i * 3+2))=some v2 ∧
   DataW.trod enc P w base sp held k f0.type [v0]=some y0∧DataW.trod enc P w base sp held k f1.type [v1]=some y1∧DataW.trod enc P w base sp held k f2.type [v2]=some y2:=by
 obtain ⟨_,hlen,hcell⟩:=World.cells?_some h1
 obtain ⟨y0,y1,y2,k,_,_,g0,g1,g2⟩:=trod_struct3 he h2
 match cs,hlen with
 | [v0,v1,v2],_ =>
   have e0:=hcell 0 (by omega)
   have e1:=hcell 1 (by omega)
   have e2:=hcell 2 (by omega)
   rw [Addr.add_add] at e0 e1 e2
   simp [o0,o1,o2,c0,c1,c2] at g0 g1 g2
   exact ⟨v0,v1,v2,y0,y1,y2,k,by simpa using e0,by simpa using e1,by simpa using e2,g0,g1,g2⟩
theorem open_terms {fuel:Nat} {v:Value} {x:DataW H × List MemPlace} (h:DataW.trod enc Tryz.prog w base sp held fuel 22 [v]=some x) :
 ∃ A n c ts,v = .slice A n c∧Trms w A n c ts∧∀ t ∈ ts,t.name.size≤maxLen:=by
 rcases open_slice Tryz.underlying22 h with ⟨hcs,_⟩ | ⟨a,len,cap,m,n,D,Pl,hcs,_,hl,hm,hmm,_,hx⟩
 · simp at hcs
   exact ⟨none,0,0,[],hcs,⟨rfl,Nat.le_refl _,by omega,fun h=>by omega⟩,fun t ht=>by cases ht⟩
 · simp at hcs
   have hlm:len≤m:=by rw [hmm];split <;> omega
   have each:∀ i,∃ t:Trm,i < len→w.cell? (a.add (i * 3))=some (.string t.name)∧w.cell? (a.add (i * 3+1))=some (.int .i64 t.level)∧w.cell? (a.add (i * 3+2))=some (.int .i64 t.assoc)∧t.name.size≤maxLen:=fun i=>by
    by_cases hi:i < len
    · obtain ⟨cs',h1,h2⟩:=hx i (by omega)
      have ce:Tryz.prog.cellsOf 91=3:=by kernel_rfl
      rw [ce] at h1
      obtain ⟨v0,v1,v2,y0,y1,y2,k,q0,q1,q2,g0,g1,g2⟩:=elem3 Tryz.underlying91 ce rfl rfl rfl (by kernel_rfl) (by kernel_rfl) (by kernel_rfl) h1 h2
      obtain ⟨s,hs,_,hw⟩:=DataW.trod_string Tryz.underlying9 g0
      obtain ⟨n1,hn1,_,_⟩:=DataW.trod_int Tryz.underlying3 g1
      obtain ⟨n2,hn2,_,_⟩:=DataW.trod_int Tryz.underlying3 g2
      simp at hs hn1 hn2
      subst hs hn1 hn2
      exact ⟨⟨s,n1,n2⟩,fun _=>⟨q0,q1,q2,hw⟩⟩
    · exact ⟨⟨ByteArray.empty,0,0⟩,fun h=>absurd h hi⟩
   obtain ⟨f,hf⟩:=Classical.axiomOfChoice each
   refine ⟨some a,len,cap,(List.range len).map f,hcs,⟨by simp,hl,by simpa [maxLen] using hm,fun h0=>?_⟩,fun t ht=>?_⟩
   · obtain ⟨b,off,spot⟩:=a
     have h00:=(hf 0 h0).1
     have hspot:spot=none:=by simpa [Addr.add] using World.cell?_spot h00
     subst hspot
     rw [addr_add] at h00
     refine ⟨b,off,rfl,by have:=cell_lt h00;simpa using this,fun j t ht=>?_⟩
     rw [List.getElem?_map] at ht
     have hj:j < len:=by
      rcases Nat.lt_or_ge j len with h | h
      · exact h
      · simp [List.getElem?_eq_none (show (List.range len).length≤j by simpa using h)] at ht
     simp [hj] at ht
     subst ht
     obtain ⟨p0,p1,p2,_⟩:=hf j hj
     rw [addr_add] at p0 p1 p2
     exact ⟨p0,by rw [Nat.add_assoc];exact p1,by rw [Nat.add_assoc];exact p2⟩
   · obtain ⟨j,hj,rfl⟩:=List.mem_map.1 ht
     exact (hf j (List.mem_range.1 hj)).2.2.2
end
open Go.ChangeShapes Go.WideShapes Go.ChangeAt Go.RowKit Go.Lib Go.Deep
section
variable {H:Type} {enc:TypeId × Value→H} {w:World} {base:Nat} {held:Bool}
theorem open_intsG {fuel:Nat} {v:Value} {x:DataW H × List MemPlace} (h:DataW.trod enc Tryz.prog w base (fun _=>true) held fuel 27 [v]=some x) :
 ∃ A n c zs,v = .slice A n c∧Ints .i64 w A n c zs∧∀ z ∈ zs,InI64 z:=by
 rcases open_ints Tryz.underlying27 Tryz.underlying3 (by kernel_rfl) h with ⟨hcs,_⟩ | ⟨a,len,cap,zs,hcs,_,hl,hm,hz,_,hcell,hwz⟩
 · simp at hcs
   exact ⟨none,0,0,[],hcs,Ints.nil _ _ _ _ (by omega),fun z hz=>by cases hz⟩
 · simp at hcs
   obtain ⟨xs,hI,hw⟩:=IsRow.ints (k := .i64) (w:=w) (.inr ⟨a,rfl,hl,hm,by simpa using hz,hcell,hwz⟩:IsRow .i64 w (some a) len cap zs)
   exact ⟨some a,len,cap,xs,hcs,hI,fun z hz=>bounds_i64 (hw z hz)⟩
theorem open_strsG {fuel:Nat} {v:Value} {x:DataW H × List MemPlace} (h:DataW.trod enc Tryz.prog w base (fun _=>true) held fuel 23 [v]=some x) :
 ∃ A n c ss,v = .slice A n c∧Strs w A n c ss:=by
 rcases open_strings Tryz.underlying23 Tryz.underlying9 (by kernel_rfl) h with ⟨hcs,_⟩ | ⟨a,l,c,ss,hcs,_,hl,hm,hz,_,hcell,_⟩
 · simp at hcs
   exact ⟨none,0,0,[],hcs,Sl.nil _ _ _ (by decide)⟩
 · simp at hcs
   exact ⟨some a,l,c,_,hcs,Strs.of_row hl hm (by simpa using hz) hcell⟩
theorem open_rules {fuel:Nat} {v:Value} {x:DataW H × List MemPlace} (h:DataW.trod enc Tryz.prog w base (fun _=>true) held fuel 24 [v]=some x) :
 ∃ A n c rs,v = .slice A n c∧Ruls w A n c rs∧∀ r ∈ rs,∀ s ∈ r.right,InI64 s:=by
 rcases open_slice Tryz.underlying24 h with ⟨hcs,_⟩ | ⟨a,len,cap,m,n,D,Pl,hcs,_,hl,hm,hmm,_,hx⟩
 · simp at hcs
   exact ⟨none,0,0,[],hcs,⟨rfl,Nat.le_refl _,by omega,fun h=>by omega⟩,fun t ht=>by cases ht⟩
 · simp at hcs
   have hlm:len≤m:=by rw [hmm];split <;> omega
   have each:∀ i,∃ r:Rul,i < len→(w.cell? (a.add (i * 3))=some (.int .i64 r.left)∧(∃ Ar cr,w.cell? (a.add (i * 3+1))=some (.slice Ar r.right.length cr)∧Ints .i64 w Ar r.right.length cr r.right)∧w.cell? (a.add (i * 3+2))=some (.int .i64 r.prec)∧∀ s ∈ r.right,InI64 s):=fun i=>by
    by_cases hi:i < len
    · obtain ⟨cs',h1,h2⟩:=hx i (by omega)
      have ce:Tryz.prog.cellsOf 52=3:=by kernel_rfl
      rw [ce] at h1
      obtain ⟨v0,v1,v2,y0,y1,y2,k,q0,q1,q2,g0,g1,g2⟩:=elem3 Tryz.underlying52 ce rfl rfl rfl (by kernel_rfl) (by kernel_rfl) (by kernel_rfl) h1 h2
      obtain ⟨n1,hn1,_,_⟩:=DataW.trod_int Tryz.underlying3 g0
      obtain ⟨Ar,nr,cr,zs,rfl,hI,hw⟩:=open_intsG g1
      obtain ⟨n2,hn2,_,_⟩:=DataW.trod_int Tryz.underlying3 g2
      simp at hn1 hn2
      subst hn1 hn2
      obtain rfl:=hI.len
      exact ⟨⟨n1,zs,n2⟩,fun _=>⟨q0,⟨Ar,cr,q1,hI⟩,q2,hw⟩⟩
    · exact ⟨⟨0,[],0⟩,fun h=>absurd h hi⟩
   obtain ⟨f,hf⟩:=Classical.axiomOfChoice each
   refine ⟨some a,len,cap,(List.range len).map f,hcs,⟨by simp,hl,by simpa [maxLen] using hm,fun h0=>?_⟩,fun t ht=>?_⟩
   · obtain ⟨b,off,spot⟩:=a
     have h00:=(hf 0 h0).1
     have hspot:spot=none:=by simpa [Addr.add] using World.cell?_spot h00
     subst hspot
     rw [addr_add] at h00
     refine ⟨b,off,rfl,by have:=cell_lt h00;simpa using this,fun j t ht=>?_⟩
     rw [List.getElem?_map] at ht
     have hj:j < len:=by
      rcases Nat.lt_or_ge j len with h | h
      · exact h
      · simp [List.getElem?_eq_none (show (List.range len).length≤j by simpa using h)] at ht
     simp [hj] at ht
     subst ht
     obtain ⟨p0,⟨Ar,cr,p1,hI⟩,p2,_⟩:=hf j hj
     rw [addr_add] at p0 p1 p2
     exact ⟨Ar,cr,p0,by rw [Nat.add_assoc];exact p1,by rw [Nat.add_assoc];exact p2,hI⟩
   · obtain ⟨j,hj,rfl⟩:=List.mem_map.1 ht
     exact (hf j (List.mem_range.1 hj)).2.2.2
structure GrIn (w:World) (h:GH) (G:Gr):Prop where
 at_:GrAt w h G
 small:∀ t ∈ G.terms,t.name.size≤maxLen
 start:InI64 G.start
theorem open_grammar {r:Reach} {b0:Nat} {v:Value} {d:DataW H} {p:List MemPlace} (hv:Value.okWide Tryz.prog w r b0 26 v) (h:DataW.Trod enc Tryz.prog w base (fun _=>true) held 26 v d p) :
 ∃ (hh:GH) (G:Gr),v=GV hh G.start∧GrIn w hh G:=by
 obtain ⟨v0,v1,v2,v3,y0,y1,y2,y3,n,rfl,_,_,g0,g1,g2,g3⟩:=Go.Joins.open_agg4 Tryz.underlying26 (by kernel_rfl) (by kernel_rfl) hv h
 obtain ⟨a1,n1,c1,ts,rfl,hT,hs⟩:=open_terms g0
 obtain ⟨a2,n2,c2,ss,rfl,hS⟩:=open_strsG g1
 obtain ⟨a3,n3,c3,rs,rfl,hR,hw⟩:=open_rules g2
 obtain ⟨st,hst,_,hwf⟩:=DataW.trod_int Tryz.underlying3 g3
 simp at hst
 subst hst
 exact ⟨⟨a1,n1,c1,a2,n2,c2,a3,n3,c3⟩,⟨ts,ss,rs,st⟩,rfl,⟨hT,hS,hR,hw⟩,hs,bounds_i64 hwf⟩
end
theorem great_falseC {G:Gr} (h:G.great=false):G.terms.length≤40∧G.nons.length≤40∧G.rules.length≤60∧∀ r ∈ G.rules,r.right.length≤20:=by
 unfold Gr.great at h
 simp at h
 obtain ⟨⟨⟨h1,h2⟩,h3⟩,h4⟩:=h
 exact ⟨h1,h2,h3,h4⟩
end Go.Proofs.YtggbjdmpjidhgaaGreatDoor
