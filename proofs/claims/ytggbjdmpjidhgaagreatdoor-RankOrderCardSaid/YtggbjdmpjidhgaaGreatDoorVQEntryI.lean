/- What a law's walk is told of a slice of integers that came in. -/
import Derived.Test.YtggbjdmpjidhgaaGreatDoorVQKit
import Derived.OpenShut
import Derived.ProofKit
import Derived.Test.YtggbjdmpjidhgaaGreatDoorVQKit5
import Derived.SliceStrings
import Derived.Lib.SmallJoins
import Derived.Deep.Slices
import Derived.Test.YtggbjdmpjidhgaaGreatDoorVQCtA
import Derived.Test.YtggbjdmpjidhgaaGreatDoorVRkA0
set_option linter.unusedVariables false
set_option linter.unusedSimpArgs false
set_option maxHeartbeats 8000000
set_option maxRecDepth 100000
namespace Go.Proofs.YtggbjdmpjidhgaaGreatDoor
open Go.RowKit
open Go.ChangeShapes Go.WideShapes Go.ChangeAt Go.RowKit
def IsRow (k:IntKind) (w:World) (a:Option Addr) (len cap:Nat) (b:List Int):Prop :=
 (a=none∧len=0∧cap=0∧b=[]) ∨
 ∃ x,a=some x∧len≤cap∧cap≤maxLen∧b.length=cap∧(∀ i,i < b.length→w.cell? (x.add i)=some (.int k (b.getD i 0)))∧∀ n ∈ b,(Lit.int k n).wf=true
theorem cell_lt {w:World} {b c:Nat} {v:Value} (h:w.cell? ⟨b,c,none⟩=some v):b < w.heap.size:=by
 rcases Nat.lt_or_ge b w.heap.size with a | a
 · exact a
 · simp [World.cell?,Array.getElem?_eq_none a] at h
theorem IsRow.ints {k:IntKind} {w:World} {a:Option Addr} {len cap:Nat} {c:List Int} (h:IsRow k w a len cap c) :
 ∃ xs:List Int,Ints k w a len cap xs∧∀ x ∈ xs,(Lit.int k x).wf=true:=by
 rcases h with ⟨rfl,rfl,rfl,rfl⟩ | ⟨x,rfl,p,q,A,l,t⟩
 · exact ⟨[],Ints.nil _ _ _ _ (by simp),fun x u=>by cases u⟩
 · have g:(c.take len).length=len:=by rw [List.length_take];omega
   have o:∀ j,j < len→(c.take len)[j]? = some (c.getD j 0):=fun j d=>by
    rw [List.getElem?_take,if_pos d,List.getD_eq_getElem?_getD,List.getElem?_eq_getElem (by omega)]
    rfl
   refine ⟨c.take len,⟨?_,p,by simpa [maxLen] using q,fun r=>?_⟩,fun z v=>t z (List.mem_of_mem_take v)⟩
   · rw [ints_length,g]
   · rw [ints_length,g] at r
     obtain ⟨b,f,y⟩:=x
     have h0:=l 0 (by omega)
     have s:y=none:=by simpa [Addr.add] using World.cell?_spot h0
     subst s
     have n:w.cell? ⟨b,f,none⟩=some (.int k (c.getD 0 0)):=by simpa [Addr.add] using h0
     refine ⟨b,f,rfl,cell_lt n,fun j d=>?_⟩
     rw [ints_length,g] at d
     have m:=l j (by omega)
     have e:(⟨b,f,none⟩:Addr).add j=⟨b,f+j,none⟩:=by
      unfold Addr.add
      split
      · rename_i h0;subst h0;rfl
      · rfl
     rw [e] at m
     rw [m]
     simp only [Go.Proofs.YtggbjdmpjidhgaaGreatDoor.ints,List.getElem?_map,o j d,Option.map_some]
open Go.ChangeShapes Go.WideShapes Go.ChangeAt Go.RowKit
theorem Strs.of_row {w:World} {x:Addr} {len cap:Nat} {ss:List ByteArray} (k:len≤cap) (l:cap≤maxLen) (p:ss.length=cap)
 (d:∀ i,i < ss.length→w.cell? (x.add i)=some (.string (ss.getD i ByteArray.empty))):Strs w (some x) len cap (ss.take len):=by
 have c:(ss.take len).length=len:=by rw [List.length_take];omega
 refine ⟨by rw [List.length_map,c],k,by simpa [maxLen] using l,fun m=>?_⟩
 rw [List.length_map,c] at m
 obtain ⟨b,a,o⟩:=x
 have h0:=d 0 (by omega)
 have n:o=none:=by simpa [Addr.add] using World.cell?_spot h0
 subst n
 have h:w.cell? ⟨b,a,none⟩=some (.string (ss.getD 0 ByteArray.empty)):=by simpa [Addr.add] using h0
 refine ⟨b,a,rfl,cell_lt h,fun j f=>?_⟩
 rw [List.length_map,c] at f
 have g:=d j (by omega)
 have e:(⟨b,a,none⟩:Addr).add j=⟨b,a+j,none⟩:=by
  unfold Addr.add
  split
  · rename_i h0;subst h0;rfl
  · rfl
 rw [e] at g
 rw [g,List.getElem?_map,List.getElem?_take,if_pos f,List.getElem?_eq_getElem (by omega),List.getD_eq_getElem?_getD,List.getElem?_eq_getElem (by omega)]
 rfl
open Go.ChangeShapes Go.WideShapes Go.ChangeAt Go.RowKit Go.Lib Go.Deep
section
variable {H:Type} {enc:TypeId × Value→H} {w:World} {base:Nat} {sp:Nat→Bool} {held:Bool}
theorem addr_add (b a i:Nat):(⟨b,a,none⟩:Addr).add i=⟨b,a+i,none⟩:=by
 unfold Addr.add
 split
 · rename_i h;subst h;rfl
 · rfl
theorem elem3 {P:Program} {e:TypeId} {b c d:Field} (v:P.underlying e=some (.struct #[b,c,d])) (C:P.cellsOf e=3) (z:b.offset=0) (A:c.offset=1) (B:d.offset=2) (c0:P.cellsOf b.type=1) (c1:P.cellsOf c.type=1) (c2:P.cellsOf d.type=1)
 {a:Addr} {i n:Nat} {cs:List Value} {y:DataW H × List MemPlace} (h1:w.cells? base (a.add (i * 3)) 3=some cs) (u:DataW.trod enc P w base sp held n e cs=some y) :
 ∃ f g h l m o k,w.cell? (a.add (i * 3))=some f∧w.cell? (a.add (i * 3+1))=some g∧w.cell? (a.add (i * 3+2))=some h ∧
   DataW.trod enc P w base sp held k b.type [f]=some l∧DataW.trod enc P w base sp held k c.type [g]=some m∧DataW.trod enc P w base sp held k d.type [h]=some o:=by
 obtain ⟨_,x,j⟩:=World.cells?_some h1
 obtain ⟨l,m,o,k,_,_,g0,s,t⟩:=trod_struct3 v u
 match cs,x with
 | [f,g,h],_ =>
   have p:=j 0 (by omega)
   have q:=j 1 (by omega)
   have r:=j 2 (by omega)
   rw [Addr.add_add] at p q r
   simp [z,A,B,c0,c1,c2] at g0 s t
   exact ⟨f,g,h,l,m,o,k,by simpa using p,by simpa using q,by simpa using r,g0,s,t⟩
theorem open_terms {fuel:Nat} {v:Value} {x:DataW H × List MemPlace} (h:DataW.trod enc Tryz.prog w base sp held fuel 22 [v]=some x) :
 ∃ A n c ts,v = .slice A n c∧Trms w A n c ts∧∀ t ∈ ts,t.name.size≤maxLen:=by
 rcases open_slice Tryz.underlying22 h with ⟨g,_⟩ | ⟨a,len,cap,m,n,D,U,g,_,G,I,J,_,N⟩
 · simp at g
   exact ⟨none,0,0,[],g,⟨rfl,Nat.le_refl _,by omega,fun h=>by omega⟩,fun t d=>by cases d⟩
 · simp at g
   have W:len≤m:=by rw [J];split <;> omega
   have each:∀ i,∃ t:Trm,i < len→w.cell? (a.add (i * 3))=some (.string t.name)∧w.cell? (a.add (i * 3+1))=some (.int .i64 t.level)∧w.cell? (a.add (i * 3+2))=some (.int .i64 t.assoc)∧t.name.size≤maxLen:=fun i=>by
    by_cases hi:i < len
    · obtain ⟨V,h1,F⟩:=N i (by omega)
      have q:Tryz.prog.cellsOf 91=3:=by kernel_rfl
      rw [q] at h1
      obtain ⟨X,Y,Z,y0,y1,y2,k,P,R,S,g0,C,E⟩:=elem3 Tryz.underlying91 q rfl rfl rfl (by kernel_rfl) (by kernel_rfl) (by kernel_rfl) h1 F
      obtain ⟨s,y,_,M⟩:=DataW.trod_string Tryz.underlying9 g0
      obtain ⟨n1,r,_,_⟩:=DataW.trod_int Tryz.underlying3 C
      obtain ⟨n2,u,_,_⟩:=DataW.trod_int Tryz.underlying3 E
      simp at y r u
      subst y r u
      exact ⟨⟨s,n1,n2⟩,fun _=>⟨P,R,S,M⟩⟩
    · exact ⟨⟨ByteArray.empty,0,0⟩,fun h=>absurd h hi⟩
   obtain ⟨f,p⟩:=Classical.axiomOfChoice each
   refine ⟨some a,len,cap,(List.range len).map f,g,⟨by simp,G,by simpa [maxLen] using I,fun h0=>?_⟩,fun t d=>?_⟩
   · obtain ⟨b,O,T⟩:=a
     have o:=(p 0 h0).1
     have L:T=none:=by simpa [Addr.add] using World.cell?_spot o
     subst L
     rw [addr_add] at o
     refine ⟨b,O,rfl,by have:=cell_lt o;simpa using this,fun j t d=>?_⟩
     rw [List.getElem?_map] at d
     have l:j < len:=by
      rcases Nat.lt_or_ge j len with h | h
      · exact h
      · simp [List.getElem?_eq_none (show (List.range len).length≤j by simpa using h)] at d
     simp [l] at d
     subst d
     obtain ⟨p0,z,B,_⟩:=p j l
     rw [addr_add] at p0 z B
     exact ⟨p0,by rw [Nat.add_assoc];exact z,by rw [Nat.add_assoc];exact B⟩
   · obtain ⟨j,l,rfl⟩:=List.mem_map.1 d
     exact (p j (List.mem_range.1 l)).2.2.2
end
open Go.ChangeShapes Go.WideShapes Go.ChangeAt Go.RowKit Go.Lib Go.Deep
section
variable {H:Type} {enc:TypeId × Value→H} {w:World} {base:Nat} {held:Bool}
theorem open_intsG {fuel:Nat} {v:Value} {x:DataW H × List MemPlace} (h:DataW.trod enc Tryz.prog w base (fun _=>true) held fuel 27 [v]=some x) :
 ∃ A n c f,v = .slice A n c∧Ints .i64 w A n c f∧∀ z ∈ f,InI64 z:=by
 rcases open_ints Tryz.underlying27 Tryz.underlying3 (by kernel_rfl) h with ⟨b,_⟩ | ⟨a,len,cap,f,b,_,l,m,d,_,j,p⟩
 · simp at b
   exact ⟨none,0,0,[],b,Ints.nil _ _ _ _ (by omega),fun z d=>by cases d⟩
 · simp at b
   obtain ⟨xs,g,o⟩:=IsRow.ints (k := .i64) (w:=w) (.inr ⟨a,rfl,l,m,by simpa using d,j,p⟩:IsRow .i64 w (some a) len cap f)
   exact ⟨some a,len,cap,xs,b,g,fun z d=>bounds_i64 (o z d)⟩
theorem open_strsG {fuel:Nat} {v:Value} {x:DataW H × List MemPlace} (h:DataW.trod enc Tryz.prog w base (fun _=>true) held fuel 23 [v]=some x) :
 ∃ A n c ss,v = .slice A n c∧Strs w A n c ss:=by
 rcases open_strings Tryz.underlying23 Tryz.underlying9 (by kernel_rfl) h with ⟨b,_⟩ | ⟨a,l,c,ss,b,_,f,g,j,_,d,_⟩
 · simp at b
   exact ⟨none,0,0,[],b,Sl.nil _ _ _ (by decide)⟩
 · simp at b
   exact ⟨some a,l,c,_,b,Strs.of_row f g (by simpa using j) d⟩
theorem open_rules {fuel:Nat} {v:Value} {x:DataW H × List MemPlace} (h:DataW.trod enc Tryz.prog w base (fun _=>true) held fuel 24 [v]=some x) :
 ∃ A n c E,v = .slice A n c∧Ruls w A n c E∧∀ r ∈ E,∀ s ∈ r.right,InI64 s:=by
 rcases open_slice Tryz.underlying24 h with ⟨g,_⟩ | ⟨a,len,cap,m,n,D,X,g,_,J,L,M,_,P⟩
 · simp at g
   exact ⟨none,0,0,[],g,⟨rfl,Nat.le_refl _,by omega,fun h=>by omega⟩,fun t d=>by cases d⟩
 · simp at g
   have Z:len≤m:=by rw [M];split <;> omega
   have each:∀ i,∃ r:Rul,i < len→(w.cell? (a.add (i * 3))=some (.int .i64 r.left)∧(∃ Ar cr,w.cell? (a.add (i * 3+1))=some (.slice Ar r.right.length cr)∧Ints .i64 w Ar r.right.length cr r.right)∧w.cell? (a.add (i * 3+2))=some (.int .i64 r.prec)∧∀ s ∈ r.right,InI64 s):=fun i=>by
    by_cases hi:i < len
    · obtain ⟨Y,h1,I⟩:=P i (by omega)
      have u:Tryz.prog.cellsOf 52=3:=by kernel_rfl
      rw [u] at h1
      obtain ⟨v0,v1,v2,y0,y1,y2,k,S,T,U,g0,F,G⟩:=elem3 Tryz.underlying52 u rfl rfl rfl (by kernel_rfl) (by kernel_rfl) (by kernel_rfl) h1 I
      obtain ⟨n1,y,_,_⟩:=DataW.trod_int Tryz.underlying3 g0
      obtain ⟨Ar,nr,cr,W,rfl,l,O⟩:=open_intsG F
      obtain ⟨n2,z,_,_⟩:=DataW.trod_int Tryz.underlying3 G
      simp at y z
      subst y z
      obtain rfl:=l.len
      exact ⟨⟨n1,W,n2⟩,fun _=>⟨S,⟨Ar,cr,T,l⟩,U,O⟩⟩
    · exact ⟨⟨0,[],0⟩,fun h=>absurd h hi⟩
   obtain ⟨f,q⟩:=Classical.axiomOfChoice each
   refine ⟨some a,len,cap,(List.range len).map f,g,⟨by simp,J,by simpa [maxLen] using L,fun h0=>?_⟩,fun t d=>?_⟩
   · obtain ⟨b,R,V⟩:=a
     have p:=(q 0 h0).1
     have N:V=none:=by simpa [Addr.add] using World.cell?_spot p
     subst N
     rw [addr_add] at p
     refine ⟨b,R,rfl,by have:=cell_lt p;simpa using this,fun j t d=>?_⟩
     rw [List.getElem?_map] at d
     have o:j < len:=by
      rcases Nat.lt_or_ge j len with h | h
      · exact h
      · simp [List.getElem?_eq_none (show (List.range len).length≤j by simpa using h)] at d
     simp [o] at d
     subst d
     obtain ⟨p0,⟨Ar,cr,B,l⟩,C,_⟩:=q j o
     rw [addr_add] at p0 B C
     exact ⟨Ar,cr,p0,by rw [Nat.add_assoc];exact B,by rw [Nat.add_assoc];exact C,l⟩
   · obtain ⟨j,o,rfl⟩:=List.mem_map.1 d
     exact (q j (List.mem_range.1 o)).2.2.2
structure GrIn (w:World) (h:GH) (G:Gr):Prop where
 at_:GrAt w h G
 small:∀ t ∈ G.terms,t.name.size≤maxLen
 start:InI64 G.start
theorem open_grammar {r:Reach} {b0:Nat} {v:Value} {d:DataW H} {p:List MemPlace} (o:Value.okWide Tryz.prog w r b0 26 v) (h:DataW.Trod enc Tryz.prog w base (fun _=>true) held 26 v d p) :
 ∃ (a:GH) (G:Gr),v=GV a G.start∧GrIn w a G:=by
 obtain ⟨x,y,z,A,B,C,D,E,n,rfl,_,_,g0,c,f,g⟩:=Go.Joins.open_agg4 Tryz.underlying26 (by kernel_rfl) (by kernel_rfl) o h
 obtain ⟨a1,n1,c1,ts,rfl,l,m⟩:=open_terms g0
 obtain ⟨a2,n2,c2,ss,rfl,k⟩:=open_strsG c
 obtain ⟨a3,n3,c3,t,rfl,j,q⟩:=open_rules f
 obtain ⟨u,b,_,s⟩:=DataW.trod_int Tryz.underlying3 g
 simp at b
 subst b
 exact ⟨⟨a1,n1,c1,a2,n2,c2,a3,n3,c3⟩,⟨ts,ss,t,u⟩,rfl,⟨l,k,j,q⟩,m,bounds_i64 s⟩
end
theorem great_falseC {G:Gr} (h:G.great=false):G.terms.length≤40∧G.nons.length≤40∧G.rules.length≤60∧∀ r ∈ G.rules,r.right.length≤20:=by
 unfold Gr.great at h
 simp at h
 obtain ⟨⟨⟨h1,a⟩,b⟩,c⟩:=h
 exact ⟨h1,a,b,c⟩
theorem u32_natR {a:Int} (h:(Lit.int .u32 a).wf=true):∃ n:Nat,a=(n:Int)∧n < 4294967296:=by
 have h0:0≤a∧a≤4294967295:=by
  simpa [Lit.wf,IntKind.min,IntKind.max,IntKind.bits,IntKind.signed] using h
 exact ⟨a.toNat,by omega,by omega⟩
theorem quiet_eqR {P:Program} {f:FuncId} {args:Array Value} {w:World} {n:Nat} {v:Value}
 (h:Calls P f args (w.drewN n) fun e w'=>e = .returned v∧Same (w.drewN n) w'):Calls P f args (w.drewN n) fun e c=>e = .returned v∧∃ m,c=w.drewN m :=
 h.mono fun _ _ ⟨a,b⟩=>⟨a,by
   obtain ⟨k,rfl⟩:=b
   exact ⟨n+k,by rw [World.drewN_drewN]⟩⟩
abbrev UnrC (h:GH) (G:Gr) (k:Int) (w:World):Prop:=∀ (a:List Nat) (A:Option Addr) (c:Nat) (X:World),Nums .u32 X A a.length c a→Lim a→Below w.heap.size w X →
 Calls Tryz.prog 35 #[GV h G.start, .int .i64 k, .slice A a.length c] X fun e w'=>Below w.heap.size w w'∧Hid (Below X.heap.size X w') ∧
  ∃ (b:List Nat) (g:Nat) (d:Option Addr) (f:Nat),e = .returned (.tuple #[.slice d b.length f, .int .i64 (g:Int)])∧Hid (Ints .i64 w' d b.length f (b.map fun i:Nat=>(i:Int)))∧Hid (UnrIs G k a b g)
theorem unr_c {h:GH} {G:Gr} {w:World} (k:Int) (n:GrAt w h G) (q:∀ t ∈ G.terms,t.name.size≤maxLen) (m:TabAt w) (h1:h.n1≤100) (a:h.n2≤100) (b:h.n3≤100):UnrC h G k w:=fun s A c X p o d =>
 (tr_Unrank h G k A c s X (n.below d) q (m.below d) h1 a b p o).mono fun e w' ⟨h1,r,j,f,g,a,b,l⟩=>⟨below_tail d h1,LH h1,r,j,f,g,a,LH b,LH l⟩
abbrev OfC (x:Nat) (w:World):Prop:=∀ X,Below w.heap.size w X→Calls Tryz.prog 38 #[.int .u64 (x:Int)] X fun e w'=>Below w.heap.size w w'∧Hid (Below X.heap.size X w')∧∃ A c,e = .returned (.slice A (limbs x).length c)∧Hid (Nums .u32 w' A (limbs x).length c (limbs x))
theorem of_c {x:Nat} (f:x < 18446744073709551616) (w:World):OfC x w:=fun X d=>(ref_of_n x X f).mono fun e w' ⟨A,c,h1,b,a⟩=>⟨below_tail d a,LH a,A,c,h1,LH b⟩
theorem rankOrder_walk (h:GH) (G:Gr) (x y:Int) (w:World) (bs:GrIn w h G) (hx:(Lit.int .u8 x).wf=true) (hy:(Lit.int .u32 y).wf=true) (av:TabAt w) :
 Calls Tryz.prog 9 #[GV h G.start, .int .u8 x, .int .u32 y] w fun e w'=>e = .returned (.bool true)∧Below w.heap.size w w':=by
 obtain ⟨x0,rfl,cf⟩:=u8_natC hx
 obtain ⟨l,rfl,ce⟩:=u32_natR hy
 obtain ⟨v,hs,bt⟩:=bs
 obtain ⟨a1,n1,c1,a2,n2,c2,a3,n3,c3⟩:=h
 have e1:G.terms.length=n1:=v.terms.len
 have e2:G.nons.length=n2:=v.nons.len
 have e3:G.rules.length=n3:=v.rules.len
 have S:=alloc_below w (.cells #[.slice a1 n1 c1, .slice a2 n2 c2, .slice a3 n3 c3, .int .i64 G.start] 26)
 have ax:=GBox.new w 26 ⟨a1,n1,c1,a2,n2,c2,a3,n3,c3⟩ G.start
 have CA:=LH alive23
 have R:=LH v
 have Hs:=LH hs
 have O:=LH av
 clear bt v hs hx hy av
 go_enter Tryz.func9,Tryz.ntmps9
 go_wp2_with fail
 generalize w.alloc (.cells #[.slice a1 n1 c1, .slice a2 n2 c2, .slice a3 n3 c3, .int .i64 G.start] 26)=W0 at *
 (with_reducible refine (CA.out W0 (O.out.below S)).mono ?_)
 rintro e W1 ⟨rfl,F⟩
 have T:=below_tail S F
 have U:=ax.below F
 have ⟨q5,q0,q1,q2,q3⟩:=U
 simp only [] at q0 q1 q2 q3
 have B:=LH (rf_great ⟨a1,n1,c1,a2,n2,c2,a3,n3,c3⟩ G W1 (R.out.below T))
 have ae:=LH T
 have P:=LH U
 clear ax U F S T
 rcases z:G.great with _ | _
 case true =>
  rw [z] at B
  clear z
  go_wp2_with (go_at_call 14;(with_reducible refine B.out.mono ?_);rintro e f ⟨rfl,r⟩)
  go_ret
  exact ⟨rfl,below_tail ae.out r⟩
 obtain ⟨l1,l2,l3,_⟩:=great_falseC z
 rw [e1] at l1
 rw [e2] at l2
 rw [e3] at l3
 rw [z] at B
 obtain ⟨k,hk,cb⟩:∃ k:Nat,(x0:Int) % 8=(k:Int)∧k≤7:=⟨x0 % 8,by omega,by omega⟩
 clear z e1 e2 e3
 go_upto_region 6 with (first
  | (go_at_call 14
     (with_reducible refine B.out.mono ?_)
     rintro e f ⟨rfl,r⟩
     have H:=LH (below_tail ae.out r)
     have D:=LH (P.out.below r)
     clear q0 q1 q2 q3 q5 r))
 have ⟨y5,y0,y1,y2,y3⟩:=D.out
 simp only [] at y0 y1 y2 y3
 have ab:Hid (∀ (p:List Nat) (A:Option Addr) (c:Nat) (X:World),Nums .u32 X A p.length c p→Lim p→Below f.heap.size f X→Calls Tryz.prog 35 #[.agg #[.slice a1 n1 c1, .slice a2 n2 c2, .slice a3 n3 c3, .int .i64 G.start], .int .i64 (k:Int), .slice A p.length c] X fun e w'=>Below f.heap.size f w'∧Hid (Below X.heap.size X w') ∧
  ∃ (q:List Nat) (u:Nat) (s:Option Addr) (t:Nat),e = .returned (.tuple #[.slice s q.length t, .int .i64 (u:Int)])∧Hid (Ints .i64 w' s q.length t (q.map fun i:Nat=>(i:Int)))∧Hid (UnrIs G k p q u)):=LH (unr_c (h:=⟨a1,n1,c1,a2,n2,c2,a3,n3,c3⟩) (k:Int) (R.out.below H.out) Hs.out (O.out.below H.out) (by simp only [];omega) (by simp only [];omega) (by simp only [];omega))
 have Y:Hid (∀ X,Below f.heap.size f X→Calls Tryz.prog 38 #[.int .u64 (l:Int)] X fun e w'=>Below f.heap.size f w'∧Hid (Below X.heap.size X w')∧∃ A c,e = .returned (.slice A (limbs l).length c)∧Hid (Nums .u32 w' A (limbs l).length c (limbs l))):=LH (of_c (x:=l) (by omega) f)
 have ah:Hid (∀ d,Below f.heap.size f d→d.cell? ⟨w.heap.size,0,none⟩=some (.slice a1 n1 c1)∧d.cell? ⟨w.heap.size,1,none⟩=some (.slice a2 n2 c2)∧d.cell? ⟨w.heap.size,2,none⟩=some (.slice a3 n3 c3)∧d.cell? ⟨w.heap.size,3,none⟩=some (.int .i64 G.start)∧Below f.heap.size f d):=LH fun d n=>⟨by rw [n.cell (by exact y5)];exact y0,by rw [n.cell (by exact y5)];exact y1,by rw [n.cell (by exact y5)];exact y2,by rw [n.cell (by exact y5)];exact y3,n⟩
 have V:IntKind.u64.wrap (l:Int)=(l:Int):=IntWalk.u64_in _ (by omega)
 have W:IntKind.u64.wrap ((l:Int)+1)=(l:Int)+1:=IntWalk.u64_in _ (by omega)
 go_region_held3 (fun d=>d.cell? ⟨w.heap.size,0,none⟩=some (.slice a1 n1 c1)∧d.cell? ⟨w.heap.size,1,none⟩=some (.slice a2 n2 c2)∧d.cell? ⟨w.heap.size,2,none⟩=some (.slice a3 n3 c3)∧d.cell? ⟨w.heap.size,3,none⟩=some (.int .i64 G.start)∧Below f.heap.size f d)
  ((refine ah.out _ ?_;(repeat (first | assumption | exact Below.refl _ _ | refine Below.drew ?_));done))
  (first
    | (go_at_call 38;with_reducible refine (Y.out _ (by (repeat (first | assumption | exact Below.refl _ _ | refine Below.drew ?_)))).mono ?_;rintro e v1 ⟨bg,bn,b3,ch,rfl,af⟩)
    | (go_at_call 35;with_reducible refine (ab.out _ _ _ _ (af.out.below (by (repeat (first | assumption | exact Below.refl _ _ | refine Below.drew ?_)))) (limbs_lim _) (by (repeat (first | assumption | exact Below.refl _ _ | refine Below.drew ?_)))).mono ?_;rintro e g ⟨J,P,cj,ar,b5,a8,rfl,bi,bj⟩))
 have C:=LH (below_tail H.out J)
 have bl:=LH (show Below f.heap.size f g from J)
 clear V W ab Y ah y0 y1 y2 y3 y5 J P bg bn af
 have b7:=C
 have bp:=LH (D.out.below bl.out)
 go_upto_region 7 with fail
 have ⟨y5,y0,y1,y2,y3⟩:=bp.out
 simp only [] at y0 y1 y2 y3
 have ad:Hid (∀ (p:List Nat) (A:Option Addr) (c:Nat) (X:World),Nums .u32 X A p.length c p→Lim p→Below g.heap.size g X→Calls Tryz.prog 35 #[.agg #[.slice a1 n1 c1, .slice a2 n2 c2, .slice a3 n3 c3, .int .i64 G.start], .int .i64 (k:Int), .slice A p.length c] X fun e w'=>Below g.heap.size g w'∧Hid (Below X.heap.size X w') ∧
  ∃ (q:List Nat) (u:Nat) (s:Option Addr) (t:Nat),e = .returned (.tuple #[.slice s q.length t, .int .i64 (u:Int)])∧Hid (Ints .i64 w' s q.length t (q.map fun i:Nat=>(i:Int)))∧Hid (UnrIs G k p q u)):=LH (unr_c (h:=⟨a1,n1,c1,a2,n2,c2,a3,n3,c3⟩) (k:Int) (R.out.below C.out) Hs.out (O.out.below C.out) (by simp only [];omega) (by simp only [];omega) (by simp only [];omega))
 have Z:Hid (∀ X,Below g.heap.size g X→Calls Tryz.prog 38 #[.int .u64 ((l:Int)+1)] X fun e w'=>Below g.heap.size g w'∧Hid (Below X.heap.size X w')∧∃ A c,e = .returned (.slice A (limbs (l+1)).length c)∧Hid (Nums .u32 w' A (limbs (l+1)).length c (limbs (l+1)))):=LH (of_c (x:=(l+1)) (by omega) g)
 have ai:Hid (∀ d,Below g.heap.size g d→d.cell? ⟨w.heap.size,0,none⟩=some (.slice a1 n1 c1)∧d.cell? ⟨w.heap.size,1,none⟩=some (.slice a2 n2 c2)∧d.cell? ⟨w.heap.size,2,none⟩=some (.slice a3 n3 c3)∧d.cell? ⟨w.heap.size,3,none⟩=some (.int .i64 G.start)∧Below g.heap.size g d):=LH fun d n=>⟨by rw [n.cell (by exact y5)];exact y0,by rw [n.cell (by exact y5)];exact y1,by rw [n.cell (by exact y5)];exact y2,by rw [n.cell (by exact y5)];exact y3,n⟩
 have V:IntKind.u64.wrap (l:Int)=(l:Int):=IntWalk.u64_in _ (by omega)
 have W:IntKind.u64.wrap ((l:Int)+1)=(l:Int)+1:=IntWalk.u64_in _ (by omega)
 go_region_held3 (fun d=>d.cell? ⟨w.heap.size,0,none⟩=some (.slice a1 n1 c1)∧d.cell? ⟨w.heap.size,1,none⟩=some (.slice a2 n2 c2)∧d.cell? ⟨w.heap.size,2,none⟩=some (.slice a3 n3 c3)∧d.cell? ⟨w.heap.size,3,none⟩=some (.int .i64 G.start)∧Below g.heap.size g d)
  ((refine ai.out _ ?_;(repeat (first | assumption | exact Below.refl _ _ | refine Below.drew ?_));done))
  (first
    | (go_at_call 38;with_reducible refine (Z.out _ (by (repeat (first | assumption | exact Below.refl _ _ | refine Below.drew ?_)))).mono ?_;rintro e v2 ⟨bh,bo,b4,ci,rfl,ag⟩)
    | (go_at_call 35;with_reducible refine (ad.out _ _ _ _ (ag.out.below (by (repeat (first | assumption | exact Below.refl _ _ | refine Below.drew ?_)))) (limbs_lim _) (by (repeat (first | assumption | exact Below.refl _ _ | refine Below.drew ?_)))).mono ?_;rintro e E ⟨L,D,ck,au,b6,a9,rfl,N,bk⟩))
 have I:=LH (below_tail C.out L)
 have bm:=LH (show Below g.heap.size g E from L)
 clear V W ad Z ai y0 y1 y2 y3 y5 L D bh bo ag
 have M:=LH (bi.out.below bm.out)
 by_cases ay:ar=0
 case neg =>
  have i1:((ar:Int) != 0)=true:=by rw [bne_iff_ne];omega
  clear ay
  go_wp2_with fail
  go_ret
  exact ⟨rfl,I.out⟩
 subst ay
 have i1:(((0:Nat):Int) != 0)=false:=rfl
 by_cases az:au=0
 case neg =>
  have i2:((au:Int) != 0)=true:=by rw [bne_iff_ne];omega
  clear az
  go_wp2_with fail
  go_ret
  exact ⟨rfl,I.out⟩
 subst az
 obtain ⟨a4,a,o,b,o',rfl,rfl,aw⟩:=bj.out.next bk.out (by rw [val_limbs,val_limbs])
 have a0:(((a::o).map fun i:Nat=>(i:Int)) == ((b::o').map fun i:Nat=>(i:Int)))=false:=by
  rw [beq_eq_false_iff_ne]
  exact fun h=>a4 (map_castN h)
 obtain ⟨b1,o1,v1,rfl,F,ak,r1⟩:=M.out.get (j:=0) (by simp)
 obtain ⟨b2,o2,v2,rfl,r,al,r2⟩:=N.out.get (j:=0) (by simp)
 obtain rfl:(a:Int)=v1:=by have:=ak.out;simpa using this
 obtain rfl:(b:Int)=v2:=by have:=al.out;simpa using this
 rw [Nat.add_zero] at r1 r2
 have b8:=M.out.cap
 have b9:=N.out.cap
 have CI:Hid (∀ m,Calls Tryz.prog 37 #[.slice (some ⟨b1,o1,none⟩) (a::o).length a8, .slice (some ⟨b2,o2,none⟩) (b::o').length a9] (E.drewN m) fun e w'=>e = .returned (.bool false)∧Same (E.drewN m) w'):=LH fun m=>by
  have:=ref_ints (some ⟨b1,o1,none⟩) _ a8 _ (some ⟨b2,o2,none⟩) _ a9 _ (E.drewN m) (M.out.drewN m) (N.out.drewN m)
  rwa [a0] at this
 simp only [List.length_cons] at CI
 have cc:decide ((a:Int)≤(b:Int))=true:=decide_eq_true (by omega)
 have cd:a≤b:=aw
 clear a4 a0 ak al aw
 go_upto_region 10 with fail
 go_quiet ((go_at_call 37;(with_reducible exact quiet_eqR (CI.out _))))
 go_wp2_with fail
 go_ret
 exact ⟨by simp,below_drewN I.out _⟩
end Go.Proofs.YtggbjdmpjidhgaaGreatDoor
