/- ranks: the program's book of counts, in memory. -/
import Derived.Test.YtggbjdmpjidhgaaGreatDoorVQCtM1
import Derived.Test.YtggbjdmpjidhgaaGreatDoorVQKit5
import Derived.Test.YtggbjdmpjidhgaaGreatDoorVQCtP4
import Derived.Test.YtggbjdmpjidhgaaGreatDoorVQCtW11
import Derived.Test.YtggbjdmpjidhgaaGreatDoorVCtX1
import Derived.Test.YtggbjdmpjidhgaaGreatDoorVQCtW5
set_option linter.unusedVariables false
set_option linter.unusedSimpArgs false
set_option maxHeartbeats 8000000
set_option maxRecDepth 100000
namespace Go.Proofs.YtggbjdmpjidhgaaGreatDoor
open Go.RowKit
open Go.Maps (Keyed IsMap Tidy)
theorem Tryz.rowKB:(223:TypeId) < Tryz.prog.types.size:=of_decide_eq_true (by kernel_rfl)
theorem Tryz.wideKB:(match Tryz.prog.underlying 223 with | some (.array _ _) | some (.struct _)=>true | _=>false)=true:=by kernel_rfl
theorem Tryz.keyKB:Keyed Tryz.prog 223:=Keyed.of_law (deep_law_laid Tryz.laidOut (m:=2) (by omega) Tryz.rowKB (by kernel_rfl) Tryz.wideKB)
def symT (l:List Int):List Nat:=l.map fun s=>(s+16).toNat
def kB (l:List Int) (n:Nat):Value := .agg #[.string (str (symT l)), .int .i64 (n:Int)]
def SymOK (l:List Int):Prop:=∀ s ∈ l,-16≤s∧s < 40
theorem symT_lt {l:List Int} (h:SymOK l):∀ c ∈ symT l,c < 56:=by
 intro c a
 obtain ⟨s,b,rfl⟩:=List.mem_map.1 a
 have:=h s b
 omega
theorem symT_inj:∀ {l m:List Int},SymOK l→SymOK m→symT l=symT m→l=m
 | [],[],_,_,_=>rfl
 | [],s::m,_,_,h=>by cases h
 | s::l,[],_,_,h=>by cases h
 | s::l,t::m,hl,hm,h=>by
   have h1:=hl s (List.mem_cons_self ..)
   have b:=hm t (List.mem_cons_self ..)
   unfold symT at h
   rw [List.map_cons,List.map_cons] at h
   injection h with h3 h4
   have e:s=t:=by omega
   rw [e,symT_inj (fun q a=>hl q (List.mem_cons_of_mem _ a)) (fun q a=>hm q (List.mem_cons_of_mem _ a)) h4]
theorem kB_inj {l b:List Int} {n g:Nat} (d:SymOK l) (f:SymOK b) (h:kB l n=kB b g):l=b∧n=g:=by
 unfold kB at h
 simp only [Value.agg.injEq,Array.mk.injEq,List.cons.injEq,Value.string.injEq,Value.int.injEq,true_and,and_true] at h
 have h1:=congrArg bytesOf h.1
 rw [bytesOf_str _ fun c a=>by have:=symT_lt d c a;omega,bytesOf_str _ fun c a=>by have:=symT_lt f c a;omega] at h1
 exact ⟨symT_inj d f h1,by omega⟩
theorem keyOf_kB {l:List Int} {n:Nat} (h1:l.length≤100) (j:n≤1000):∃ q,keyOf Tryz.prog 223 (kB l n)=some q:=by
 have a:Tryz.prog.keyType 223=true:=by kernel_rfl
 have b:Tryz.prog.cellsOf 223=2:=by kernel_rfl
 have c:Tryz.prog.cellsOf 3=1:=by kernel_rfl
 have d:Tryz.prog.cellsOf 9=1:=by kernel_rfl
 have w1:(str (symT l)).size≤100:=by rw [str_size];unfold symT;rw [List.length_map];exact h1
 have g:(Lit.int .i64 (n:Int)).wf=true:=wf_small (by omega) (by omega)
 have h:(str (symT l)).size≤maxLen:=by unfold maxLen;omega
 obtain ⟨m,f⟩:=size_two Tryz.rowKB (by decide)
 unfold keyOf kB
 rw [f]
 simp [Tryz.underlying223,a,Value.formed,b,Program.keyLits,Value.cells,c,d,Tryz.underlying3,Tryz.underlying9,g,h]
def SCell (w:World) (b x:Nat):Prop:=∃ A n c d,Blk w b 174 #[.slice A n c, .bool d]∧ValN w A n c d x
theorem SCell.lt {w:World} {b x:Nat} (h:SCell w b x):b < w.heap.size:=by
 obtain ⟨A,n,c,d,h1,_⟩:=h
 exact h1.lt
theorem SCell.kept {w w':World} {b x:Nat} (h:SCell w b x) (g:IntKeep w w') (f:w'.heap[b]? = w.heap[b]?):SCell w' b x:=by
 obtain ⟨A,n,c,d,h1,a⟩:=h
 exact ⟨A,n,c,d,f.trans h1,a.kept g⟩
def encT:List Nat→Nat
 | []=>0
 | c::l=>(c+1)+64 * encT l
theorem encT_inj:∀ {l m:List Nat},(∀ c ∈ l,c < 60)→(∀ c ∈ m,c < 60)→encT l=encT m→l=m
 | [],[],_,_,_=>rfl
 | [],c::m,_,_,h=>by unfold encT at h;omega
 | c::l,[],_,_,h=>by unfold encT at h;omega
 | c::l,d::m,hl,hm,h=>by
   have h1:=hl c (List.mem_cons_self ..)
   have g:=hm d (List.mem_cons_self ..)
   unfold encT at h
   have b:c=d:=by omega
   have f:encT l=encT m:=by omega
   rw [b,encT_inj (fun q a=>hl q (List.mem_cons_of_mem _ a)) (fun q a=>hm q (List.mem_cons_of_mem _ a)) f]
theorem encT_lt:∀ {l:List Nat},(∀ c ∈ l,c < 60)→encT l < 64 ^ l.length
 | [],_=>by unfold encT;simp
 | c::l,hl=>by
   have h1:=hl c (List.mem_cons_self ..)
   have b:=encT_lt (l:=l) fun q a=>hl q (List.mem_cons_of_mem _ a)
   unfold encT
   rw [List.length_cons,Nat.pow_succ]
   omega
def codeB:Value→Nat
 | .agg cs=>(match cs.getD 0 undef with | .string t=>encT (bytesOf t) | _=>0) * 1000+(intOf (cs.getD 1 undef)).toNat
 | _=>0
theorem codeB_kB {l:List Int} (h:SymOK l) (n:Nat):codeB (kB l n)=encT (symT l) * 1000+n:=by
 show encT (bytesOf (str (symT l))) * 1000+n=_
 rw [bytesOf_str _ fun c a=>by have:=symT_lt h c a;omega]
structure KeyOK (l:List Int) (n:Nat):Prop where
 sym:SymOK l
 len:l.length≤6
 n:n≤10
structure BookM (w:World) (g:Nat) (G:Gr) (S:Nat→Prop) (ts:List ((List Int × Nat) × Nat)):Prop where
 map:PlcM Tryz.prog 223 w g (ts.map fun p=>(kB p.1.1 p.1.2,p.2))
 key:∀ p ∈ ts,KeyOK p.1.1 p.1.2
 val:∀ p ∈ ts,SCell w p.2 (forestT (treeN G) p.1.1 p.1.2)∧¬ S p.2
theorem BookM.few {w:World} {g:Nat} {G:Gr} {S:Nat→Prop} {ts:List ((List Int × Nat) × Nat)} (h:BookM w g G S ts):Maps.size (plcR Tryz.prog 223 (ts.map fun p=>(kB p.1.1 p.1.2,p.2))) < maxLen:=by
 obtain ⟨L,h1,j,r⟩:=size_plcR Tryz.keyKB _ h.map.good
 have k:∀ v ∈ L,∃ p ∈ ts,v=kB p.1.1 p.1.2:=fun v z=>by
  obtain ⟨q,m,e⟩:=List.mem_map.1 (j v z)
  obtain ⟨p,f,rfl⟩:=List.mem_map.1 m
  exact ⟨p,f,e.symm⟩
 have:=nodup_codes codeB 100000000000000 h1 (fun x o y A e=>by
  obtain ⟨p,f,rfl⟩:=k x o
  obtain ⟨q,m,rfl⟩:=k y A
  have a:=h.key p f
  have b:=h.key q m
  rw [codeB_kB a.sym,codeB_kB b.sym] at e
  have B:=a.n
  have C:=b.n
  have s:encT (symT p.1.1)=encT (symT q.1.1):=by omega
  have t:p.1.2=q.1.2:=by omega
  have u:=symT_inj a.sym b.sym (encT_inj (fun c d=>by have:=symT_lt a.sym c d;omega) (fun c d=>by have:=symT_lt b.sym c d;omega) s)
  rw [u,t]) (fun x o=>by
  obtain ⟨p,f,rfl⟩:=k x o
  have a:=h.key p f
  rw [codeB_kB a.sym]
  have h1:=encT_lt (l:=symT p.1.1) fun c d=>by have:=symT_lt a.sym c d;omega
  have j:(symT p.1.1).length≤6:=by unfold symT;rw [List.length_map];exact a.len
  have r:64 ^ (symT p.1.1).length≤64 ^ 6:=Nat.pow_le_pow_right (by omega) j
  have D:=a.n
  have E:64 ^ 6=68719476736:=by decide
  omega)
 rw [r]
 unfold maxLen
 omega
structure BkH where
 c:Nat
 t:Nat
structure BkAt (W0:World) (k:BkH) (h:GH) (G:Gr) (S:Nat→Prop) (w:World):Prop where
 base:Below W0.heap.size W0 w
 box:Blk w k.c 170 #[.slice h.a1 h.n1 h.c1, .slice h.a2 h.n2 h.c2, .slice h.a3 h.n3 h.c3, .int .i64 G.start, .map (some k.t)]
 low:W0.heap.size≤k.t
 known:∃ ts,BookM w k.t G S ts
abbrev BkH.map (k:BkH):Nat→Prop:=fun b=>b=k.t
theorem BkAt.map_noInt {a w:World} {k:BkH} {h:GH} {G:Gr} {S:Nat→Prop} (C:BkAt a k h G S w):NoInt w k.t:=by
 obtain ⟨ts,b⟩:=C.known
 exact b.map.noInt
theorem BkAt.keep {a w w':World} {k:BkH} {h:GH} {G:Gr} {S:Nat→Prop} (C:BkAt a k h G S w) (c:Off k.map w w'):IntKeep w w':=IntKeep.of_off c fun g b=>by rw [b];exact C.map_noInt
theorem BkAt.not_map {a w:World} {k:BkH} {h:GH} {G:Gr} {S:Nat→Prop} (C:BkAt a k h G S w) {g:Nat} {t:TypeId} {cs:Array Value} (b:Blk w g t cs):¬ k.map g:=by
 obtain ⟨ts,c⟩:=C.known
 exact fun e=>c.map.ne_blk b e
theorem BkAt.map_lt {a w:World} {k:BkH} {h:GH} {G:Gr} {S:Nat→Prop} (C:BkAt a k h G S w):k.t < w.heap.size:=by
 obtain ⟨ts,b⟩:=C.known
 exact b.map.lt
theorem BkAt.move {g w w':World} {k:BkH} {h:GH} {G:Gr} {S P:Nat→Prop} (C:BkAt g k h G S w) (f:Off P w w') (l:IntKeep w w') (h1:∀ b,P b→S b∧g.heap.size≤b∧b ≠ k.c∧b ≠ k.t):BkAt g k h G S w':=by
 have m:=C.map_lt
 refine ⟨C.base.trans (f.is_below C.base.size fun b j=>(h1 b j).2.1),f.blk C.box fun a=>(h1 _ a).2.2.1 rfl,C.low,?_⟩
 obtain ⟨ts,d⟩:=C.known
 exact ⟨ts,d.map.block (f.keep _ m fun a=>(h1 _ a).2.2.2 rfl),d.key,fun p a=>⟨(d.val p a).1.kept l (f.keep _ (d.val p a).1.lt fun j=>(d.val p a).2 (h1 _ j).1),(d.val p a).2⟩⟩
theorem BkAt.below {c w w':World} {k:BkH} {h:GH} {G:Gr} {S:Nat→Prop} (C:BkAt c k h G S w) (a:Below w.heap.size w w'):BkAt c k h G S w' :=
 C.move (P:=fun _=>False) (Off.of_below a) (.of_below a) fun b a=>a.elim
theorem BkAt.more {j w w':World} {k:BkH} {h:GH} {G:Gr} {S:Nat→Prop} (C:BkAt j k h G S w) (c:Below w.heap.size w w') {g:Nat} (l:w.heap.size≤g):BkAt j k h G (fun b=>S b∨b=g) w':=by
 have f:=C.below c
 refine ⟨f.base,f.box,f.low,?_⟩
 obtain ⟨ts,a⟩:=C.known
 refine ⟨ts,a.map.below c,a.key,fun p d=>⟨(a.val p d).1.kept (.of_below c) (c.block _ (a.val p d).1.lt),?_⟩⟩
 rintro (h1 | h1)
 · exact (a.val p d).2 h1
 · have:=(a.val p d).1.lt
   omega
theorem BkAt.less {c w:World} {k:BkH} {h:GH} {G:Gr} {S S':Nat→Prop} (C:BkAt c k h G S w) (f:∀ b,S' b→S b):BkAt c k h G S' w:=by
 refine ⟨C.base,C.box,C.low,?_⟩
 obtain ⟨ts,a⟩:=C.known
 exact ⟨ts,a.map,a.key,fun p d=>⟨(a.val p d).1,fun h1=>(a.val p d).2 (f _ h1)⟩⟩
theorem BkAt.put {o w w':World} {k:BkH} {h:GH} {G:Gr} {S:Nat→Prop} (C:BkAt o k h G S w) {ts:List ((List Int × Nat) × Nat)} (j:BookM w k.t G S ts) {l:List Int} {n g:Nat} (D:KeyOK l n) (m:SCell w g (forestT (treeN G) l n)) (z:¬ S g)
 (a:PlcM Tryz.prog 223 w' k.t ((kB l n,g)::ts.map fun p=>(kB p.1.1 p.1.2,p.2))) (B:w.grownBy w' (some k.t)):BkAt o k h G S w'∧Off k.map w w'∧BookM w' k.t G S (((l,n),g)::ts):=by
 have f:Off (fun q=>some k.t=some q) w w':=Off.of_grown B
 have E:IntKeep w w':=IntKeep.of_off f fun q b=>by injection b with b;rw [← b];exact j.map.noInt
 have u:∀ {q:Nat} {t:TypeId} {cs:Array Value},Blk w q t cs→Blk w' q t cs:=fun r=>f.blk r fun e=>by injection e with e;exact j.map.ne_blk r e.symm
 have v:∀ {q x:Nat},SCell w q x→SCell w' q x:=fun {q x} m=>by
  obtain ⟨A,n,c,d,h1,y⟩:=m
  exact ⟨A,n,c,d,u h1,y.kept E⟩
 have s:BookM w' k.t G S (((l,n),g)::ts):=by
  refine ⟨by simpa using a,fun p a=>?_,fun p a=>?_⟩
  · rcases List.mem_cons.1 a with e | a
    · rw [e];exact D
    · exact j.key p a
  · rcases List.mem_cons.1 a with e | a
    · rw [e];exact ⟨v m,z⟩
    · exact ⟨v (j.val p a).1,(j.val p a).2⟩
 exact ⟨⟨C.base.trans (f.is_below C.base.size fun q b=>by injection b with b;rw [← b];exact C.low),u C.box,C.low,_,s⟩,⟨f.os,f.tape,f.output,f.size,fun q b F=>f.keep q b fun e=>F (by injection e with e;exact e.symm)⟩,s⟩
theorem BookM.look {w:World} {g:Nat} {G:Gr} {S:Nat→Prop} {ts:List ((List Int × Nat) × Nat)} (h:BookM w g G S ts) {l:List Int} {n:Nat} (a:KeyOK l n) :
 (∃ b,(∀ x:Ext w,(Instr.lookup 168 (.map (some g)) (kB l n) false).run Tryz.prog (bl w x) = .ok (.pointer (some ⟨b,0,none⟩)) (bl w x))∧SCell w b (forestT (treeN G) l n)∧¬ S b) ∨
 (∀ x:Ext w,(Instr.lookup 168 (.map (some g)) (kB l n) false).run Tryz.prog (bl w x) = .ok (.pointer none) (bl w x)):=by
 have m:∀ w,(zeroValue 224).run Tryz.prog w = .ok (.pointer none) w:=fun w=>by kernel_rfl
 have s:GoodK Tryz.prog 223 (kB l n):=keyOf_kB (by have:=a.len;omega) (by have:=a.n;omega)
 by_cases j:kB l n ∈ (ts.map fun p=>(kB p.1.1 p.1.2,p.2)).map (·.1)
 · left
   obtain ⟨b,f,r⟩:=h.map.look Tryz.keyKB j
   obtain ⟨p,k,c⟩:=List.mem_map.1 f
   injection c with c hpb
   obtain ⟨o,q⟩:=kB_inj (h.key p k).sym a.sym c
   have d:=h.val p k
   rw [o,q,hpb] at d
   exact ⟨b,fun x=>(h.map.below (bl_below w x)).look_at Tryz.keyKB Tryz.underlying168 (m _) f r,d.1,d.2⟩
 · exact .inr fun x=>(h.map.below (bl_below w x)).look_none Tryz.keyKB Tryz.underlying168 (m _) s j
theorem BookM.there {w:World} {g b0:Nat} {G:Gr} {S:Nat→Prop} {ts:List ((List Int × Nat) × Nat)} (h:BookM w g G S ts) {l:List Int} {n:Nat} (f:((l,n),b0) ∈ ts) :
 ∃ b,(∀ x:Ext w,(Instr.lookup 168 (.map (some g)) (kB l n) false).run Tryz.prog (bl w x) = .ok (.pointer (some ⟨b,0,none⟩)) (bl w x))∧SCell w b (forestT (treeN G) l n)∧¬ S b:=by
 have s:∀ w,(zeroValue 224).run Tryz.prog w = .ok (.pointer none) w:=fun w=>by kernel_rfl
 have r:=h.key _ f
 have q:kB l n ∈ (ts.map fun p=>(kB p.1.1 p.1.2,p.2)).map (·.1):=List.mem_map.2 ⟨_,List.mem_map.2 ⟨_,f,rfl⟩,rfl⟩
 obtain ⟨b,d,o⟩:=h.map.look Tryz.keyKB q
 obtain ⟨p,j,a⟩:=List.mem_map.1 d
 injection a with a hpb
 obtain ⟨k,m⟩:=kB_inj (h.key p j).sym r.sym a
 have c:=h.val p j
 rw [k,m,hpb] at c
 exact ⟨b,fun x=>(h.map.below (bl_below w x)).look_at Tryz.keyKB Tryz.underlying168 (s _) d o,c.1,c.2⟩
section
variable {G:Gr}
theorem red_null (d:G.Fits) (x:(redG G).Fits) {i:Nat} (hi:i ∈ oldN G):(nullN (redG G)).getD (sig G i) false=(nullN G).getD i false:=by
 rw [Bool.eq_iff_iff]
 constructor
 · intro h
   have:=grown_least (b:=false) (G:=redG G) (fun j=>∀ i,(oldN G)[j]? = some i→(nullN G).getD i false=true) (fun y u g=>?_) h
   · exact this i (sig_toI hi).2.2
   · obtain ⟨r,a,rfl⟩:=red_rule.1 u
     intro j p
     have f:=(kept_mem.1 a).1
     have t:=d.left r f
     have h1:=(sig_toI (kept_left a)).2.2
     rw [red_left a,h1] at p
     obtain rfl:=Option.some.inj p
     refine grown_closed (b:=false) (G:=G) f (by omega) (allP_iff.2 fun s c=>?_)
     have k:=red_sym d a c
     have m:=g (redS (oldN G) s) (List.mem_map.2 ⟨s,c,rfl⟩)
     refine ⟨fun h0=>m.1 (by have:=k.1;omega),fun h0=>?_⟩
     have n:=m.2 (k.1.2 h0)
     rw [k.2 h0] at n
     exact n _ (sig_toI (kept_sym d a c h0)).2.2
 · intro h
   have:=grown_least (b:=false) (G:=G) (fun i=>(prodN G).getD i false=true∧(i ∈ oldN G→(nullN (redG G)).getD (sig G i) false=true)) (fun r f g=>?_) h
   · exact this.2 hi
   · have o:allP true (prodN G) r.right=true:=allP_iff.2 fun s c=>⟨fun _=>rfl,fun h0=>((g s c).2 h0).1⟩
     have t:=d.left r f
     refine ⟨grown_closed (b:=true) f (by omega) o,fun q=>?_⟩
     have a:=kept_of d f q o
     rw [← red_left a]
     refine grown_closed (b:=false) (G:=redG G) (red_rule.2 ⟨r,a,rfl⟩) ?_ (allP_iff.2 fun z v=>?_)
     · rw [red_nons,red_left a];exact (sig_toI q).2.1
     · obtain ⟨s,c,rfl⟩:=List.mem_map.1 v
       have h1:=red_sym d a c
       refine ⟨fun l=>(g s c).1 (by have:=h1.1;omega),fun l=>?_⟩
       have h0:=h1.1.1 l
       rw [h1.2 h0]
       exact ((g s c).2 h0).2 (kept_sym d a c h0)
end
theorem lefts_range (G:Gr):∀ (a:List Rul) (t:Int),G.leftsGo a (-1)=some t→oldOf a=List.range (t+1).toNat:=by
 intro a
 induction a using snoc_ind with
 | h0=>intro t h;simp [Gr.leftsGo] at h;subst h;rfl
 | h1 a r f =>
   intro t h
   rw [Gr.leftsGo_snoc] at h
   cases b:G.leftsGo a (-1) with
   | none=>rw [b] at h;cases h
   | some l =>
     rw [b,Option.bind_some] at h
     have g:=G.leftsGo_bd a (-1) l (by omega) b
     split at h
     · rename_i j
       have e:max l r.left=t:=Option.some.inj h
       rw [oldOf_snoc,f l b]
       unfold putO
       by_cases k:r.left≤l
       · rw [if_pos (by rw [List.mem_range];omega)]
         congr 1
         omega
       · rw [if_neg (by rw [List.mem_range];omega)]
         have c:r.left=l+1:=by omega
         have d:(t+1).toNat=(l+1).toNat+1:=by omega
         rw [d,List.range_succ,c]
     · cases h
theorem toI_range {n i:Nat} (h:i < n):toI (List.range n) i=(i:Int):=toI_get List.nodup_range (List.getElem?_range h)
theorem red_id {G:Gr} (a:G.right=true) (p:∀ i,i < G.nons.length→(useS G).testBit i=true):redG G=G:=by
 have c:=Gr.fits a
 obtain ⟨_,_,_,u,t⟩:=right_parts.1 a
 have g:∀ i,i < G.nons.length→(prodN G).getD i false=true∧(reachN G).getD i false=true:=fun i hi=>(useS_bit G c i).1 (p i hi)
 have k:∀ r ∈ G.rules,∀ s ∈ r.right,s < 0→nonI s < G.nons.length:=fun r a s b h0=>by
  have:=c.sym r a s b
  unfold nonI
  omega
 have h:keptR G=G.rules:=by
  unfold keptR
  rw [List.filter_eq_self]
  intro r a
  have q:=c.left r a
  unfold keepB
  rw [Bool.and_eq_true]
  exact ⟨(g _ (by omega)).2,allP_iff.2 fun s b=>⟨fun _=>rfl,fun h0=>(g _ (k r a s b h0)).1⟩⟩
 have f:oldN G=List.range G.nons.length:=by
  unfold oldN
  rw [h,lefts_range G _ _ t]
  congr 1
  omega
 have h1:(oldN G).map (nameO G)=G.nons:=by
  rw [f]
  refine List.ext_getElem? fun j=>?_
  rw [List.getElem?_map]
  by_cases d:j < G.nons.length
  · rw [List.getElem?_range d,List.getElem?_eq_getElem d]
    show some (nameO G j)=_
    unfold nameO
    rw [List.getElem?_eq_getElem d]
    rfl
  · rw [List.getElem?_eq_none (by simpa using d),List.getElem?_eq_none (by omega)]
    rfl
 have n:(keptR G).map (redR (oldN G))=G.rules:=by
  rw [h,f]
  conv=>rhs;rw [← List.map_id G.rules]
  refine List.map_congr_left fun r a=>?_
  have q:=c.left r a
  have l:toI (List.range G.nons.length) r.left.toNat=r.left:=by rw [toI_range (by omega)];omega
  have m:r.right.map (redS (List.range G.nons.length))=r.right:=by
   conv=>rhs;rw [← List.map_id r.right]
   refine List.map_congr_left fun s b=>?_
   unfold redS
   split
   · rename_i h0
     rw [toI_range (k r a s b h0)]
     show -1 - ((nonI s:Nat):Int)=s
     exact nonI_neg h0
   · rfl
  unfold redR
  rw [l,m]
  rfl
 have o:toI (oldN G) G.start.toNat=G.start:=by rw [f,toI_range (by omega)];omega
 unfold redG
 rw [h1,n,o]
theorem red_twice {G:Gr} (b:G.right=true) (a:(prodN G).getD G.start.toNat false=true):redG (redG G)=redG G:=red_id (red_right b a) fun i hi=>red_use b a hi
theorem forest_by_split (T:Int→Nat→Nat) (s:Int) (l:List Int) (n:Nat):forestT T (s::l) n=splitN T s l n 0 (n+1):=by
 simp only [splitN,Nat.zero_add]
 rfl
theorem forest_single (T:Int→Nat→Nat) (s:Int) (n:Nat):forestT T [s] n=T s n:=by
 have h0:∀ d,d≤n→splitN T s [] n 0 d=0:=by
  intro d
  induction d with
  | zero=>intro _;rfl
  | succ d a =>
    intro hd
    rw [splitN_succ,a (by omega),Nat.zero_add]
    have h1:forestT T [] (n - (0+d))=0:=by unfold forestT;rw [if_neg (by omega)]
    rw [h1,Nat.mul_zero]
 rw [forest_by_split,splitN_succ,h0 n (Nat.le_refl _),Nat.zero_add,Nat.zero_add,Nat.sub_self]
 show T s n * (if 0=0 then 1 else 0)=_
 rw [if_pos rfl,Nat.mul_one]
structure Told22 (G:Gr):Prop where
 red:isRed G=true
 cyc:cycG G=0
theorem ofN_told {G:Gr} {l:List Int} {n:Nat} (h:(ofN22 G l (n:Int)).2=0):Told22 G∧l.length≤6∧n≤10∧(∀ s ∈ l,G.has s=true)∧forestT (treeN G) l n < big:=by
 unfold ofN22 at h
 split at h
 · cases h
 · rename_i h1
   split at h
   · cases h
   · rename_i b
     refine ⟨⟨?_,?_⟩,?_,?_,?_,?_⟩
     · cases d:isRed G
       · exact absurd (.inl d) h1
       · rfl
     · exact Classical.byContradiction b
     · exact Classical.byContradiction fun a=>h1 (.inr (.inl (by omega)))
     · exact Classical.byContradiction fun a=>h1 (.inr (.inr (.inr (.inl (by omega)))))
     · intro s f
       cases c:G.has s
       · exact absurd (.inr (.inr (.inr (.inr ⟨s,f,c⟩)))) h1
       · rfl
     · rw [Int.toNat_natCast] at h
       unfold fitN at h
       exact Classical.byContradiction fun a=>by rw [if_neg a] at h;cases h
theorem ofN_fit {G:Gr} (a:Told22 G) {l:List Int} {n:Nat} (d:l.length≤6) (f:n≤10) (b:∀ s ∈ l,G.has s=true):ofN22 G l (n:Int)=fitN (forestT (treeN G) l n):=by
 unfold ofN22
 rw [if_neg,if_neg (by rw [a.cyc];exact fun h=>h rfl),Int.toNat_natCast]
 rintro (h | h | h | h | ⟨s,c,h⟩)
 · rw [a.red] at h;cases h
 · omega
 · omega
 · omega
 · rw [b s c] at h;cases h
theorem fit_cases (x:Nat):(x < big∧fitN x=(limbs x,0))∨(¬ x < big∧fitN x=([],2)):=by
 by_cases h:x < big
 · exact .inl ⟨h,by unfold fitN;rw [if_pos h]⟩
 · exact .inr ⟨h,by unfold fitN;rw [if_neg h]⟩
theorem val_of {w:World} {A:Option Addr} {n c x:Nat} (a:x < big) (h:Nums .u32 w A n c (limbs x)):ValN w A n c false x:=⟨by rw [capV_small a],by rw [capV_small a];exact h⟩
theorem u8_natC {a:Int} (h:(Lit.int .u8 a).wf=true):∃ n:Nat,a=(n:Int)∧n < 256:=by
 have h0:0≤a∧a≤255:=by
  simpa [Lit.wf,IntKind.min,IntKind.max,IntKind.bits,IntKind.signed] using h
 exact ⟨a.toNat,by omega,by omega⟩
theorem red_plain {G:Gr} (f:G.right=true) (d:redOK G=true) (g:cycG (redG G)=0):Plain (redG G)∧Ordered (redG G) (ordG (redG G)).1:=by
 have a:(prodN G).getD G.start.toNat false=true:=by unfold redOK at d;rw [Bool.and_eq_true] at d;exact d.2
 have b:=Gr.fits f
 have c:=red_right f a
 have n:G.start.toNat ∈ oldN G:=prod_start b a
 have m:(prodN (redG G)).getD (redG G).start.toNat false=true:=by rw [red_start b a];exact red_prod b (Gr.fits c) n
 obtain ⟨j,k,h⟩:=reduced_plain c m (red_twice f a) g
 have l:(ordG (redG G)).1=(orderS (stepsN (redG G)) (useS (redG G)) (redG G).nons.length (redG G).nons.length).1:=by unfold ordG;rw [c,k];rfl
 exact ⟨j,by rw [l];exact h⟩
open Go.Maps (Keyed IsMap Tidy)
def BkRet (a:World) (k:BkH) (h:GH) (G:Gr) (S:Nat→Prop) (w:World) (x:Nat) (e:Ending) (w':World):Prop :=
 BkAt a k h G S w'∧Off k.map w w'∧∃ A n c d,e = .returned (.agg #[.slice A n c, .bool d])∧ValN w' A n c d x
theorem Off.map_trans {k:BkH} {a b c:World} (x:Off k.map a b) (y:Off k.map b c):Off k.map a c:=x.trans y fun _ _ h=>h
structure BkG (W0:World) (h:GH) (G:Gr):Prop where
 told:Told22 G
 at_:GrAt W0 h G
 names:∀ t ∈ G.terms,t.name.size≤maxLen
 tab:TabAt W0
 n1:h.n1≤100
 n2:h.n2≤100
 n3:h.n3≤100
theorem symT_snoc {l:List Int} {q:Nat} {s:Int} (h:l[q]? = some s):symT (l.take (q+1))=symT (l.take q)++[(s+16).toNat]:=by
 rw [take_snoc' h]
 unfold symT
 rw [List.map_append]
 rfl
theorem fit_val (x:Nat):∃ (d:List Nat) (g:Nat) (b:Bool),fitN x=(d,g)∧(((g:Nat):Int) == 2)=b∧(∀ (w:World) (A:Option Addr) (c:Nat),Nums .u32 w A d.length c d→ValN w A d.length c b x):=by
 rcases fit_cases x with ⟨a,f⟩ | ⟨a,f⟩
 · exact ⟨limbs x,0,false,f,rfl,fun w A c h=>val_of a h⟩
 · exact ⟨[],2,true,f,rfl,fun w A c h=>⟨by rw [capV_big a],by rw [capV_big a];exact h⟩⟩
theorem bk_store {f w W:World} {k:BkH} {h:GH} {G:Gr} {S S':Nat→Prop} {g x:Nat} {A:Option Addr} {n c:Nat} {b:Bool} {A0:Option Addr} {n0 c0:Nat} {b0:Bool} (C:BkAt f k h G S' W) (a:Blk W g 174 #[.slice A0 n0 c0, .bool b0]) (s:ValN W A n c b x) (m:Off k.map w W) (o:S' g) (h0:f.heap.size≤g) (t:w.heap.size≤g) (r:∀ q,S q→S' q) :
 Blk ((W.setCell ⟨g,0,none⟩ (.slice A n c)).setCell ⟨g,1,none⟩ (.bool b)) g 174 #[.slice A n c, .bool b]∧BkRet f k h G S w x (.returned (.agg #[.slice A n c, .bool b])) ((W.setCell ⟨g,0,none⟩ (.slice A n c)).setCell ⟨g,1,none⟩ (.bool b)):=by
 have j:Off (fun q=>q=g) W ((W.setCell ⟨g,0,none⟩ (.slice A n c)).setCell ⟨g,1,none⟩ (.bool b)):=(Off.of_set W g 0 (.slice A n c)).trans (Off.of_set _ g 1 (.bool b)) fun _ _ h=>h
 have l:IntKeep W ((W.setCell ⟨g,0,none⟩ (.slice A n c)).setCell ⟨g,1,none⟩ (.bool b)):=IntKeep.of_off j fun q d=>by rw [d];exact cell_noInt a
 have p:=C.not_map a
 refine ⟨(a.set 0 _).set 1 _,(C.move j l fun q d=>?_).less r,m.trans j fun q d e=>by omega,A,n,c,b,rfl,s.kept l⟩
 subst d
 refine ⟨o,h0,?_,p⟩
 rintro rfl
 have h1:=C.box
 unfold Blk at h1 a
 rw [h1] at a
 injection a with a
 injection a with _ h3 _
 exact absurd h3 (by decide)
theorem tr_bof {W0:World} {k:BkH} {h:GH} {G:Gr} (hB:BkG W0 h G) {l:List Int} {n:Nat} (hk:KeyOK l n) (hh:∀ s ∈ l,G.has s=true) (S:Nat→Prop) (w:World) (Al:Option Addr) (cl:Nat) (C:BkAt W0 k h G S w) (hS:∀ b,S b→b < w.heap.size) (hl:Ints .i64 w Al l.length cl l) :
 Calls Tryz.prog 125 #[.pointer (some ⟨k.c,0,none⟩), .slice Al l.length cl, .int .i64 (n:Int)] w (BkRet W0 k h G S w (forestT (treeN G) l n)):=by
 have fg:=hl.cap
 have fk:=hk.len
 have dl:=hk.n
 have a7:=alloc_below w (.cells #[.slice none 0 0, .bool false] 174)
 have cb:=Blk.new w 174 #[.slice none 0 0, .bool false]
 have b8:=C.more a7 (Nat.le_refl w.heap.size)
 have T:=LH hB
 have HK:=LH hk
 have Hh:=LH hh
 have HS:=LH hS
 have bb:=LH (hl.below a7)
 have bf:=LH cb
 have bp:=LH b8
 have bw:Hid (Off k.map w (w.alloc (.cells #[.slice none 0 0, .bool false] 174))):=LH (Off.of_below a7)
 have cf:W0.heap.size≤w.heap.size:=C.base.size
 clear hB hk hh C hS hl cb b8
 go_enter Tryz.func125,Tryz.ntmps125
 go_upto_region 1 with fail
 generalize w.alloc (.cells #[.slice none 0 0, .bool false] 174)=J at *
 have c7:Hid ((Tryz.prog.info? 5).map (fun i=>(i.zero,i.size,i.bytes))=some (some (.int .u8 0),1,1)):=LH (by kernel_rfl)
 have b3:Hid (J.ownsRow J.heap.size 5 1 (.slice none 0 0) 0 (nums .u8 (symT (l.take 0)))):=LH (World.ownsRow_nil _ _ _ _)
 clear a7
 go_wp2_with fail
 go_loopw [7,16] (fun v i wr=>∃ (q:Nat) (A:Option Addr) (c:Nat),q≤l.length∧i = .int .i64 (q:Int)∧v = .slice A q c∧Hid (wr.ownsRow J.heap.size 5 1 (.slice A q c) q (nums .u8 (symT (l.take q))))∧Hid (Below J.heap.size J wr)) (fun _ i _=>l.length - (intOf i).toNat)
 case atStart=>exact ⟨0,none,0,Nat.zero_le _,rfl,rfl,b3,LH (Below.refl _ _)⟩
 case round =>
  clear b3
  obtain ⟨q,A,c,hq,rfl,rfl,Ho,E⟩:=hrel
  have av:J.heap.size≤wr.heap.size:=E.out.size
  by_cases dm:q < l.length
  case pos =>
   obtain ⟨lb,lo,s,rfl,fj,b4,cs⟩:=(bb.out.below E.out).get dm
   obtain ⟨s1,s2⟩:=HK.out.sym s (List.mem_of_getElem? b4.out)
   obtain ⟨m,hm⟩:∃ m:Nat,s+16=(m:Int):=⟨(s+16).toNat,by omega⟩
   have fl:IntKind.i64.wrap (s+16)=(m:Int):=by rw [hm];exact IntWalk.i64_in _ (by omega)
   have fm:IntKind.u8.wrap (m:Int)=(m:Int):=IntWalk.u8_in _ (by omega)
   have c9:Hid (symT (l.take (q+1))=symT (l.take q)++[m]):=LH (by rw [symT_snoc b4.out,show (s+16).toNat=m by omega])
   clear hm
   go_wp2_with (first
    | (at_builtin;refine wpl_appendT rfl _ _ 72 rfl J.heap.size 5 _ 1 1 Tryz.underlying72 c7.out (by decide) (by decide) A q c (nums .u8 (symT (l.take q))) rfl Ho.out [.int .u8 (m:Int)] rfl rfl (by simp [Value.oneCell']) (by omega) (by omega) av ?_;intro A5 c5 w5 ho hg ha
       have cu:=LH (E.out.trans ((Off.of_grown hg).is_below av fun k hk=>(Ho.out.lt k hk).1))
       have c8:Hid (w5.ownsRow J.heap.size 5 1 (.slice A5 (q+1) c5) (q+1) (nums .u8 (symT (l.take (q+1))))):=LH (by
        rw [c9.out,show nums .u8 (symT (l.take q)++[m])=nums .u8 (symT (l.take q))++[.int .u8 (m:Int)] by simp [nums]]
        exact ho)
       clear ho hg ha))
   go_roundw
   case rel=>exact ⟨q+1,A5,c5,by omega,by go_num,rfl,c8,cu⟩
   case measure=>simp [intOf] <;> omega
  case neg =>
   obtain rfl:q=l.length:=by omega
   have cp:Nums .u8 wr A l.length c (symT l):=by
    have h1:=own_sl Ho.out
    rw [List.take_length] at h1
    exact h1
   have bm:(symT l).length=l.length:=by unfold symT;rw [List.length_map]
   have b2:Hid ((convert 72 9 (.slice A l.length c)).run Tryz.prog wr = .ok (.string (str (symT l))) wr):=LH (by
    have:=run_bytes_str wr 72 5 9 Tryz.underlying72 Tryz.underlying5 Tryz.underlying9 A c (symT l) (by rw [bm];exact cp)
    rwa [bm] at this)
   have di:=b2.out
   have au:=alloc_below wr (.cells #[.string (str (symT l)), .int .i64 (n:Int)] 223)
   have aq:=Blk.new wr 223 #[.string (str (symT l)), .int .i64 (n:Int)]
   have aa:=LH ((bp.out.below E.out).below au)
   have be:=LH ((bw.out.map_trans (Off.of_below E.out)).map_trans (Off.of_below au))
   have bg:=LH ((bf.out.ext E.out).ext au)
   have br:=LH ((bb.out.below E.out).below au)
   have dk:w.heap.size < wr.heap.size:=(bf.out.ext E.out).lt
   go_upto_region 8 with fail
   clear di b2 cp bm Ho E au bp bw bf bb
   generalize wr.alloc (.cells #[.string (str (symT l)), .int .i64 (n:Int)] 223)=r at *
   generalize wr.heap.size=B at *
   have b1:=LH aq
   obtain ⟨ts,W⟩:=aa.out.known
   have F:=W.look HK.out
   unfold kB at F
   have H:=aa.out.box.lt
   have Y:r.cell? ⟨k.c,4,none⟩=some (.map (some k.t)):=aa.out.box.cell 4
   have N:r.cell? ⟨B,0,none⟩=some (.string (str (symT l))):=aq.cell 0
   have O:r.cell? ⟨B,1,none⟩=some (.int .i64 (n:Int)):=aq.cell 1
   have P:=aq.lt
   have bc:=bl_cell r
   clear aq W
   rcases F with ⟨bv,F,hv,dh⟩ | F
   case inl =>
    as_aux_lemma =>
     obtain ⟨Av,nv,cv,dv,V,aw⟩:=hv
     refine wp_region_below (by kernel_rfl) (by kernel_rfl) ?_
     repeat (go_big_quiet_step (fail))
     refine wpQuiet_nil ?_
     rintro _ ⟨y,rfl⟩
     have j:=bl_below r y
     have x:=LH (aa.out.below j)
     have aj:=LH (be.out.map_trans (Off.of_below j))
     have o:=bg.out.ext j
     have a8:=V.ext j
     have cx:=LH (aw.below j)
     have ak:=LH (bk_store (S:=S) x.out o cx.out aj.out (.inr rfl) cf (Nat.le_refl _) fun q hq => .inl hq)
     have c0:(bl r y).cell? ⟨w.heap.size,0,none⟩=some (.slice none 0 0):=o.cell 0
     have c1:(bl r y).cell? ⟨w.heap.size,1,none⟩=some (.bool false):=o.cell 1
     have f0:=o.frozen 0
     have f1:=o.frozen 1
     have l5:=o.lt
     have v0:(bl r y).cell? ⟨bv,0,none⟩=some (.slice Av nv cv):=a8.cell 0
     have v1:(bl r y).cell? ⟨bv,1,none⟩=some (.bool dv):=a8.cell 1
     have l6:=a8.lt
     clear F V aw bc j o a8 H Y N O P x aj
     generalize bl r y=W3 at *
     go_wp2_with fail
     refine bodyPost_ret (results_cell_row (p:=6) (by kernel_rfl) _ _ w.heap.size 174 #[.slice Av nv cv, .bool dv] (0,0) _ rfl ak.out.1 Tryz.underlying174 rfl (by kernel_rfl)) rfl ?_
     exact ak.out.2
   case inr =>
    refine wp_region_below (by kernel_rfl) (by kernel_rfl) ?_
    repeat (go_big_quiet_step (fail))
    refine wpQuiet_nil ?_
    rintro _ ⟨y,rfl⟩
    have j:=bl_below r y
    have x:=LH (aa.out.below j)
    have aj:=LH (be.out.map_trans (Off.of_below j))
    have b0:=LH (bg.out.ext j)
    have bt:=LH (b1.out.ext j)
    have bs:=LH (br.out.below j)
    have fh:w.heap.size < B:=dk
    clear F bc j H Y N O P aa be bg b1 br
    generalize bl r y=W3 at *
    obtain ⟨gc,M⟩:=k
    obtain ⟨a1,n1,c1,a2,n2,c2,a3,n3,c3⟩:=h
    have H:=x.out.box.lt
    have k0:W3.cell? ⟨gc,0,none⟩=some (.slice a1 n1 c1):=x.out.box.cell 0
    have k1:W3.cell? ⟨gc,1,none⟩=some (.slice a2 n2 c2):=x.out.box.cell 1
    have k2:W3.cell? ⟨gc,2,none⟩=some (.slice a3 n3 c3):=x.out.box.cell 2
    have k3:W3.cell? ⟨gc,3,none⟩=some (.int .i64 G.start):=x.out.box.cell 3
    have bj:=x.out.base
    have co:=ofN_fit T.out.told (l:=l) (n:=n) HK.out.len dl Hh.out
    have h1:=T.out.n1
    have h2:=T.out.n2
    have h3:=T.out.n3
    simp only [] at h1 h2 h3
    have Z:=tr_cOf ⟨a1,n1,c1,a2,n2,c2,a3,n3,c3⟩ G Al cl l (n:Int) W3 (T.out.at_.below bj) T.out.names (T.out.tab.below bj) (by simp only [];omega) (by simp only [];omega) (by simp only [];omega) bs.out (fun s hs=>by have:=HK.out.sym s hs;unfold InI64;omega)
    rw [co] at Z
    obtain ⟨R,er,bq,cd,ff,cq⟩:=fit_val (forestT (treeN G) l n)
    rw [cd] at Z
    have Z:=LH Z
    have b5:=LH cq
    clear co bj cd cq
    go_upto_region 12 with (
     go_at_call 15
     (with_reducible refine Z.out.mono ?_)
     rintro e U ⟨I,L,rfl,cm,ar⟩)
    have ab:=LH (x.out.below ar)
    have bx:=LH (aj.out.map_trans (Off.of_below ar))
    have az:=LH (b0.out.ext ar)
    have ad:=LH (bt.out.ext ar)
    have bu:=LH cm
    clear Z H k0 k1 k2 k3 cm ar x aj b0 bt bs
    have H:=ab.out.box.lt
    have Y:U.cell? ⟨gc,4,none⟩=some (.map (some M)):=ab.out.box.cell 4
    have N:U.cell? ⟨B,0,none⟩=some (.string (str (symT l))):=ad.out.cell 0
    have O:U.cell? ⟨B,1,none⟩=some (.int .i64 (n:Int)):=ad.out.cell 1
    have P:=ad.out.lt
    have dq:=az.out.lt
    refine wp_region_grow1 (fun X=>Below U.heap.size U X) (fun X X'=>Below X.heap.size X X') (fun u=>(⟨(.pointer (some ⟨gc,0,none⟩) :: .slice Al l.length cl :: .int .i64 (n:Int)::undef::undef::undef :: .pointer (some ⟨w.heap.size,0,none⟩) :: .slice A l.length c::undef::u9 :: .pointer (some ⟨B,0,none⟩) :: .pointer none :: .slice I R.length L :: .int .i64 (er:Int) :: .slice Al l.length cl :: .int .i64 (l.length:Int) :: .int .i64 (l.length:Int) :: .bool false::u18::u19::u20::u21::u22::u23::u24::u25::u26 :: .slice A l.length c :: .string (str (symT l)) :: .int .i64 (n:Int) :: .agg #[.string (str (symT l)), .int .i64 (n:Int)] :: .pointer (some ⟨gc,0,none⟩) :: .pointer (some ⟨gc,0,none⟩) :: .pointer (some ⟨gc,4,none⟩) :: .map (some M) :: .agg #[.string (str (symT l)), .int .i64 (n:Int)] :: .pointer none :: .pointer none :: .bool false::undef::undef::undef :: .tuple #[.slice I R.length L, .int .i64 (er:Int)] :: .pointer (some ⟨gc,0,none⟩) :: .pointer (some ⟨gc,0,none⟩) :: .pointer (some ⟨gc,0,none⟩) :: .agg #[.slice a1 n1 c1, .slice a2 n2 c2, .slice a3 n3 c3, .int .i64 G.start] :: .slice Al l.length cl :: .int .i64 (n:Int) :: .tuple #[.slice I R.length L, .int .i64 (er:Int)] :: .slice I R.length L :: .int .i64 (er:Int)::u 0::u 1::u 2::u 3::u 4::u 5::u 6::u 7::u 8::u 9::undef::undef::undef::undef::undef::undef::undef::undef::[]).toArray,[]⟩:Act)) [undef,undef,undef,undef,undef,undef,undef,undef,undef,undef] [fun v X=>v = .pointer (some ⟨gc,0,none⟩),fun v X=>v = .pointer (some ⟨gc,0,none⟩),fun v X=>v = .pointer (some ⟨gc,4,none⟩),fun v X=>v = .map (some M),fun v X=>v = .agg #[.string (str (symT l)), .int .i64 (n:Int)],fun v X=>v = .slice I R.length L,fun v X=>v = .int .i64 (er:Int),fun v X=>v = .bool bq,fun v X=>v = .agg #[.slice I R.length L, .bool bq],fun v X=>∃ D,v=Value.pointer (some ⟨D,0,none⟩)∧U.heap.size≤D∧Blk X D 174 #[.slice I R.length L, .bool bq]] (fun u X=>∃ D ts,BkAt W0 ⟨gc,M⟩ ⟨a1,n1,c1,a2,n2,c2,a3,n3,c3⟩ G (fun b=>S b∨b=w.heap.size) X∧Off (BkH.map ⟨gc,M⟩) U X∧BookM X M G (fun b=>S b∨b=w.heap.size) (((l,n),D)::ts)) (l:=[_,_,_,_,_,_,_,_,_,_]) (by kernel_rfl) (by kernel_rfl) (by kernel_rfl) rfl rfl (Below.refl _ _).drew ⟨fun _ _ _ h _=>h,fun _ _ _ h _=>h,fun _ _ _ h _=>h,fun _ _ _ h _=>h,fun _ _ _ h _=>h,fun _ _ _ h _=>h,fun _ _ _ h _=>h,fun _ _ _ h _=>h,fun _ _ _ h _=>h,(fun _ _ _ ⟨g,e,h,h2⟩ hb=>⟨g,e,h,Blk.ext h2 hb⟩),trivial⟩ ?_ ?_ ?_
    · refine StepsF.cons rfl (fun _ _=>rfl) (fun Q u X a d KK f=>?_) ?_
      · go_simp
        exact f _ _ a (Below.refl _ _) rfl
      refine StepsF.cons rfl (fun _ _=>rfl) (fun Q u X a d KK f=>?_) ?_
      · have p0:u 0=_:=d 0 rfl
        clear d
        generalize u 0=N at *
        subst p0
        go_simp
        exact f _ _ a (Below.refl _ _) rfl
      refine StepsF.cons rfl (fun _ _=>rfl) (fun Q u X a d KK f=>?_) ?_
      · have p1:u 1=_:=d 1 rfl
        clear d
        generalize u 1=O at *
        subst p1
        go_simp
        exact f _ _ a (Below.refl _ _) rfl
      refine StepsF.cons rfl (fun _ _=>rfl) (fun Q u X a d KK f=>?_) ?_
      · have p2:u 2=_:=d 2 rfl
        clear d
        generalize u 2=x2 at *
        subst p2
        have db:=(a.cell (p:=⟨gc,4,none⟩) H).trans Y
        go_simp
        exact f _ _ a (Below.refl _ _) rfl
      refine StepsF.cons rfl (fun _ _=>rfl) (fun Q u X a d KK f=>?_) ?_
      · have db:=(a.cell (p:=⟨B,0,none⟩) P).trans N
        have fc:=(a.cell (p:=⟨B,1,none⟩) P).trans O
        go_simp
        exact f _ _ a (Below.refl _ _) rfl
      refine StepsF.cons rfl (fun _ _=>rfl) (fun Q u X a d KK f=>?_) ?_
      · go_simp
        exact f _ _ a (Below.refl _ _) rfl
      refine StepsF.cons rfl (fun _ _=>rfl) (fun Q u X a d KK f=>?_) ?_
      · go_simp
        exact f _ _ a (Below.refl _ _) rfl
      refine StepsF.cons rfl (fun _ _=>rfl) (fun Q u X a d KK f=>?_) ?_
      · have p6:u 6=_:=d 6 rfl
        clear d
        generalize u 6=x6 at *
        subst p6
        go_simp
        exact f _ _ a (Below.refl _ _) rfl
      refine StepsF.cons rfl (fun _ _=>rfl) (fun Q u X a d KK f=>?_) ?_
      · have p5:u 5=_:=d 5 rfl
        have p7:u 7=_:=d 7 rfl
        clear d
        generalize u 5=x5 at *
        subst p5
        generalize u 7=x7 at *
        subst p7
        go_simp
        exact f _ _ a (Below.refl _ _) rfl
      refine StepsF.cons rfl (fun _ _=>rfl) (fun Q u X a d KK f=>?_) ?_
      · have p8:u 8=_:=d 8 rfl
        clear d
        generalize u 8=x8 at *
        subst p8
        go_simp
        exact f _ _ (below_alloc a _) (alloc_below _ _) ⟨_,rfl,a.size,Blk.new _ _ _⟩
      exact StepsF.nil
    · intro Q u X a d KK f
      have p3:u 3=_:=d 3 (by decide)
      have p4:u 4=_:=d 4 (by decide)
      obtain ⟨D,p9,fi,av⟩:=d 9 (by decide)
      clear d
      generalize u 3=x3 at *
      subst p3
      generalize u 4=x4 at *
      subst p4
      generalize u 9=x9 at *
      subst p9
      have bi:=ab.out.below a
      obtain ⟨ts,W⟩:=bi.known
      have cg:GoodK Tryz.prog 223 (kB l n):=keyOf_kB (by omega) (by omega)
      obtain ⟨w',dn,ck,ch⟩:=W.map.put (b:=D) Tryz.keyKB Tryz.underlying168 W.few cg
      have a9:=bi.put W HK.out ⟨I,R.length,L,bq,av,b5.out _ _ _ (bu.out.below a)⟩ (by rintro (h | h);exact absurd (HS.out _ h) (by omega);omega) ck ch
      have cz:=LH (And.intro a9.1 (And.intro ((Off.of_below a).trans a9.2.1 fun _ _ h=>h) a9.2.2))
      unfold kB at dn
      clear a9 ck ch cg W bi av
      go_simp
      exact f (fun i=>([u 0,u 1,u 2, .map (some M), .agg #[.string (str (symT l)), .int .i64 (n:Int)],u 5,u 6,u 7,u 8,Value.pointer (some ⟨D,0,none⟩)]:List Value).getD i undef) _ (⟨D,ts,cz.out⟩)
    intro u z dj
    obtain ⟨D,ts,b9,a6,cc⟩:=dj
    have ay:=LH b9
    have bz:=LH (bx.out.map_trans a6)
    have cy:=LH (a6.blk az.out (ab.out.not_map az.out))
    have bd:=LH (a6.blk ad.out (ab.out.not_map ad.out))
    obtain ⟨bv,F,hv,dh⟩:=cc.there (List.mem_cons_self ..)
    obtain ⟨Av,nv,cv,dv,V,aw⟩:=hv
    unfold kB at F
    clear H Y N O P dq b9 a6 cc ab bx az ad bu b5
    have H:=ay.out.box.lt
    have Y:z.cell? ⟨gc,4,none⟩=some (.map (some M)):=ay.out.box.cell 4
    have N:z.cell? ⟨B,0,none⟩=some (.string (str (symT l))):=bd.out.cell 0
    have O:z.cell? ⟨B,1,none⟩=some (.int .i64 (n:Int)):=bd.out.cell 1
    have P:=bd.out.lt
    have v0:z.cell? ⟨bv,0,none⟩=some (.slice Av nv cv):=V.cell 0
    have v1:z.cell? ⟨bv,1,none⟩=some (.bool dv):=V.cell 1
    have vl:=V.lt
    have bc:=bl_cell z
    go_upto_region 13 with fail
    refine wp_region_below_tail 8 (by kernel_rfl) (by kernel_rfl) ?_
    simp only [List.take_succ_cons,List.take_zero,List.drop_succ_cons,List.drop_zero]
    repeat (go_big_quiet_step (fail))
    refine wpQuiet_nil ?_
    rintro _ ⟨y,rfl⟩
    have j:=bl_below z y
    have o:=cy.out.ext j
    have ak:=LH (bk_store (S:=S) (ay.out.below j) o (aw.below j) (bz.out.map_trans (Off.of_below j)) (.inr rfl) cf (Nat.le_refl _) fun q hq => .inl hq)
    have d0:(bl z y).cell? ⟨w.heap.size,0,none⟩=some (.slice none 0 0):=o.cell 0
    have d1:(bl z y).cell? ⟨w.heap.size,1,none⟩=some (.bool false):=o.cell 1
    have f0:=o.frozen 0
    have f1:=o.frozen 1
    have l5:=o.lt
    clear F V aw bc j o H Y N O P v0 v1 vl ay bz
    generalize bl z y=WZ at *
    go_wp2_with fail
    refine bodyPost_ret (results_cell_row (p:=6) (by kernel_rfl) _ _ w.heap.size 174 #[.slice Av nv cv, .bool dv] (0,0) _ rfl ak.out.1 Tryz.underlying174 rfl (by kernel_rfl)) rfl ?_
    exact ak.out.2
end Go.Proofs.YtggbjdmpjidhgaaGreatDoor
