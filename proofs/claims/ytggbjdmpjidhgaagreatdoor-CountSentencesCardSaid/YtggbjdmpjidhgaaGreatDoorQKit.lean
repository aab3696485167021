/- Words for slices that read as lists: no program in sight. -/
import Derived.WalkKit
import Derived.WalkSpells
import Derived.WalkLawsBesides
import Derived.Lib.Hide
import Derived.IntWalk
import Derived.Below
import Derived.Laws.OwnMore
import Derived.Deep.Draws
import Derived.Maps.AppendAt
import Derived.Lib.SliceRun
import Derived.Lib.TrailingZeros
import Derived.Lib.BitFns
import Derived.Test.YtggbjdmpjidhgaaGreatDoorProg
import Derived.Laws.Bits64b
import Derived.Lib.Tables
import Derived.Deep.QuietTactic
import Derived.BigQuiet
import Derived.Test.YtggbjdmpjidhgaaGreatDoorRows
import Derived.ProofKit
import Derived.LaidMore
import Derived.OpenShut
import Derived.Stop.Joined
import Ieee.Arith
import Derived.Laws.FloatArith
import Derived.Laws.Cover3
import Derived.Laws.ComplexArith
import Derived.ChangeAlike
import Derived.Laws.BytesArg
set_option linter.unusedVariables false
set_option linter.unusedSimpArgs false
set_option maxHeartbeats 8000000
set_option maxRecDepth 100000
namespace Go.Proofs.YtggbjdmpjidhgaaGreatDoor
open Go.RowKit
theorem LH {p : Prop} (h : p) : Hid p := Lib.hid h
def Arr (w:World) (A:Option Addr) (xs:List Value):Prop :=
 0 < xs.length→∃ b off,A=some ⟨b,off,none⟩∧b < w.heap.size∧∀ j,j < xs.length→w.cell? ⟨b,off+j,none⟩=xs[j]?
def Sl (w:World) (A:Option Addr) (n c:Nat) (xs:List Value):Prop :=
 xs.length=n∧n≤c∧c≤9223372036854775807∧Arr w A xs
theorem Arr.nil (w:World) (A:Option Addr):Arr w A []:=fun h=>absurd h (by simp)
theorem Arr.keep {w w':World} {A:Option Addr} {xs:List Value} (h:Arr w A xs) (hs:w.heap.size≤w'.heap.size)
 (hk:∀ b off,b < w.heap.size→w'.cell? ⟨b,off,none⟩=w.cell? ⟨b,off,none⟩):Arr w' A xs:=fun hn=>by
 obtain ⟨b,off,e,hb,hc⟩:=h hn
 exact ⟨b,off,e,by omega,fun j hj=>(hk b _ hb).trans (hc j hj)⟩
theorem Arr.below {w w':World} {A:Option Addr} {xs:List Value} (h:Arr w A xs) (hb:Below w.heap.size w w'):Arr w' A xs :=
 h.keep hb.size fun _ _ hp=>hb.cell hp
theorem Sl.below {w w':World} {A:Option Addr} {n c:Nat} {xs:List Value} (h:Sl w A n c xs) (hb:Below w.heap.size w w'):Sl w' A n c xs :=
 ⟨h.1,h.2.1,h.2.2.1,h.2.2.2.below hb⟩
theorem Sl.nil (w:World) (A:Option Addr) (c:Nat) (h:c≤9223372036854775807):Sl w A 0 c []:=⟨rfl,Nat.zero_le _,h,Arr.nil _ _⟩
def nums (k:IntKind) (xs:List Nat):List Value:=xs.map fun (x:Nat)=>Value.int k ((x:Int))
theorem nums_length (k:IntKind) (xs:List Nat):(nums k xs).length=xs.length:=by simp [nums]
def Nums (k:IntKind) (w:World) (A:Option Addr) (n c:Nat) (xs:List Nat):Prop:=Sl w A n c (nums k xs)
theorem Nums.len {k:IntKind} {w:World} {A:Option Addr} {n c:Nat} {xs:List Nat} (h:Nums k w A n c xs):xs.length=n:=by
 have:=h.1;rwa [nums_length] at this
theorem Nums.cap {k:IntKind} {w:World} {A:Option Addr} {n c:Nat} {xs:List Nat} (h:Nums k w A n c xs):n≤c∧c≤9223372036854775807:=⟨h.2.1,h.2.2.1⟩
theorem Nums.at_ {k:IntKind} {w:World} {A:Option Addr} {n c:Nat} {xs:List Nat} (h:Nums k w A n c xs) (hn:0 < n) :
 ∃ b off,A=some ⟨b,off,none⟩∧b < w.heap.size∧∀ j,j < n→w.cell? ⟨b,off+j,none⟩=some (.int k ((xs.getD j 0:Nat):Int)):=by
 have hl:=h.len
 obtain ⟨b,off,e,hb,hc⟩:=h.2.2.2 (by rw [nums_length,hl];exact hn)
 refine ⟨b,off,e,hb,fun j hj=>?_⟩
 rw [hc j (by rw [nums_length,hl];exact hj)]
 simp only [nums,List.getElem?_map]
 rw [List.getElem?_eq_getElem (by omega)]
 simp [List.getElem?_eq_getElem (show j < xs.length by omega)]
theorem Nums.below {k:IntKind} {w w':World} {A:Option Addr} {n c:Nat} {xs:List Nat} (h:Nums k w A n c xs) (hb:Below w.heap.size w w'):Nums k w' A n c xs:=Sl.below h hb
theorem Nums.nil (k:IntKind) (w:World) (A:Option Addr) (c:Nat) (h:c≤9223372036854775807):Nums k w A 0 c []:=Sl.nil w A c h
theorem Nums.get {k:IntKind} {w:World} {A:Option Addr} {n c:Nat} {xs:List Nat} (h:Nums k w A n c xs) {j:Nat} (hj:j < n) :
 ∃ b off x,A=some ⟨b,off,none⟩∧b < w.heap.size∧Hid (xs[j]? = some x)∧w.cell? ⟨b,off+j,none⟩=some (.int k ((x:Int))):=by
 obtain ⟨b,off,e,hb,hc⟩:=h.at_ (by omega)
 have hl:=h.len
 exact ⟨b,off,xs[j]'(by omega),e,hb,LH (List.getElem?_eq_getElem (by omega)),by rw [hc j hj];simp [List.getElem?_eq_getElem (show j < xs.length by omega)]⟩
theorem Nums.take {k:IntKind} {w:World} {A:Option Addr} {n c:Nat} {xs:List Nat} (h:Nums k w A n c xs) (m c':Nat) (hm:m≤n) (hc:m≤c') (hc':c'≤9223372036854775807) :
 Nums k w A m c' (xs.take m):=by
 have hl:=h.len
 refine ⟨by simp [nums];omega,hc,hc',fun hn=>?_⟩
 simp [nums] at hn
 obtain ⟨b,off,e,hb,hcell⟩:=h.2.2.2 (by rw [nums_length];omega)
 refine ⟨b,off,e,hb,fun j hj=>?_⟩
 simp [nums] at hj
 rw [hcell j (by rw [nums_length];omega)]
 simp [nums,List.getElem?_take]
 intro;omega
theorem cast_bne0 (a:Nat):((a:Int) != 0)=(a != 0):=by rw [Bool.eq_iff_iff];simp [bne_iff_ne]
def Own (w:World) (g:Nat) (t:TypeId) (k:IntKind) (zs:List Nat):Prop:=w.heap[g]? = some (.cells (nums k zs).toArray t (0,0))
theorem Own.lt {w:World} {g:Nat} {t:TypeId} {k:IntKind} {zs:List Nat} (h:Own w g t k zs):g < w.heap.size:=by
 rcases Nat.lt_or_ge g w.heap.size with hlt | hge
 · exact hlt
 · unfold Own at h;rw [Array.getElem?_eq_none hge] at h;cases h
theorem Own.cell {w:World} {g:Nat} {t:TypeId} {k:IntKind} {zs:List Nat} (h:Own w g t k zs) {i:Nat} (hi:i < zs.length) :
 ∃ x,Hid (zs[i]? = some x)∧w.cell? ⟨g,i,none⟩=some (.int k (x:Int)):=by
 refine ⟨zs[i],LH (List.getElem?_eq_getElem hi),?_⟩
 unfold Own at h
 simp [World.cell?,h,nums,List.getElem?_eq_getElem hi]
theorem Own.frozen {w:World} {g:Nat} {t:TypeId} {k:IntKind} {zs:List Nat} (h:Own w g t k zs) (i:Nat):w.frozen? ⟨g,i,none⟩=false:=by
 unfold Own at h
 simp [World.frozen?,h]
theorem Own.drewN {w:World} {g:Nat} {t:TypeId} {k:IntKind} {zs:List Nat} (h:Own w g t k zs) (n:Nat):Own (w.drewN n) g t k zs:=h
theorem Own.set_ {w:World} {g:Nat} {t:TypeId} {k:IntKind} {zs:List Nat} (h:Own w g t k zs) (i x:Nat) :
 Own (w.setCell ⟨g,i,none⟩ (.int k (x:Int))) g t k (zs.set i x):=by
 unfold Own at h ⊢
 simp [World.setCell,Array.getElem?_modify,h,nums,List.map_set]
theorem Own.nums {w:World} {g:Nat} {t:TypeId} {k:IntKind} {zs:List Nat} (h:Own w g t k zs) {n c:Nat} (hn:zs.length=n) (hc:n≤c) (hc':c≤9223372036854775807) :
 Nums k w (some ⟨g,0,none⟩) n c zs:=by
 refine ⟨by rw [nums_length];exact hn,hc,hc',fun _=>⟨g,0,rfl,h.lt,fun j hj=>?_⟩⟩
 unfold Own at h
 rw [nums_length] at hj
 simp [World.cell?,h,Go.Proofs.YtggbjdmpjidhgaaGreatDoor.nums]
theorem Own.new (w:World) (t:TypeId) (k:IntKind) (zs:List Nat):Own (w.alloc (.cells (Go.Proofs.YtggbjdmpjidhgaaGreatDoor.nums k zs).toArray t)) w.heap.size t k zs:=heap_alloc_new w _
theorem Nums.drewN {k:IntKind} {w:World} {A:Option Addr} {n c:Nat} {xs:List Nat} (h:Nums k w A n c xs) (m:Nat):Nums k (w.drewN m) A n c xs:=h
theorem made_nums (k:IntKind) (n:Nat):madeCells #[Value.int k 0] n=(nums k (List.replicate n 0)).toArray:=by
 apply Array.ext
 · simp [madeCells,nums]
 · intro j h1 h2
   simp [madeCells,nums,Nat.mod_one]
theorem run_make_nums {P:Program} (t e:TypeId) (k:IntKind) (bytes:Nat) (ht:P.underlying t=some (.slice e))
 (hi:(P.info? e).map (fun i=>(i.zero,i.size,i.bytes))=some (some (.int k 0),1,bytes)) (n:Nat) (hb:bytes * n≤281474976710656) (hn:n≤9223372036854775807) (w:World) :
 (Instr.makeSlice t (.int .i64 (n:Int)) (.int .i64 (n:Int))).run P w = .ok (.slice (some ⟨w.heap.size,0,none⟩) n n) (w.alloc (.cells (nums k (List.replicate n 0)).toArray e)):=by
 obtain ⟨i,hi',hz,hs,hby⟩:=info_parts hi
 have hb':(i.bytes:Int) * (n:Int)≤281474976710656:=by
  rw [hby]
  have h:((bytes * n:Nat):Int)≤281474976710656:=by omega
  rwa [Int.natCast_mul] at h
 have hr:=run_make (P:=P) w t e i (.int k 0) ht hi' hz .i64 .i64 n n (by omega) (by omega) hb' (by omega)
 simp only [Int.toNat_natCast] at hr
 rw [hr,hs,Nat.mul_one]
 simp only [Value.cells,made_nums]
theorem below_tail {w w1 w2:World} (h:Below w.heap.size w w1) (h2:Below w1.heap.size w1 w2):Below w.heap.size w w2:=h.trans (h2.mono h.size)
theorem below_drewN {B:Nat} {a w:World} (h:Below B a w) (n:Nat):Below B a (w.drewN n):=⟨h.os,h.tape,h.output,h.size,h.block⟩
def lenOf:Value→Nat
 | .slice _ n _=>n
 | _=>0
def Same (w w':World):Prop:=∃ m,w'=w.drewN m
theorem Same.refl (w:World):Same w w:=⟨0,rfl⟩
theorem Same.drewN {a w:World} (h:Same a w) (n:Nat):Same a (w.drewN n):=by
 obtain ⟨m,rfl⟩:=h
 exact ⟨m+n,by rw [World.drewN_drewN]⟩
theorem Same.trans {a b c:World} (h:Same a b) (h':Same b c):Same a c:=by
 obtain ⟨m,rfl⟩:=h'
 exact h.drewN m
theorem Same.below {w w':World} (h:Same w w') (B:Nat):Below B w w':=by
 obtain ⟨m,rfl⟩:=h
 exact below_drewN (Below.refl _ _) m
theorem Same.size {w w':World} (h:Same w w'):w'.heap.size=w.heap.size:=by
 obtain ⟨m,rfl⟩:=h
 rfl
theorem Nums.same {k:IntKind} {w w':World} {A:Option Addr} {n c:Nat} {xs:List Nat} (h:Nums k w A n c xs) (hs:Same w w'):Nums k w' A n c xs:=h.below (hs.below _)
section
variable {P:Program} {w:World}
theorem run_append_nil' (base:Nat) (t ty e:TypeId) (i:TypeInfo) (ht:P.underlying t=some (.slice e)) (hi:P.info? e=some i)
 (A:Option Addr) (n c:Nat) (xs:List Value) (hown:w.ownsRow base e 1 (.slice A n c) n xs) (c2:Nat) :
 (Builtin.append_ #[t,t] ty #[.slice A n c, .slice none 0 c2]).run P w = .ok (.slice A n c) w:=by
 rcases hown.2 with ⟨hv,rfl⟩ | ⟨g,cap,cur,hv,_,_,hnc,_⟩
 · rw [hv]
   simp [Builtin.append_,run_underlying ht,sizeOf,typeInfo,hi,Builtin.lenOf,Builtin.firstCells]
 · rw [hv]
   simp [Builtin.append_,run_underlying ht,sizeOf,typeInfo,hi,Builtin.lenOf,Builtin.firstCells,hnc,storeCells]
theorem own_form {base e:Nat} {v:Value} {n:Nat} {xs:List Value} (h:w.ownsRow base e 1 v n xs):∃ A c,v = .slice A n c:=by
 rcases h.2 with ⟨rfl,rfl⟩ | ⟨g,cap,cur,rfl,_⟩
 · exact ⟨_,_,rfl⟩
 · exact ⟨_,_,rfl⟩
theorem own_sl {base e:Nat} {A:Option Addr} {n c:Nat} {xs:List Value} (h:w.ownsRow base e 1 (.slice A n c) n xs):Sl w A n c xs:=by
 have hl:xs.length=n:=by simpa using h.1
 rcases h.2 with ⟨hv,rfl⟩ | ⟨g,cap,cur,hv,hb,hg,hnc,hcm,hcs,htake⟩
 · simp at hv
   obtain ⟨rfl,rfl⟩:=hv
   obtain rfl:=List.eq_nil_of_length_eq_zero hl
   exact Sl.nil _ _ _ (by simp)
 · injection hv with h1 h2 h3
   subst h1;subst h3
   refine ⟨hl,hnc,by simpa [maxLen] using hcm,fun hn=>⟨g,0,rfl,?_,fun j hj=>?_⟩⟩
   · rcases Nat.lt_or_ge g w.heap.size with hlt | hge
     · exact hlt
     · rw [Array.getElem?_eq_none hge] at hg;cases hg
   · have:=h.cellAt (e:=e) (size:=1) j (by omega)
     simpa using this
theorem own_at {base e:Nat} {A:Option Addr} {n c:Nat} {xs:List Value} (h:w.ownsRow base e 1 (.slice A n c) n xs) {j:Nat} (hj:j < n) :
 ∃ g u,A=some ⟨g,0,none⟩∧base≤g∧g < w.heap.size∧Hid (xs[j]? = some u)∧w.cell? ⟨g,j,none⟩=some u∧w.frozen? ⟨g,j,none⟩=false:=by
 have hl:xs.length=n:=by simpa using h.1
 rcases h.2 with ⟨hv,rfl⟩ | ⟨g,cap,cur,hv,hb,hg,_⟩
 · omega
 · injection hv with h1 h2 h3
   subst h1;subst h3
   have hx:xs[j]? = some (xs[j]'(by omega)):=List.getElem?_eq_getElem (by omega)
   refine ⟨g,xs[j]'(by omega),rfl,hb,?_,LH hx,?_,h.frozenAt j⟩
   · rcases Nat.lt_or_ge g w.heap.size with hlt | hge
     · exact hlt
     · rw [Array.getElem?_eq_none hge] at hg;cases hg
   · rw [h.cellAt j (by omega),hx]
theorem own_set {base e:Nat} {g n c:Nat} {xs:List Value} (h:w.ownsRow base e 1 (.slice (some ⟨g,0,none⟩) n c) n xs) (j:Nat) (u:Value) :
 (w.setCell ⟨g,j,none⟩ u).ownsRow base e 1 (.slice (some ⟨g,0,none⟩) n c) n (xs.set j u):=(h.stored j u).1
theorem own_below {w':World} {base e:Nat} {A:Option Addr} {n c:Nat} {xs:List Value} (h:w.ownsRow base e 1 (.slice A n c) n xs) (hb:Below w.heap.size w w') :
 w'.ownsRow base e 1 (.slice A n c) n xs:=by
 refine ⟨h.1,?_⟩
 rcases h.2 with hn | ⟨g,cap,cur,hv,hbg,hg,rest⟩
 · exact .inl hn
 · refine .inr ⟨g,cap,cur,hv,hbg,?_,rest⟩
   have hlt:g < w.heap.size:=by
    rcases Nat.lt_or_ge g w.heap.size with hlt | hge
    · exact hlt
    · rw [Array.getElem?_eq_none hge] at hg;cases hg
   exact (hb.block g hlt).trans hg
theorem own_mono {base base' e:Nat} {v:Value} {n:Nat} {xs:List Value} (h:w.ownsRow base e 1 v n xs) (hb:base'≤base):w.ownsRow base' e 1 v n xs:=by
 refine ⟨h.1,?_⟩
 rcases h.2 with hn | ⟨g,cap,cur,hv,hbg,rest⟩
 · exact .inl hn
 · exact .inr ⟨g,cap,cur,hv,by omega,rest⟩
theorem own_made (w:World) (e:TypeId) (n:Nat) (xs:List Value) (hl:xs.length=n) (hn:n≤9223372036854775807) :
 (w.alloc (.cells xs.toArray e)).ownsRow w.heap.size e 1 (.slice (some ⟨w.heap.size,0,none⟩) n n) n xs:=by
 have:=World.ownsRow_lit (base:=w.heap.size) (e:=e) (size:=1) w xs.toArray n (Nat.le_refl _) (by simpa [maxLen] using hn) (by simp [hl])
 simpa using this
theorem wpl_append {ops:Array Oper} {rest:List Oper} {o:Oper} {a:Act} {Q:Exit→Act→World→Prop} (hgd:o.guard=none) (s x:Operand) (t:TypeId)
 (ho:o.op = .call { callee := .builtin .append,args:=#[s,x],argTypes:=#[t,t] })
 (base:Nat) (e:TypeId) (z:Value) (bytes:Nat) (ht:P.underlying t=some (.slice e))
 (hi:(P.info? e).map (fun i=>(i.zero,i.size,i.bytes))=some (some z,1,bytes)) (hz1:z.cells.size=1)
 (A:Option Addr) (n c:Nat) (xs:List Value) (hs:a.eval s = .slice A n c) (hown:w.ownsRow base e 1 (.slice A n c) n xs)
 (A2:Option Addr) (m c2:Nat) (news:List Value) (hx:a.eval x = .slice A2 m c2) (hr:Sl w A2 m c2 news) (h1:∀ u ∈ news,u.oneCell'=true)
 (h63:n+m≤9223372036854775807) (hbytes:(n+m) * bytes≤140737488355328) (hbase:base≤w.heap.size)
 (h:∀ A' c' w',w'.ownsRow base e 1 (.slice A' (n+m) c') (n+m) (xs++news)→w.grownBy w' (Value.slice A n c).ownBlock →
   wpList P ops Q rest (a.put o.dst (.slice A' (n+m) c')) w'):wpList P ops Q (o::rest) a w:=by
 obtain ⟨i,hi',hz,hsz,hby⟩:=info_parts hi
 have key:∃ v' w',(Builtin.append_ #[t,t] o.type #[.slice A n c, .slice A2 m c2]).run P w = .ok v' w'∧w'.ownsRow base e 1 v' (n+m) (xs++news)∧w.grownBy w' (Value.slice A n c).ownBlock:=by
  rcases A2 with _ | ad
  · have hm:m=0:=by
     rcases Nat.eq_zero_or_pos m with h0 | h0
     · exact h0
     · obtain ⟨b,off,he,_⟩:=hr.2.2.2 (by rw [hr.1];exact h0)
       cases he
    subst hm
    have hn:news=[]:=List.eq_nil_of_length_eq_zero hr.1
    subst hn
    exact ⟨_,w,run_append_nil' base t o.type e i ht hi' A n c xs hown c2,by simpa using hown,⟨rfl,rfl,rfl,Nat.le_refl _,fun _ _ _=>rfl⟩⟩
  · have hcells:∀ j u,news[j]? = some u→w.cell? (ad.add j)=some u:=by
     intro j u hu
     have hjl:j < news.length:=(List.getElem?_eq_some_iff.1 hu).1
     obtain ⟨b,off,he,_,hc⟩:=hr.2.2.2 (by omega)
     injection he with he
     subst he
     have:=hc j hjl
     rw [hu] at this
     unfold Addr.add
     split
     · rename_i h0;subst h0;simpa using this
     · exact this
    obtain ⟨v',w',h2,h3,h4,_⟩:=run_append_own (P:=P) w base t o.type e i z 1 bytes ht hi' hz hsz hby hz1 (by decide) _ n xs hown ad m c2 news (by rw [hr.1,Nat.mul_one]) hcells h1 (by simpa [maxLen] using h63) hbytes hbase
    exact ⟨v',w',h2,h3,h4⟩
 obtain ⟨v',w',hrun,h2,h3⟩:=key
 obtain ⟨A',c',rfl⟩:=own_form h2
 refine wpList_plain hgd fun K hK=>?_
 unfold Oper.wp execOp
 simp only [ho,resolve,invoke,builtin,Sem.run_bind,Sem.run_pure,Result.andThen_ok,List.map_toArray,List.map_cons,List.map_nil,hs,hx,hrun]
 exact hK _ _ (h A' c' w' h2 h3)
theorem wpl_append1 {ops:Array Oper} {rest:List Oper} {o:Oper} {a:Act} {Q:Exit→Act→World→Prop} (hgd:o.guard=none) (s x:Operand) (t:TypeId)
 (ho:o.op = .call { callee := .builtin .append,args:=#[s,x],argTypes:=#[t,t] })
 (base:Nat) (e:TypeId) (z:Value) (bytes:Nat) (ht:P.underlying t=some (.slice e))
 (hi:(P.info? e).map (fun i=>(i.zero,i.size,i.bytes))=some (some z,1,bytes)) (hz1:z.cells.size=1)
 (A:Option Addr) (n c:Nat) (xs:List Value) (hs:a.eval s = .slice A n c) (hown:w.ownsRow base e 1 (.slice A n c) n xs)
 (u:Value) (hx:a.eval x = .slice (some ⟨w.heap.size,0,none⟩) 1 1) (h1:u.oneCell'=true)
 (h63:n+1≤9223372036854775807) (hbytes:(n+1) * bytes≤140737488355328) (hbase:base≤w.heap.size)
 (h:∀ A' c' w',w'.ownsRow base e 1 (.slice A' (n+1) c') (n+1) (xs++[u])→w.grownBy w' (Value.slice A n c).ownBlock →
   wpList P ops Q rest (a.put o.dst (.slice A' (n+1) c')) w'):wpList P ops Q (o::rest) a (w.alloc (.cells #[u] e)):=by
 have hnew:=World.ownsRow_lit (base:=w.heap.size) (e:=e) (size:=1) w #[u] 1 (Nat.le_refl _) (by simp [maxLen]) (by simp)
 refine wpl_append hgd s x t ho base e z bytes ht hi hz1 A n c xs hs (hown.alloc _) _ 1 1 [u] hx (own_sl hnew) (by simpa using h1) h63 hbytes (by simp;omega) fun A' c' w' h2 h3=>?_
 refine h A' c' w' h2 ?_
 have hg:w.grownBy (w.alloc (.cells #[u] e)) (Value.slice A n c).ownBlock:=World.grownBy_alloc _ _ _
 refine ⟨h3.os.trans hg.os,h3.tape.trans hg.tape,h3.output.trans hg.output,Nat.le_trans hg.size h3.size,fun k hk hne=>?_⟩
 exact (h3.block k (Nat.lt_of_lt_of_le hk hg.size) hne).trans (hg.block k hk hne)
end
theorem below_append {w wr w':World} {base e:Nat} {A:Option Addr} {n c:Nat} {xs:List Value} (hb:Below base w wr) (hg:wr.grownBy w' (Value.slice A n c).ownBlock)
 (hown:wr.ownsRow base e 1 (.slice A n c) n xs) (hbase:base≤wr.heap.size):Below base w w' :=
 hb.grown hg hbase fun k hk=>(hown.lt k hk).1
theorem nums_snoc (k:IntKind) (xs:List Nat) (x:Nat):nums k (xs++[x])=nums k xs++[.int k (x:Int)]:=by simp [nums]
def ints (k:IntKind) (zs:List Int):List Value:=zs.map (Value.int k)
theorem ints_length (k:IntKind) (zs:List Int):(ints k zs).length=zs.length:=by simp [ints]
def Ints (k:IntKind) (w:World) (A:Option Addr) (n c:Nat) (zs:List Int):Prop:=Sl w A n c (ints k zs)
theorem Ints.len {k:IntKind} {w:World} {A:Option Addr} {n c:Nat} {zs:List Int} (h:Ints k w A n c zs):zs.length=n:=by
 have:=h.1;rwa [ints_length] at this
theorem Ints.cap {k:IntKind} {w:World} {A:Option Addr} {n c:Nat} {zs:List Int} (h:Ints k w A n c zs):n≤c∧c≤9223372036854775807:=⟨h.2.1,h.2.2.1⟩
theorem Ints.below {k:IntKind} {w w':World} {A:Option Addr} {n c:Nat} {zs:List Int} (h:Ints k w A n c zs) (hb:Below w.heap.size w w'):Ints k w' A n c zs:=Sl.below h hb
theorem Ints.same {k:IntKind} {w w':World} {A:Option Addr} {n c:Nat} {zs:List Int} (h:Ints k w A n c zs) (hs:Same w w'):Ints k w' A n c zs:=h.below (hs.below _)
theorem Ints.drewN {k:IntKind} {w:World} {A:Option Addr} {n c:Nat} {zs:List Int} (h:Ints k w A n c zs) (m:Nat):Ints k (w.drewN m) A n c zs:=h
theorem Ints.nil (k:IntKind) (w:World) (A:Option Addr) (c:Nat) (h:c≤9223372036854775807):Ints k w A 0 c []:=Sl.nil w A c h
theorem Ints.get {k:IntKind} {w:World} {A:Option Addr} {n c:Nat} {zs:List Int} (h:Ints k w A n c zs) {j:Nat} (hj:j < n) :
 ∃ b off x,A=some ⟨b,off,none⟩∧b < w.heap.size∧Hid (zs[j]? = some x)∧w.cell? ⟨b,off+j,none⟩=some (.int k x):=by
 have hl:=h.len
 obtain ⟨b,off,e,hb,hc⟩:=h.2.2.2 (by rw [ints_length];omega)
 refine ⟨b,off,zs[j]'(by omega),e,hb,LH (List.getElem?_eq_getElem (by omega)),?_⟩
 rw [hc j (by rw [ints_length];omega)]
 simp [ints,List.getElem?_eq_getElem (show j < zs.length by omega)]
theorem Ints.part {k:IntKind} {w:World} {b off n c:Nat} {zs:List Int} (h:Ints k w (some ⟨b,off,none⟩) n c zs) (i m c':Nat) (hm:i+m≤n) (hc:m≤c') (hc':c'≤9223372036854775807) :
 Ints k w (some ⟨b,off+i,none⟩) m c' ((zs.drop i).take m):=by
 have hl:=h.len
 refine ⟨by simp [ints];omega,hc,hc',fun hn=>?_⟩
 simp [ints] at hn
 obtain ⟨b',off',e,hb,hcell⟩:=h.2.2.2 (by rw [ints_length];omega)
 injection e with e
 injection e with e1 e2
 subst e1;subst e2
 refine ⟨b,off+i,rfl,hb,fun j hj=>?_⟩
 simp [ints] at hj
 rw [Nat.add_assoc,hcell (i+j) (by rw [ints_length];omega)]
 simp [ints,List.getElem?_take,List.getElem?_drop]
 intro;omega
theorem Ints.take {k:IntKind} {w:World} {A:Option Addr} {n c:Nat} {zs:List Int} (h:Ints k w A n c zs) (m c':Nat) (hm:m≤n) (hc:m≤c') (hc':c'≤9223372036854775807) :
 Ints k w A m c' (zs.take m):=by
 have hl:=h.len
 refine ⟨by simp [ints];omega,hc,hc',fun hn=>?_⟩
 simp [ints] at hn
 obtain ⟨b,off,e,hb,hcell⟩:=h.2.2.2 (by rw [ints_length];omega)
 refine ⟨b,off,e,hb,fun j hj=>?_⟩
 simp [ints] at hj
 rw [hcell j (by rw [ints_length];omega)]
 simp [ints,List.getElem?_take]
 intro;omega
theorem ints_append (k:IntKind) (xs ys:List Int):ints k (xs++ys)=ints k xs++ints k ys:=by simp [ints]
theorem ints_snoc (k:IntKind) (xs:List Int) (x:Int):ints k (xs++[x])=ints k xs++[.int k x]:=by simp [ints]
def RetInts (k:IntKind) (w:World) (zs:List Int) (e:Ending) (w':World):Prop :=
 ∃ A c,e = .returned (.slice A zs.length c)∧Ints k w' A zs.length c zs∧Below w.heap.size w w'
theorem lit_sl (w:World) (t:TypeId) (vs:List Value) (n:Nat) (arr:Array Value) (h:arr=vs.toArray) (hn:vs.length=n) (hs:n≤1000000):Sl (w.alloc (.cells arr t)) (some ⟨w.heap.size,0,none⟩) n n vs:=by
 subst h
 have:=World.ownsRow_lit (base:=w.heap.size) (e:=t) (size:=1) w vs.toArray n (Nat.le_refl _) (by simp [maxLen];omega) (by simp [hn])
 simpa using own_sl this
def bitN (n:Int):Nat:=if 0≤n∧n < 32 then 2 ^ n.toNat else 0
def ofN (l:List Int):Nat:=l.foldl (fun s n=>s ||| bitN n) 0
def hasN (s:Nat) (n:Int):Bool:=decide (0≤n∧n < 32) && s.testBit n.toNat
def memsN (s:Nat):List Nat:=(List.range 32).filter (fun n=>s.testBit n)
theorem bitN_lt (n:Int):bitN n < 4294967296:=by
 unfold bitN
 split
 · rename_i h
   have:=Nat.pow_lt_pow_right (a:=2) (by decide) (show n.toNat < 32 by omega)
   simpa using this
 · omega
theorem or_lt32 {a b:Nat} (ha:a < 4294967296) (hb:b < 4294967296):a ||| b < 4294967296:=Nat.or_lt_two_pow (n:=32) ha hb
theorem ofN_snoc (l:List Int) (n:Int):ofN (l++[n])=ofN l ||| bitN n:=by simp [ofN]
theorem foldl_lt (l:List Int) (s:Nat) (hs:s < 4294967296):l.foldl (fun s n=>s ||| bitN n) s < 4294967296:=by
 induction l generalizing s with
 | nil=>exact hs
 | cons n l ih=>exact ih _ (or_lt32 hs (bitN_lt n))
theorem ofN_lt (l:List Int):ofN l < 4294967296:=foldl_lt l 0 (by decide)
theorem and_pow (s k:Nat):s &&& 2 ^ k=if s.testBit k then 2 ^ k else 0:=by
 apply Nat.eq_of_testBit_eq
 intro i
 rw [Nat.testBit_and,Nat.testBit_two_pow]
 by_cases h:k=i
 · subst h
   cases hb:s.testBit k <;> simp
 · cases hb:s.testBit k <;> simp [h,Nat.testBit_two_pow]
theorem and_bit (s:Nat) (n:Int):(s &&& bitN n != 0)=hasN s n:=by
 unfold bitN hasN
 split
 · rename_i h
   rw [decide_eq_true h,Bool.true_and,and_pow]
   have hp:=Nat.two_pow_pos n.toNat
   cases hb:s.testBit n.toNat
   · simp
   · simp only [if_true,bne_iff_ne]
     omega
 · rename_i h
   rw [decide_eq_false h]
   simp
theorem test_big (s:Nat) (hs:s < 4294967296) (i:Nat) (hi:32≤i):s.testBit i=false :=
 Nat.testBit_lt_two_pow (Nat.lt_of_lt_of_le hs (by simpa using Nat.pow_le_pow_right (n:=2) (by decide) hi))
theorem mems_mem (s:Nat) (n:Nat):n ∈ memsN s ↔ n < 32∧s.testBit n=true:=by simp [memsN]
theorem sub_low (k m:Nat):(2 ^ k * (2 * m+1)) &&& (2 ^ k * (2 * m+1) - 1)=2 ^ k * (2 * m):=by
 apply Nat.eq_of_testBit_eq
 intro i
 have e:2 ^ k * (2 * m+1) - 1=2 ^ k * (2 * m)+(2 ^ k - 1):=by
  have:=Nat.two_pow_pos k
  rw [Nat.mul_add,Nat.mul_one];omega
 rw [Nat.testBit_and,e,Nat.testBit_two_pow_mul,Nat.testBit_two_pow_mul,Nat.testBit_two_pow_mul_add _ (by have:=Nat.two_pow_pos k;omega)]
 by_cases h:i < k
 · simp [h,Nat.not_le.2 h]
 · have h':k≤i:=by omega
   simp only [h',decide_true,Bool.true_and,h,if_false]
   obtain ⟨j,rfl⟩:∃ j,i=k+j:=⟨i - k,by omega⟩
   rw [Nat.add_sub_cancel_left]
   cases j with
   | zero=>simp [Nat.testBit_zero]
   | succ j =>
     rw [Nat.testBit_succ,Nat.testBit_succ]
     have d1:(2 * m+1) / 2=m:=by omega
     have d2:2 * m / 2=m:=by omega
     rw [d1,d2,Bool.and_self]
theorem filter_range_split (p:Nat→Bool) (k n:Nat) (hk:k < n) (h0:∀ i,i < k→p i=false) (h1:p k=true) :
 (List.range n).filter p=k::((List.range n).filter (fun i=>p i && decide (i ≠ k))):=by
 obtain ⟨d,rfl⟩:∃ d,n=k+(d+1):=⟨n - k - 1,by omega⟩
 have e:List.range (k+(d+1))=List.range k++k::(List.range d).map (fun i=>k+1+i):=by
  rw [List.range_add,List.range_succ_eq_map]
  simp [Function.comp_def]
  intro a _;omega
 have a1:(List.range k).filter p=[]:=List.filter_eq_nil_iff.2 fun i hi=>by simp [h0 i (List.mem_range.1 hi)]
 have a2:(List.range k).filter (fun i=>p i && decide (i ≠ k))=[]:=List.filter_eq_nil_iff.2 fun i hi=>by simp [h0 i (List.mem_range.1 hi)]
 rw [e,List.filter_append,List.filter_append,a1,a2,List.filter_cons,List.filter_cons,if_pos h1]
 simp only [List.nil_append,ne_eq,not_true_eq_false,decide_false,Bool.and_false]
 congr 1
 apply List.filter_congr
 intro i hi
 obtain ⟨j,_,rfl⟩:=List.mem_map.1 hi
 have:k+1+j ≠ k:=by omega
 simp [this]
theorem low_bits (s:Nat) (h0:s ≠ 0) (hs:s < 4294967296) :
 Lib.ctz 32 s < 32∧(∀ i,i < Lib.ctz 32 s→s.testBit i=false)∧s.testBit (Lib.ctz 32 s)=true∧(∀ i,(s &&& (s - 1)).testBit i=(s.testBit i && decide (i ≠ Lib.ctz 32 s)))∧s &&& (s - 1) < s:=by
 obtain ⟨m,hm,hk⟩:=Lib.ctzFrom_spec 32 s (by omega) hs
 have e:Lib.ctz 32 s=Lib.ctzFrom 32 s:=by simp [Lib.ctz,h0]
 rw [e]
 generalize Lib.ctzFrom 32 s=k at *
 have hsub:=sub_low k m
 rw [← hm] at hsub
 have hp:=Nat.two_pow_pos k
 refine ⟨hk,fun i hi=>?_,?_,fun i=>?_,?_⟩
 · rw [hm,Nat.testBit_two_pow_mul]
   simp [Nat.not_le.2 hi]
 · rw [hm,Nat.testBit_two_pow_mul]
   simp [Nat.testBit_zero]
 · rw [hsub,Nat.testBit_two_pow_mul,hm,Nat.testBit_two_pow_mul]
   by_cases h:k≤i
   · simp only [h,decide_true,Bool.true_and]
     obtain ⟨j,rfl⟩:∃ j,i=k+j:=⟨i - k,by omega⟩
     rw [Nat.add_sub_cancel_left]
     cases j with
     | zero=>simp [Nat.testBit_zero]
     | succ j =>
       rw [Nat.testBit_succ,Nat.testBit_succ]
       have d1:(2 * m+1) / 2=m:=by omega
       have d2:2 * m / 2=m:=by omega
       have d3:k+(j+1) ≠ k:=by omega
       simp [d1,d2,d3]
   · simp [h]
 · rw [hsub]
   have:2 ^ k * (2 * m) < 2 ^ k * (2 * m+1):=Nat.mul_lt_mul_of_pos_left (by omega) hp
   omega
theorem mems_step (s:Nat) (h0:s ≠ 0) (hs:s < 4294967296):memsN s=Lib.ctz 32 s::memsN (s &&& (s - 1)):=by
 obtain ⟨hk,h1,h2,h3,_⟩:=low_bits s h0 hs
 unfold memsN
 rw [filter_range_split (fun i=>s.testBit i) (Lib.ctz 32 s) 32 hk h1 h2]
 congr 1
 apply List.filter_congr
 intro i _
 rw [h3]
theorem mems_zero:memsN 0=[]:=by
 unfold memsN
 exact List.filter_eq_nil_iff.2 fun i _=>by simp
theorem Tryz.infoInt:(Tryz.prog.info? 3).map (fun i=>(i.zero,i.size,i.bytes))=some (some (.int .i64 0),1,8):=by kernel_rfl
theorem Tryz.infoU32:(Tryz.prog.info? 49).map (fun i=>(i.zero,i.size,i.bytes))=some (some (.int .u32 0),1,4):=by kernel_rfl
theorem or32 (a b:Nat) (ha:a < 4294967296) (hb:b < 4294967296):bits .or .u32 (a:Int) (b:Int)=((a ||| b:Nat):Int):=by
 have hx:a ||| b < 2 ^ 32:=Nat.or_lt_two_pow (by omega) (by omega)
 have h1:(BitVec.ofInt 32 (a:Int)).toNat=a:=by rw [BitVec.ofInt_natCast,BitVec.toNat_ofNat];exact Nat.mod_eq_of_lt (by omega)
 have h2:(BitVec.ofInt 32 (b:Int)).toNat=b:=by rw [BitVec.ofInt_natCast,BitVec.toNat_ofNat];exact Nat.mod_eq_of_lt (by omega)
 show IntKind.u32.wrap ((BitVec.ofInt 32 (a:Int) ||| BitVec.ofInt 32 (b:Int)).toNat:Int)=_
 rw [BitVec.toNat_or,h1,h2,IntKind.wrap_u32]
 omega
theorem and32 (a b:Nat) (ha:a < 4294967296) (hb:b < 4294967296):bits .and .u32 (a:Int) (b:Int)=((a &&& b:Nat):Int):=by
 have hx:a &&& b < 2 ^ 32:=Nat.and_lt_two_pow _ (by omega)
 have h1:(BitVec.ofInt 32 (a:Int)).toNat=a:=by rw [BitVec.ofInt_natCast,BitVec.toNat_ofNat];exact Nat.mod_eq_of_lt (by omega)
 have h2:(BitVec.ofInt 32 (b:Int)).toNat=b:=by rw [BitVec.ofInt_natCast,BitVec.toNat_ofNat];exact Nat.mod_eq_of_lt (by omega)
 show IntKind.u32.wrap ((BitVec.ofInt 32 (a:Int) &&& BitVec.ofInt 32 (b:Int)).toNat:Int)=_
 rw [BitVec.toNat_and,h1,h2,IntKind.wrap_u32]
 omega
theorem set_bit1 (n:Int) (w:World):Calls Tryz.prog 197 #[.int .i64 n] w fun e w'=>e = .returned (.int .u32 ((bitN n:Nat):Int))∧w=w':=by
 by_cases h0:n < 0
 · have hf:bitN n=0:=by simp [bitN];omega
   rw [hf]
   clear hf
   go_enter Tryz.func197,Tryz.ntmps197
   go_wp2
   go_ret
   exact ⟨rfl,rfl⟩
 by_cases h1:32≤n
 · have hf:bitN n=0:=by simp [bitN];omega
   rw [hf]
   clear hf
   go_enter Tryz.func197,Tryz.ntmps197
   go_wp2
   go_ret
   exact ⟨rfl,rfl⟩
 obtain ⟨r,rfl⟩:∃ r:Nat,n=(r:Int):=⟨n.toNat,by omega⟩
 have hf:bitN (r:Int)=2 ^ r:=by simp [bitN];omega
 have hs:(2:Int) ^ r % 4294967296=((2 ^ r:Nat):Int):=by
  have h:(2:Nat) ^ r < 4294967296:=by
   have:=Nat.pow_lt_pow_right (a:=2) (by decide) (show r < 32 by omega)
   simpa using this
  have e:(2:Int) ^ r=((2 ^ r:Nat):Int):=by simp
  rw [e]
  omega
 rw [hf]
 have hr2:(r:Int) < 32:=by omega
 generalize (2:Nat) ^ r=p at *
 clear hf h0 h1
 go_enter Tryz.func197,Tryz.ntmps197
 go_wp2
 go_ret
 exact ⟨congrArg Ending.returned (congrArg (Value.int .u32) hs),rfl⟩
theorem ref_bit (n:Int) (w:World):Calls Tryz.prog 63 #[.int .i64 n] w fun e w'=>e = .returned (.int .u32 ((bitN n:Nat):Int))∧w=w':=by
 by_cases h0:n < 0
 · have hf:bitN n=0:=by simp [bitN];omega
   rw [hf]
   clear hf
   go_enter Tryz.func63,Tryz.ntmps63
   go_wp2
   go_ret
   exact ⟨rfl,rfl⟩
 by_cases h1:31 < n
 · have hf:bitN n=0:=by simp [bitN];omega
   rw [hf]
   clear hf
   go_enter Tryz.func63,Tryz.ntmps63
   go_wp2
   go_ret
   exact ⟨rfl,rfl⟩
 obtain ⟨r,rfl⟩:∃ r:Nat,n=(r:Int):=⟨n.toNat,by omega⟩
 have hf:bitN (r:Int)=2 ^ r:=by simp [bitN];omega
 rw [hf]
 have hr2:(r:Int)≤31:=by omega
 clear hf h0 h1
 go_enter Tryz.func63,Tryz.ntmps63
 go_wp2
 go_loop [3,4] (fun o t=>∃ q p:Nat,q≤r∧t = .int .i64 (q:Int)∧o = .int .u32 (p:Int)∧Hid (2 ^ q=p)∧p≤2147483648) (fun _ t=>r - (intOf t).toNat)
 case atStart=>exact ⟨0,1,Nat.zero_le _,rfl,rfl,LH rfl,by decide⟩
 case round =>
  obtain ⟨q,p,hq,rfl,rfl,Hp,hp⟩:=hrel
  by_cases hlt:q < r
  · have hp2:2 * p≤2147483648:=by
     have:=Nat.pow_le_pow_right (n:=2) (by decide) (show q+1≤31 by omega)
     rw [Nat.pow_succ,Hp.out] at this
     omega
    go_wp2
    go_round
    case rel=>exact ⟨q+1,2 * p,by omega,by go_num,by go_num,LH (by rw [Nat.pow_succ,Hp.out,Nat.mul_comm]),hp2⟩
    case measure=>simp [intOf];omega
  · obtain rfl:q=r:=by omega
    go_wp2
    go_ret
    exact ⟨by show Ending.returned (.int .u32 (p:Int))=_;rw [← Hp.out];simp,rfl⟩
theorem ref_has (s:Nat) (n:Int) (w:World) (hs:s < 4294967296):Calls Tryz.prog 62 #[.int .u32 (s:Int), .int .i64 n] w fun e w'=>e = .returned (.bool (hasN s n))∧w=w':=by
 have h1:=and32 s (bitN n) hs (bitN_lt n)
 have h2:(((s &&& bitN n:Nat):Int) != 0)=hasN s n:=by
  rw [← and_bit,Bool.eq_iff_iff]
  simp [bne_iff_ne]
 have hc:=ref_bit n w
 generalize bitN n=b at *
 generalize s &&& b=x at *
 have Hc:=LH hc
 clear hc
 go_enter Tryz.func62,Tryz.ntmps62
 go_wp2_with (go_at_call 63;(with_reducible refine Hc.out.mono ?_);rintro e w' ⟨rfl,rfl⟩)
 go_ret
 exact ⟨rfl,rfl⟩
theorem set_of (A:Option Addr) (n c:Nat) (zs:List Int) (w:World) (h:Ints .i64 w A n c zs):Calls Tryz.prog 149 #[.slice A n c] w fun e w'=>e = .returned (.int .u32 ((ofN zs:Nat):Int))∧w=w':=by
 obtain rfl:=h.len
 have hcap:=h.cap
 go_enter Tryz.func149,Tryz.ntmps149
 go_wp2
 go_loop [2,4,7] (fun s _ i=>∃ k:Nat,k≤zs.length∧i = .int .i64 (k:Int)∧s = .int .u32 ((ofN (zs.take k):Nat):Int)) (fun _ _ i=>zs.length - (intOf i).toNat)
 case atStart=>exact ⟨0,Nat.zero_le _,rfl,rfl⟩
 case round =>
  obtain ⟨k,hk,rfl,rfl⟩:=hrel
  by_cases hlt:k < zs.length
  · obtain ⟨b,off,x,rfl,hb,Hx,hc⟩:=h.get (j:=k) hlt
    have hor:=or32 (ofN (zs.take k)) (bitN x) (ofN_lt _) (bitN_lt x)
    have Hst:Hid (ofN (zs.take (k+1))=ofN (zs.take k) ||| bitN x):=LH (by rw [List.take_add_one,Hx.out];exact ofN_snoc _ _)
    have hcl:=set_bit1 x w
    generalize ofN (zs.take k)=s at *
    generalize bitN x=t at *
    have Hc:=LH hcl
    clear hcl
    go_wp2_with (go_at_call 197;(with_reducible refine Hc.out.mono ?_);rintro e w' ⟨rfl,rfl⟩)
    go_round
    case rel=>exact ⟨k+1,by omega,by go_num,by rw [Hst.out]⟩
    case measure=>simp [intOf];omega
  · obtain rfl:k=zs.length:=by omega
    go_wp2
    go_ret
    exact ⟨by simp,rfl⟩
def TabAt (w:World):Prop:=∀ j,j < 32→w.cell? ⟨0,j,none⟩=some (.int .u8 ((Lib.deBruijn32tab.getD j 0:Nat):Int))
theorem tz32_key (s a:Nat) (hs:s < 4294967296) (h0:s ≠ 0) (hlow:s &&& (4294967296 - s)=a) :
 bits BinOp.and IntKind.u32 (s:Int) (-(s:Int) % 4294967296) * 125613361 % 4294967296 / 134217728=((a * 125613361 % 4294967296 / 134217728:Nat):Int):=by
 have e1:-(s:Int) % 4294967296=((4294967296 - s:Nat):Int):=by omega
 rw [e1,and32 s _ hs (by omega),hlow]
 omega
theorem tz32_core (s k idx:Nat) (w:World) (hz:((s:Int) == 0)=false)
 (key:bits BinOp.and IntKind.u32 (s:Int) (-(s:Int) % 4294967296) * 125613361 % 4294967296 / 134217728=(idx:Int))
 (hi:idx < 32) (hk:k < 32) (hcell:w.cell? ⟨0,idx,none⟩=some (.int .u8 (k:Int))) :
 Calls Tryz.prog 196 #[.int .u32 (s:Int)] w fun e w'=>e = .returned (.int .i64 (k:Int))∧w=w':=by
 go_enter Tryz.func196,Tryz.ntmps196
 go_wp2_with (simp only [key])
 go_ret
 exact ⟨rfl,rfl⟩
theorem tz32 (s:Nat) (w:World) (h0:s ≠ 0) (hs:s < 4294967296) (hT:TabAt w) :
 Calls Tryz.prog 196 #[.int .u32 (s:Int)] w fun e w'=>e = .returned (.int .i64 ((Lib.ctz 32 s:Nat):Int))∧w=w':=by
 obtain ⟨hlow,hk⟩:=Lib.lowest_bit 32 s h0 hs
 obtain ⟨hi,htab⟩:=Lib.deBruijn32_at _ hk
 have hcell:=hT _ hi
 rw [htab] at hcell
 exact tz32_core s _ _ w (by simp;omega) (tz32_key s _ hs h0 hlow) hi hk hcell
theorem TabAt.below {w w':World} (h:TabAt w) (hb:Below w.heap.size w w'):TabAt w':=fun j hj=>by
 have hlt:0 < w.heap.size:=by
  have h0:=h 0 (by decide)
  rcases Nat.lt_or_ge 0 w.heap.size with h' | h'
  · exact h'
  · simp [World.cell?,Array.getElem?_eq_none h'] at h0
 exact (hb.cell (p:=⟨0,j,none⟩) hlt).trans (h j hj)
theorem mems_len (s:Nat):(memsN s).length≤32:=by
 have:=List.length_filter_le (fun n=>s.testBit n) (List.range 32)
 simpa [memsN] using this
def intsOf (l:List Nat):List Int:=l.map fun (n:Nat)=>(n:Int)
theorem intsOf_length (l:List Nat):(intsOf l).length=l.length:=by simp [intsOf]
theorem set_members (s:Nat) (w:World) (hs:s < 4294967296) (hT:TabAt w) :
 Calls Tryz.prog 148 #[.int .u32 (s:Int)] w (RetInts .i64 w (intsOf (memsN s))):=by
 have Hlen:=LH (mems_len s)
 go_enter Tryz.func148,Tryz.ntmps148
 go_wp2
 go_loopw [0,3] (fun t o wr=>∃ (r:Nat) (A:Option Addr) (cp:Nat) (pre:List Nat),t = .int .u32 (r:Int)∧r < 4294967296∧Hid (memsN s=pre++memsN r)∧o = .slice A pre.length cp ∧
  wr.ownsRow w.heap.size 3 1 (.slice A pre.length cp) pre.length (ints .i64 (intsOf pre))∧Below w.heap.size w wr) (fun t _ _=>(intOf t).toNat)
 case atStart=>exact ⟨s,none,0,[],rfl,hs,LH rfl,rfl,World.ownsRow_nil _ _ _ _,Below.refl _ _⟩
 case round =>
  obtain ⟨r,A,cp,pre,rfl,hr,Hm,rfl,hown,hbel⟩:=hrel
  have hbs:=hbel.size
  by_cases h0:r=0
  · subst h0
    have hm:memsN s=pre:=by rw [Hm.out,mems_zero,List.append_nil]
    have Hm2:=LH hm
    clear hm
    go_wp2
    go_ret
    have e:intsOf (memsN s)=intsOf pre:=by rw [Hm2.out]
    rw [e]
    refine ⟨A,cp,by rw [intsOf_length];rfl,?_,hbel⟩
    rw [intsOf_length]
    exact own_sl hown
  · have hst:=mems_step r h0 hr
    obtain ⟨hk,_,_,_,hlt⟩:=low_bits r h0 hr
    have hz:((r:Int) != 0)=true:=by rw [bne_iff_ne];omega
    have hc:=tz32 r wr h0 hr (hT.below hbel)
    have hand:bits .and .u32 (r:Int) ((r:Int) - 1)=((r &&& (r - 1):Nat):Int):=by
     rw [show (r:Int) - 1=((r - 1:Nat):Int) from by omega]
     exact and32 r (r - 1) hr (by omega)
    have hr0:0 < r:=by omega
    have hpl:pre.length < 32:=by
     have:=Hlen.out
     rw [Hm.out,hst,List.length_append,List.length_cons] at this
     omega
    have Hst:=LH hst
    have Hc:=LH hc
    clear hst hc
    generalize Lib.ctz 32 r=k at *
    generalize r &&& (r - 1)=r2 at *
    go_wp2_with (first
     | (go_at_call 196;(with_reducible refine Hc.out.mono ?_);rintro e w' ⟨rfl,rfl⟩)
     | (at_builtin;refine wpl_append1 (w:=wr) rfl _ _ 27 rfl w.heap.size 3 (.int .i64 0) 8 Tryz.underlying27 Tryz.infoInt rfl _ pre.length _ _ rfl hown (.int .i64 ((k:Int))) rfl rfl (by omega) (by omega) (by omega) ?_;intro A4 c4 w2 ho hg))
    go_roundw
    case rel =>
     have e:ints .i64 (intsOf (pre++[k]))=ints .i64 (intsOf pre)++[.int .i64 (k:Int)]:=by simp [ints,intsOf]
     have e2:(pre++[k]).length=pre.length+1:=by simp
     refine ⟨r2,A4,c4,pre++[k],rfl,by omega,LH (by rw [Hm.out,Hst.out];simp),by rw [e2],?_,below_append hbel hg hown hbs⟩
     rw [e,e2]
     exact ho
    case measure=>simp [intOf];omega
open Go.ChangeShapes Go.WideShapes Go.ChangeAt Go.RowKit
def laidL:List (String × DataW Unit):=[("math/bits.deBruijn32tab",Rows.laid_math_bits_deBruijn32tab)]
theorem gTab:Tryz.prog.globalNamed "math/bits.deBruijn32tab"=some 0:=by kernel_rfl
theorem tTab:(Tryz.prog.globals[0]?).map (·.type)=some 270:=by kernel_rfl
theorem door_met (os:Os) (args:Array Value):laidMetH Tryz.prog laidL ((World.doorLaid Tryz.prog 400 os).forCall (fun _ _=>0) ⟨#[],args,[]⟩).memory :=
 laidMetH_of_parts3 (fuel:=8) (laidMet_of_run' 8 (by kernel_rfl) (by kernel_rfl)) (by kernel_rfl) (by kernel_rfl)
theorem tab_lits:(Rows.laid_math_bits_deBruijn32tab:DataW Unit) = .agg (Lib.deBruijn32tab.map fun (n:Nat) => .lit (.int .u8 (n:Int))):=by rfl
theorem of_laid {W:World} (h:laidMetH Tryz.prog laidL W):TabAt W:=by
 rw [MakeChecks.laidMetH_plain _ _ _ (by kernel_rfl)] at h
 obtain ⟨ps,⟨g0,t0,cs0,f0,p0,q0,hg0,ht0,hv0,hd0,_,_⟩,_,_⟩:=h
 obtain rfl:=Option.some.inj (gTab.symm.trans hg0)
 obtain rfl:=Option.some.inj (tTab.symm.trans ht0)
 obtain ⟨xs,m1,rfl,hx1,hlen,hn,hel⟩:=DataW.trod_array Tryz.underlying270 hd0
 have c1:Tryz.prog.cellsOf 5=1:=by kernel_rfl
 simp only [Prod.mk.injEq] at hx1
 have hx:=hx1.1
 rw [tab_lits] at hx
 simp only [DataW.agg.injEq] at hx
 intro j hj
 have hel:=hel j hj
 have hxj:xs[j]? = some (xs[j]'(by omega)):=List.getElem?_eq_getElem (by omega)
 rw [hxj] at hel
 obtain ⟨k,e1,e2,_⟩:=DataW.trod_int Tryz.underlying5 hel
 have hk:(xs.map (·.1))[j]? = some (.lit (.int .u8 k)):=by
  rw [List.getElem?_map,hxj,e2];rfl
 rw [← hx,List.getElem?_map] at hk
 have hl:Lib.deBruijn32tab.length=32:=by decide
 rw [List.getElem?_eq_getElem (by omega)] at hk
 simp only [Option.map_some,Option.some.injEq,DataW.lit.injEq,Lit.int.injEq,true_and] at hk
 have hcell:=World.var?_cell hg0 hv0 j
 rw [c1] at e1
 have hcs:cs0[j]? = some (.int .u8 k):=by
  have:=congrArg List.head? e1
  simpa [List.head?_take,List.head?_drop] using this
 rw [hcell,hcs,← hk]
 simp [List.getElem?_eq_getElem (show j < Lib.deBruijn32tab.length by omega)]
open Ieee
def fN (n:Nat):Nat:=Ieee.double.nearest false n 0
theorem fN_zero:fN 0=0:=by decide
def okN (n:Nat):Bool:=decide (1≤n∧n≤1073741824)
def okP (l c:Nat):Bool:=okN l && okN c
def PV (l c:Nat):Value := .complex .f64 (fN l) (fN c)
theorem PV_zero:PV 0 0 = .complex .f64 0 0:=by unfold PV;rw [fN_zero]
theorem floatOfInt_nat (n:Nat):floatOfInt .f64 (n:Int)=fN n:=by
 unfold floatOfInt FloatKind.nearest
 have e1:decide ((n:Int) < 0)=false:=by simp
 rw [e1,Int.natAbs_natCast]
 rfl
def ofP (a b:Int):Value:=if 1≤a∧a≤1073741824∧1≤b∧b≤1073741824 then PV a.toNat b.toNat else PV 0 0
theorem ref_of (a b:Int) (w:World):Calls Tryz.prog 220 #[.int .i64 a, .int .i64 b] w fun e w'=>e = .returned (ofP a b)∧w=w':=by
 by_cases h:1≤a∧a≤1073741824∧1≤b∧b≤1073741824
 · unfold ofP
   rw [if_pos h]
   obtain ⟨n,rfl⟩:∃ n:Nat,a=(n:Int):=⟨a.toNat,by omega⟩
   obtain ⟨m,rfl⟩:∃ m:Nat,b=(m:Int):=⟨b.toNat,by omega⟩
   have e1:=floatOfInt_nat n
   have e2:=floatOfInt_nat m
   obtain ⟨g1,g2,g3,g4⟩:=h
   unfold PV
   rw [Int.toNat_natCast,Int.toNat_natCast]
   generalize fN n=x at *
   generalize fN m=y at *
   go_enter Tryz.func220,Tryz.ntmps220
   go_wp2
   go_ret
   exact ⟨by simp [e1,e2],rfl⟩
 · unfold ofP
   rw [if_neg h,PV_zero]
   have hways:a < 1∨(1≤a∧1073741824 < a)∨(1≤a∧a≤1073741824∧b < 1)∨(1≤a∧a≤1073741824∧1≤b∧1073741824 < b):=by omega
   clear h
   rcases hways with g1 | ⟨g1,g2⟩ | ⟨g1,g2,g3⟩ | ⟨g1,g2,g3,g4⟩
   all_goals
    go_enter Tryz.func220,Tryz.ntmps220
    go_wp2
    go_ret
    exact ⟨rfl,rfl⟩
def stepP (p:Nat × Nat) (b:Nat):Nat × Nat:=if b=10 then (p.1+1,1) else (p.1,p.2+1)
def atN (bs:List Nat):Nat × Nat:=bs.foldl stepP (1,1)
theorem atN_snoc (bs:List Nat) (b:Nat):atN (bs++[b])=stepP (atN bs) b:=by simp [atN]
theorem atN_go (bs:List Nat):∀ p:Nat × Nat,1≤p.1→1≤p.2→1≤(bs.foldl stepP p).1∧(bs.foldl stepP p).1≤p.1+bs.length∧1≤(bs.foldl stepP p).2∧(bs.foldl stepP p).2≤p.2+bs.length:=by
 induction bs with
 | nil=>intro p h1 h2;simp;omega
 | cons b bs ih =>
   intro p h1 h2
   have hb:1≤(stepP p b).1∧(stepP p b).1≤p.1+1∧1≤(stepP p b).2∧(stepP p b).2≤p.2+1:=by
    unfold stepP
    split <;> simp <;> omega
   have:=ih (stepP p b) hb.1 hb.2.2.1
   rw [List.foldl_cons,List.length_cons]
   omega
theorem atN_bd (bs:List Nat):1≤(atN bs).1∧(atN bs).1≤bs.length+1∧1≤(atN bs).2∧(atN bs).2≤bs.length+1:=by
 have:=atN_go bs (1,1) (by decide) (by decide)
 unfold atN
 omega
theorem okP_of {l c:Nat} (h1:1≤l) (h2:l≤1073741824) (h3:1≤c) (h4:c≤1073741824):okP l c=true:=by simp [okP,okN,h1,h2,h3,h4]
theorem ofP_of (l c:Nat) (h:okP l c=true):ofP (l:Int) (c:Int)=PV l c:=by
 simp [okP,okN] at h
 unfold ofP
 rw [if_pos (by omega)]
 simp
def atP (bs:List Nat) (i:Int):Value:=if 0≤i∧i≤bs.length then PV (atN (bs.take i.toNat)).1 (atN (bs.take i.toNat)).2 else PV 0 0
theorem ref_at (A:Option Addr) (n c:Nat) (bs:List Nat) (i:Int) (w:World) (h:Nums .u8 w A n c bs) (hn:n≤100000) :
 Calls Tryz.prog 186 #[.slice A n c, .int .i64 i] w fun e w'=>e = .returned (atP bs i)∧w=w':=by
 obtain rfl:=h.len
 have hcap:=h.cap
 by_cases hi:0≤i∧i≤bs.length
 case neg =>
  have hf:atP bs i = .complex .f64 0 0:=by unfold atP;rw [if_neg hi,PV_zero]
  rw [hf]
  have hways:i < 0∨(0≤i∧(bs.length:Int) < i):=by omega
  clear hi hf
  rcases hways with g | ⟨g,g2⟩
  all_goals
   go_enter Tryz.func186,Tryz.ntmps186
   go_wp2
   go_ret
   exact ⟨rfl,rfl⟩
 have Hf:Hid (atP bs i=PV (atN (bs.take i.toNat)).1 (atN (bs.take i.toNat)).2):=LH (by unfold atP;rw [if_pos hi])
 obtain ⟨m,rfl⟩:∃ m:Nat,i=(m:Int):=⟨i.toNat,by omega⟩
 obtain ⟨hi1,hi2⟩:=hi
 rw [Int.toNat_natCast] at Hf
 go_enter Tryz.func186,Tryz.ntmps186
 go_wp2
 go_loop [5,6,7] (fun l cc i=>∃ k lv cv:Nat,k≤m∧i = .int .i64 (k:Int)∧l = .int .i64 (lv:Int)∧cc = .int .i64 (cv:Int)∧Hid (atN (bs.take k)=(lv,cv))) (fun _ _ i=>m - (intOf i).toNat)
 case atStart=>exact ⟨0,1,1,Nat.zero_le _,rfl,rfl,rfl,LH rfl⟩
 case round =>
  obtain ⟨k,lv,cv,hk,rfl,rfl,rfl,Hat⟩:=hrel
  have hbd:=atN_bd (bs.take k)
  have htl:(bs.take k).length≤100000:=by rw [List.length_take];omega
  rw [Hat.out] at hbd
  simp only [] at hbd
  by_cases hlt:k < m
  · obtain ⟨b,off,x,rfl,hb,Hx,hc⟩:=h.get (j:=k) (by omega)
    have hnx:atN (bs.take (k+1))=stepP (lv,cv) x:=by
     rw [List.take_add_one,Hx.out,← Hat.out]
     exact atN_snoc _ _
    by_cases hx:x=10
    · subst hx
      have Hnx:=LH hnx
      clear hnx
      go_wp2
      go_round
      case rel=>exact ⟨k+1,lv+1,1,by omega,by go_num,by go_num,rfl,LH (by rw [Hnx.out];simp [stepP])⟩
      case measure=>simp [intOf];omega
    · have Hnx:=LH hnx
      have hxx:((x:Int) == 10)=false:=by rw [beq_eq_false_iff_ne];omega
      have Hxne:=LH hx
      clear hnx hx
      go_wp2
      go_round
      case rel=>exact ⟨k+1,lv,cv+1,by omega,by go_num,rfl,by go_num,LH (by rw [Hnx.out];simp [stepP,Hxne.out])⟩
      case measure=>simp [intOf];omega
  · obtain rfl:k=m:=by omega
    have hc:=ref_of (lv:Int) (cv:Int) w
    rw [ofP_of lv cv (okP_of hbd.1 (by omega) hbd.2.2.1 (by omega))] at hc
    have hff:atP bs (k:Int)=PV lv cv:=by rw [Hf.out,Hat.out]
    generalize PV lv cv=q at *
    have Hff:=LH hff
    have Hc:=LH hc
    clear hc Hf hff
    go_wp2_with (go_at_call 220;(with_reducible refine Hc.out.mono ?_);rintro e w' ⟨rfl,rfl⟩)
    go_ret
    exact ⟨by rw [Hff.out];rfl,rfl⟩
def str (l:List Nat):ByteArray:=⟨(l.map UInt8.ofNat).toArray⟩
theorem run_bytes_str {P:Program} (w:World) (src e dst:TypeId) (hs:P.underlying src=some (.slice e)) (he:P.underlying e=some (.int .u8)) (hd:P.underlying dst=some .string)
 (A:Option Addr) (c:Nat) (zs:List Nat) (h:Nums .u8 w A zs.length c zs):(convert src dst (.slice A zs.length c)).run P w = .ok (.string (str zs)) w:=by
 have e1:strOfNums (zs.map fun (x:Nat)=>(x:Int))=str zs:=by simp [strOfNums,str,Function.comp_def]
 rcases A with _ | ad
 · have h0:zs.length=0:=by
    rcases Nat.eq_zero_or_pos zs.length with h0 | h0
    · exact h0
    · obtain ⟨b,off,he,_⟩:=h.at_ h0
      cases he
   obtain rfl:=List.eq_nil_of_length_eq_zero h0
   exact run_convert_bytes_nil w src e hs he _ _ dst hd
 · by_cases h0:0 < zs.length
   · obtain ⟨b,off,he',_,hc⟩:=h.at_ h0
     injection he' with he'
     subst he'
     rw [run_convert_bytes_arg w src e hs he b off zs.length c (zs.map fun (x:Nat)=>(x:Int)) (by simp) (fun i hi=>by
      rw [hc i hi]
      simp [List.getElem?_eq_getElem hi]) dst hd,e1]
   · obtain rfl:=List.eq_nil_of_length_eq_zero (show zs.length=0 by omega)
     obtain ⟨b,off,spot⟩:=ad
     simp only [List.length_nil]
     rw [run_convert_bytes_string w src dst e _ _ _ hs he hd,run_bytesToString w ⟨b,off,spot⟩ 0 c [] (by simp [loadCells,loadCellsFrom])]
     rfl
def bytesOf (s:ByteArray):List Nat:=s.data.toList.map UInt8.toNat
theorem bytesOf_len (s:ByteArray):(bytesOf s).length=s.size:=by simp [bytesOf]
theorem bytesOf_get (s:ByteArray) (k:Nat) (h:k < s.size):(bytesOf s)[k]? = some s[k].toNat:=by
 simp only [bytesOf,List.getElem?_map]
 rw [List.getElem?_eq_getElem (by simpa using h)]
 rfl
theorem bytesOf_str (l:List Nat) (h:∀ c ∈ l,c < 256):bytesOf (str l)=l:=by
 simp only [bytesOf,str,List.map_map]
 conv=>rhs;rw [← List.map_id l]
 apply List.map_congr_left
 intro c hc
 have:=h c hc
 simp only [Function.comp,id,UInt8.toNat_ofNat']
 omega
theorem bytesOf_lt (s:ByteArray):∀ c ∈ bytesOf s,c < 256:=by
 intro c hc
 simp only [bytesOf,List.mem_map] at hc
 obtain ⟨b,_,rfl⟩:=hc
 exact b.toNat_lt
theorem str_size (l:List Nat):(str l).size=l.length:=by
 show (str l).data.size=_
 simp [str]
theorem isEmpty_str (s:ByteArray) (h:0 < s.size):s.toList.isEmpty=false∧¬ s.toList=[]:=by
 have e:s.toList=s.data.toList:=ByteArray.toList_eq s
 have hl:s.data.toList.length=s.size:=by simp
 constructor
 · rw [e,List.isEmpty_eq_false_iff]
   intro h0;rw [h0] at hl;simp at hl;omega
 · rw [e];intro h0;rw [h0] at hl;simp at hl;omega
theorem isEmpty_str0 (s:ByteArray) (h:s.size=0):s.toList=[]:=by
 have e:s.toList=s.data.toList:=ByteArray.toList_eq s
 have hl:s.data.toList.length=s.size:=by simp
 rw [e]
 exact List.eq_nil_of_length_eq_zero (by omega)
end Go.Proofs.YtggbjdmpjidhgaaGreatDoor
