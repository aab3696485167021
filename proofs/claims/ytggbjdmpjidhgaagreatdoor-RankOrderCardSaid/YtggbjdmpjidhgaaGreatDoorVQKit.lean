/- Words for slices that read as lists: no program in sight. -/
import Derived.WalkKit
import Derived.WalkSpells
import Derived.WalkLawsBesides
import Derived.Lib.Hide
import Derived.IntWalk
import Derived.Below
import Derived.Laws.OwnMore
import Derived.Deep.Draws
import Derived.Maps.AppendAt
import Derived.Lib.SliceRun
import Derived.Lib.TrailingZeros
import Derived.Lib.BitFns
import Derived.Test.YtggbjdmpjidhgaaGreatDoorProg
import Derived.Laws.Bits64b
import Derived.Lib.Tables
import Derived.Deep.QuietTactic
import Derived.BigQuiet
import Derived.Test.YtggbjdmpjidhgaaGreatDoorRows
import Derived.ProofKit
import Derived.LaidMore
import Derived.OpenShut
import Derived.Stop.Joined
import Ieee.Arith
import Derived.Laws.FloatArith
import Derived.Laws.Cover3
import Derived.Laws.ComplexArith
import Derived.ChangeAlike
import Derived.Laws.BytesArg
set_option linter.unusedVariables false
set_option linter.unusedSimpArgs false
set_option maxHeartbeats 8000000
set_option maxRecDepth 100000
namespace Go.Proofs.YtggbjdmpjidhgaaGreatDoor
open Go.RowKit
theorem LH {p:Prop} (h:p):Hid p:=Lib.hid h
def Arr (w:World) (A:Option Addr) (xs:List Value):Prop :=
 0 < xs.length→∃ b a,A=some ⟨b,a,none⟩∧b < w.heap.size∧∀ j,j < xs.length→w.cell? ⟨b,a+j,none⟩=xs[j]?
def Sl (w:World) (A:Option Addr) (n c:Nat) (xs:List Value):Prop :=
 xs.length=n∧n≤c∧c≤9223372036854775807∧Arr w A xs
theorem Arr.nil (w:World) (A:Option Addr):Arr w A []:=fun h=>absurd h (by simp)
theorem Arr.keep {w w':World} {A:Option Addr} {xs:List Value} (h:Arr w A xs) (l:w.heap.size≤w'.heap.size)
 (g:∀ b a,b < w.heap.size→w'.cell? ⟨b,a,none⟩=w.cell? ⟨b,a,none⟩):Arr w' A xs:=fun k=>by
 obtain ⟨b,a,e,c,d⟩:=h k
 exact ⟨b,a,e,by omega,fun j f=>(g b _ c).trans (d j f)⟩
theorem Arr.below {w w':World} {A:Option Addr} {xs:List Value} (h:Arr w A xs) (a:Below w.heap.size w w'):Arr w' A xs :=
 h.keep a.size fun _ _ b=>a.cell b
theorem Sl.below {w w':World} {A:Option Addr} {n c:Nat} {xs:List Value} (h:Sl w A n c xs) (a:Below w.heap.size w w'):Sl w' A n c xs :=
 ⟨h.1,h.2.1,h.2.2.1,h.2.2.2.below a⟩
theorem Sl.nil (w:World) (A:Option Addr) (c:Nat) (h:c≤9223372036854775807):Sl w A 0 c []:=⟨rfl,Nat.zero_le _,h,Arr.nil _ _⟩
def nums (k:IntKind) (xs:List Nat):List Value:=xs.map fun (x:Nat)=>Value.int k ((x:Int))
theorem nums_length (k:IntKind) (xs:List Nat):(nums k xs).length=xs.length:=by simp [nums]
def Nums (k:IntKind) (w:World) (A:Option Addr) (n c:Nat) (xs:List Nat):Prop:=Sl w A n c (nums k xs)
theorem Nums.len {k:IntKind} {w:World} {A:Option Addr} {n c:Nat} {xs:List Nat} (h:Nums k w A n c xs):xs.length=n:=by
 have:=h.1;rwa [nums_length] at this
theorem Nums.cap {k:IntKind} {w:World} {A:Option Addr} {n c:Nat} {xs:List Nat} (h:Nums k w A n c xs):n≤c∧c≤9223372036854775807:=⟨h.2.1,h.2.2.1⟩
theorem Nums.at_ {k:IntKind} {w:World} {A:Option Addr} {n c:Nat} {xs:List Nat} (h:Nums k w A n c xs) (m:0 < n) :
 ∃ b a,A=some ⟨b,a,none⟩∧b < w.heap.size∧∀ j,j < n→w.cell? ⟨b,a+j,none⟩=some (.int k ((xs.getD j 0:Nat):Int)):=by
 have d:=h.len
 obtain ⟨b,a,e,f,g⟩:=h.2.2.2 (by rw [nums_length,d];exact m)
 refine ⟨b,a,e,f,fun j l=>?_⟩
 rw [g j (by rw [nums_length,d];exact l)]
 simp only [nums,List.getElem?_map]
 rw [List.getElem?_eq_getElem (by omega)]
 simp [List.getElem?_eq_getElem (show j < xs.length by omega)]
theorem Nums.below {k:IntKind} {w w':World} {A:Option Addr} {n c:Nat} {xs:List Nat} (h:Nums k w A n c xs) (a:Below w.heap.size w w'):Nums k w' A n c xs:=Sl.below h a
theorem Nums.nil (k:IntKind) (w:World) (A:Option Addr) (c:Nat) (h:c≤9223372036854775807):Nums k w A 0 c []:=Sl.nil w A c h
theorem Nums.get {k:IntKind} {w:World} {A:Option Addr} {n c:Nat} {xs:List Nat} (h:Nums k w A n c xs) {j:Nat} (g:j < n) :
 ∃ b a x,A=some ⟨b,a,none⟩∧b < w.heap.size∧Hid (xs[j]? = some x)∧w.cell? ⟨b,a+j,none⟩=some (.int k ((x:Int))):=by
 obtain ⟨b,a,e,d,f⟩:=h.at_ (by omega)
 have l:=h.len
 exact ⟨b,a,xs[j]'(by omega),e,d,LH (List.getElem?_eq_getElem (by omega)),by rw [f j g];simp [List.getElem?_eq_getElem (show j < xs.length by omega)]⟩
theorem Nums.take {k:IntKind} {w:World} {A:Option Addr} {n c:Nat} {xs:List Nat} (h:Nums k w A n c xs) (m a:Nat) (s:m≤n) (f:m≤a) (g:a≤9223372036854775807) :
 Nums k w A m a (xs.take m):=by
 have r:=h.len
 refine ⟨by simp [nums];omega,f,g,fun p=>?_⟩
 simp [nums] at p
 obtain ⟨b,q,e,d,l⟩:=h.2.2.2 (by rw [nums_length];omega)
 refine ⟨b,q,e,d,fun j o=>?_⟩
 simp [nums] at o
 rw [l j (by rw [nums_length];omega)]
 simp [nums,List.getElem?_take]
 intro;omega
theorem cast_bne0 (a:Nat):((a:Int) != 0)=(a != 0):=by rw [Bool.eq_iff_iff];simp [bne_iff_ne]
def Own (w:World) (g:Nat) (t:TypeId) (k:IntKind) (a:List Nat):Prop:=w.heap[g]? = some (.cells (nums k a).toArray t (0,0))
theorem Own.lt {w:World} {g:Nat} {t:TypeId} {k:IntKind} {c:List Nat} (h:Own w g t k c):g < w.heap.size:=by
 rcases Nat.lt_or_ge g w.heap.size with b | a
 · exact b
 · unfold Own at h;rw [Array.getElem?_eq_none a] at h;cases h
theorem Own.cell {w:World} {g:Nat} {t:TypeId} {k:IntKind} {a:List Nat} (h:Own w g t k a) {i:Nat} (hi:i < a.length) :
 ∃ x,Hid (a[i]? = some x)∧w.cell? ⟨g,i,none⟩=some (.int k (x:Int)):=by
 refine ⟨a[i],LH (List.getElem?_eq_getElem hi),?_⟩
 unfold Own at h
 simp [World.cell?,h,nums,List.getElem?_eq_getElem hi]
theorem Own.frozen {w:World} {g:Nat} {t:TypeId} {k:IntKind} {a:List Nat} (h:Own w g t k a) (i:Nat):w.frozen? ⟨g,i,none⟩=false:=by
 unfold Own at h
 simp [World.frozen?,h]
theorem Own.drewN {w:World} {g:Nat} {t:TypeId} {k:IntKind} {a:List Nat} (h:Own w g t k a) (n:Nat):Own (w.drewN n) g t k a:=h
theorem Own.set_ {w:World} {g:Nat} {t:TypeId} {k:IntKind} {a:List Nat} (h:Own w g t k a) (i x:Nat) :
 Own (w.setCell ⟨g,i,none⟩ (.int k (x:Int))) g t k (a.set i x):=by
 unfold Own at h ⊢
 simp [World.setCell,Array.getElem?_modify,h,nums,List.map_set]
theorem Own.nums {w:World} {g:Nat} {t:TypeId} {k:IntKind} {a:List Nat} (h:Own w g t k a) {n c:Nat} (l:a.length=n) (b:n≤c) (d:c≤9223372036854775807) :
 Nums k w (some ⟨g,0,none⟩) n c a:=by
 refine ⟨by rw [nums_length];exact l,b,d,fun _=>⟨g,0,rfl,h.lt,fun j f=>?_⟩⟩
 unfold Own at h
 rw [nums_length] at f
 simp [World.cell?,h,Go.Proofs.YtggbjdmpjidhgaaGreatDoor.nums]
theorem Own.new (w:World) (t:TypeId) (k:IntKind) (a:List Nat):Own (w.alloc (.cells (Go.Proofs.YtggbjdmpjidhgaaGreatDoor.nums k a).toArray t)) w.heap.size t k a:=heap_alloc_new w _
theorem Nums.drewN {k:IntKind} {w:World} {A:Option Addr} {n c:Nat} {xs:List Nat} (h:Nums k w A n c xs) (m:Nat):Nums k (w.drewN m) A n c xs:=h
theorem made_nums (k:IntKind) (n:Nat):madeCells #[Value.int k 0] n=(nums k (List.replicate n 0)).toArray:=by
 apply Array.ext
 · simp [madeCells,nums]
 · intro j a b
   simp [madeCells,nums,Nat.mod_one]
theorem run_make_nums {P:Program} (t e:TypeId) (k:IntKind) (bytes:Nat) (g:P.underlying t=some (.slice e))
 (hi:(P.info? e).map (fun i=>(i.zero,i.size,i.bytes))=some (some (.int k 0),1,bytes)) (n:Nat) (l:bytes * n≤281474976710656) (m:n≤9223372036854775807) (w:World) :
 (Instr.makeSlice t (.int .i64 (n:Int)) (.int .i64 (n:Int))).run P w = .ok (.slice (some ⟨w.heap.size,0,none⟩) n n) (w.alloc (.cells (nums k (List.replicate n 0)).toArray e)):=by
 obtain ⟨i,d,j,f,c⟩:=info_parts hi
 have b:(i.bytes:Int) * (n:Int)≤281474976710656:=by
  rw [c]
  have h:((bytes * n:Nat):Int)≤281474976710656:=by omega
  rwa [Int.natCast_mul] at h
 have a:=run_make (P:=P) w t e i (.int k 0) g d j .i64 .i64 n n (by omega) (by omega) b (by omega)
 simp only [Int.toNat_natCast] at a
 rw [a,f,Nat.mul_one]
 simp only [Value.cells,made_nums]
theorem below_tail {w w1 a:World} (h:Below w.heap.size w w1) (b:Below w1.heap.size w1 a):Below w.heap.size w a:=h.trans (b.mono h.size)
theorem below_drewN {B:Nat} {a w:World} (h:Below B a w) (n:Nat):Below B a (w.drewN n):=⟨h.os,h.tape,h.output,h.size,h.block⟩
def lenOf:Value→Nat
 | .slice _ n _=>n
 | _=>0
def Same (w w':World):Prop:=∃ m,w'=w.drewN m
theorem Same.refl (w:World):Same w w:=⟨0,rfl⟩
theorem Same.drewN {a w:World} (h:Same a w) (n:Nat):Same a (w.drewN n):=by
 obtain ⟨m,rfl⟩:=h
 exact ⟨m+n,by rw [World.drewN_drewN]⟩
theorem Same.trans {a b c:World} (h:Same a b) (d:Same b c):Same a c:=by
 obtain ⟨m,rfl⟩:=d
 exact h.drewN m
theorem Same.below {w w':World} (h:Same w w') (B:Nat):Below B w w':=by
 obtain ⟨m,rfl⟩:=h
 exact below_drewN (Below.refl _ _) m
theorem Same.size {w w':World} (h:Same w w'):w'.heap.size=w.heap.size:=by
 obtain ⟨m,rfl⟩:=h
 rfl
theorem Nums.same {k:IntKind} {w w':World} {A:Option Addr} {n c:Nat} {xs:List Nat} (h:Nums k w A n c xs) (a:Same w w'):Nums k w' A n c xs:=h.below (a.below _)
section
variable {P:Program} {w:World}
theorem run_append_nil' (base:Nat) (t ty e:TypeId) (i:TypeInfo) (b:P.underlying t=some (.slice e)) (hi:P.info? e=some i)
 (A:Option Addr) (n c:Nat) (xs:List Value) (f:w.ownsRow base e 1 (.slice A n c) n xs) (c2:Nat) :
 (Builtin.append_ #[t,t] ty #[.slice A n c, .slice none 0 c2]).run P w = .ok (.slice A n c) w:=by
 rcases f.2 with ⟨a,rfl⟩ | ⟨g,cap,h,a,_,_,d,_⟩
 · rw [a]
   simp [Builtin.append_,run_underlying b,sizeOf,typeInfo,hi,Builtin.lenOf,Builtin.firstCells]
 · rw [a]
   simp [Builtin.append_,run_underlying b,sizeOf,typeInfo,hi,Builtin.lenOf,Builtin.firstCells,d,storeCells]
theorem own_form {base e:Nat} {v:Value} {n:Nat} {xs:List Value} (h:w.ownsRow base e 1 v n xs):∃ A c,v = .slice A n c:=by
 rcases h.2 with ⟨rfl,rfl⟩ | ⟨g,cap,a,rfl,_⟩
 · exact ⟨_,_,rfl⟩
 · exact ⟨_,_,rfl⟩
theorem own_sl {base e:Nat} {A:Option Addr} {n c:Nat} {xs:List Value} (h:w.ownsRow base e 1 (.slice A n c) n xs):Sl w A n c xs:=by
 have d:xs.length=n:=by simpa using h.1
 rcases h.2 with ⟨a,rfl⟩ | ⟨g,cap,o,a,p,b,m,f,q,t⟩
 · simp at a
   obtain ⟨rfl,rfl⟩:=a
   obtain rfl:=List.eq_nil_of_length_eq_zero d
   exact Sl.nil _ _ _ (by simp)
 · injection a with h1 h2 h3
   subst h1;subst h3
   refine ⟨d,m,by simpa [maxLen] using f,fun s=>⟨g,0,rfl,?_,fun j r=>?_⟩⟩
   · rcases Nat.lt_or_ge g w.heap.size with l | k
     · exact l
     · rw [Array.getElem?_eq_none k] at b;cases b
   · have:=h.cellAt (e:=e) (size:=1) j (by omega)
     simpa using this
theorem own_at {base e:Nat} {A:Option Addr} {n c:Nat} {xs:List Value} (h:w.ownsRow base e 1 (.slice A n c) n xs) {j:Nat} (o:j < n) :
 ∃ g u,A=some ⟨g,0,none⟩∧base≤g∧g < w.heap.size∧Hid (xs[j]? = some u)∧w.cell? ⟨g,j,none⟩=some u∧w.frozen? ⟨g,j,none⟩=false:=by
 have p:xs.length=n:=by simpa using h.1
 rcases h.2 with ⟨b,rfl⟩ | ⟨g,cap,m,b,f,a,_⟩
 · omega
 · injection b with h1 h2 h3
   subst h1;subst h3
   have d:xs[j]? = some (xs[j]'(by omega)):=List.getElem?_eq_getElem (by omega)
   refine ⟨g,xs[j]'(by omega),rfl,f,?_,LH d,?_,h.frozenAt j⟩
   · rcases Nat.lt_or_ge g w.heap.size with l | k
     · exact l
     · rw [Array.getElem?_eq_none k] at a;cases a
   · rw [h.cellAt j (by omega),d]
theorem own_set {base e:Nat} {g n c:Nat} {xs:List Value} (h:w.ownsRow base e 1 (.slice (some ⟨g,0,none⟩) n c) n xs) (j:Nat) (u:Value) :
 (w.setCell ⟨g,j,none⟩ u).ownsRow base e 1 (.slice (some ⟨g,0,none⟩) n c) n (xs.set j u):=(h.stored j u).1
theorem own_below {w':World} {base e:Nat} {A:Option Addr} {n c:Nat} {xs:List Value} (h:w.ownsRow base e 1 (.slice A n c) n xs) (f:Below w.heap.size w w') :
 w'.ownsRow base e 1 (.slice A n c) n xs:=by
 refine ⟨h.1,?_⟩
 rcases h.2 with l | ⟨g,cap,d,m,j,a,rest⟩
 · exact .inl l
 · refine .inr ⟨g,cap,d,m,j,?_,rest⟩
   have b:g < w.heap.size:=by
    rcases Nat.lt_or_ge g w.heap.size with b | k
    · exact b
    · rw [Array.getElem?_eq_none k] at a;cases a
   exact (f.block g b).trans a
theorem own_mono {base base' e:Nat} {v:Value} {n:Nat} {xs:List Value} (h:w.ownsRow base e 1 v n xs) (d:base'≤base):w.ownsRow base' e 1 v n xs:=by
 refine ⟨h.1,?_⟩
 rcases h.2 with b | ⟨g,cap,a,c,f,rest⟩
 · exact .inl b
 · exact .inr ⟨g,cap,a,c,by omega,rest⟩
theorem own_made (w:World) (e:TypeId) (n:Nat) (xs:List Value) (a:xs.length=n) (b:n≤9223372036854775807) :
 (w.alloc (.cells xs.toArray e)).ownsRow w.heap.size e 1 (.slice (some ⟨w.heap.size,0,none⟩) n n) n xs:=by
 have:=World.ownsRow_lit (base:=w.heap.size) (e:=e) (size:=1) w xs.toArray n (Nat.le_refl _) (by simpa [maxLen] using b) (by simp [a])
 simpa using this
theorem wpl_append {ops:Array Oper} {rest:List Oper} {o:Oper} {a:Act} {Q:Exit→Act→World→Prop} (S:o.guard=none) (s x:Operand) (t:TypeId)
 (W:o.op = .call { callee := .builtin .append,args:=#[s,x],argTypes:=#[t,t] })
 (base:Nat) (e:TypeId) (z:Value) (bytes:Nat) (E:P.underlying t=some (.slice e))
 (hi:(P.info? e).map (fun i=>(i.zero,i.size,i.bytes))=some (some z,1,bytes)) (ae:z.cells.size=1)
 (A:Option Addr) (n c:Nat) (xs:List Value) (Y:a.eval s = .slice A n c) (B:w.ownsRow base e 1 (.slice A n c) n xs)
 (q:Option Addr) (m c2:Nat) (d:List Value) (hx:a.eval x = .slice q m c2) (k:Sl w q m c2 d) (G:∀ u ∈ d,u.oneCell'=true)
 (I:n+m≤9223372036854775807) (N:(n+m) * bytes≤140737488355328) (L:base≤w.heap.size)
 (h:∀ p r w',w'.ownsRow base e 1 (.slice p (n+m) r) (n+m) (xs++d)→w.grownBy w' (Value.slice A n c).ownBlock →
   wpList P ops Q rest (a.put o.dst (.slice p (n+m) r)) w'):wpList P ops Q (o::rest) a w:=by
 obtain ⟨i,D,hz,Z,M⟩:=info_parts hi
 have key:∃ l w',(Builtin.append_ #[t,t] o.type #[.slice A n c, .slice q m c2]).run P w = .ok l w'∧w'.ownsRow base e 1 l (n+m) (xs++d)∧w.grownBy w' (Value.slice A n c).ownBlock:=by
  rcases q with _ | C
  · have U:m=0:=by
     rcases Nat.eq_zero_or_pos m with f | f
     · exact f
     · obtain ⟨b,af,g,_⟩:=k.2.2.2 (by rw [k.1];exact f)
       cases g
    subst U
    have V:d=[]:=List.eq_nil_of_length_eq_zero k.1
    subst V
    exact ⟨_,w,run_append_nil' base t o.type e i E D A n c xs B c2,by simpa using B,⟨rfl,rfl,rfl,Nat.le_refl _,fun _ _ _=>rfl⟩⟩
  · have R:∀ j u,d[j]? = some u→w.cell? (C.add j)=some u:=by
     intro j u F
     have T:j < d.length:=(List.getElem?_eq_some_iff.1 F).1
     obtain ⟨b,af,g,_,O⟩:=k.2.2.2 (by omega)
     injection g with g
     subst g
     have:=O j T
     rw [F] at this
     unfold Addr.add
     split
     · rename_i f;subst f;simpa using this
     · exact this
    obtain ⟨l,w',v,y,H,_⟩:=run_append_own (P:=P) w base t o.type e i z 1 bytes E D hz Z M ae (by decide) _ n xs B C m c2 d (by rw [k.1,Nat.mul_one]) R G (by simpa [maxLen] using I) N L
    exact ⟨l,w',v,y,H⟩
 obtain ⟨l,w',X,v,y⟩:=key
 obtain ⟨p,r,rfl⟩:=own_form v
 refine wpList_plain S fun K J=>?_
 unfold Oper.wp execOp
 simp only [W,resolve,invoke,builtin,Sem.run_bind,Sem.run_pure,Result.andThen_ok,List.map_toArray,List.map_cons,List.map_nil,Y,hx,X]
 exact J _ _ (h p r w' v y)
theorem wpl_append1 {ops:Array Oper} {rest:List Oper} {o:Oper} {a:Act} {Q:Exit→Act→World→Prop} (v:o.guard=none) (s x:Operand) (t:TypeId)
 (B:o.op = .call { callee := .builtin .append,args:=#[s,x],argTypes:=#[t,t] })
 (base:Nat) (e:TypeId) (z:Value) (bytes:Nat) (E:P.underlying t=some (.slice e))
 (hi:(P.info? e).map (fun i=>(i.zero,i.size,i.bytes))=some (some z,1,bytes)) (G:z.cells.size=1)
 (A:Option Addr) (n c:Nat) (xs:List Value) (D:a.eval s = .slice A n c) (C:w.ownsRow base e 1 (.slice A n c) n xs)
 (u:Value) (F:a.eval x = .slice (some ⟨w.heap.size,0,none⟩) 1 1) (m:u.oneCell'=true)
 (q:n+1≤9223372036854775807) (r:(n+1) * bytes≤140737488355328) (H:base≤w.heap.size)
 (h:∀ f g w',w'.ownsRow base e 1 (.slice f (n+1) g) (n+1) (xs++[u])→w.grownBy w' (Value.slice A n c).ownBlock →
   wpList P ops Q rest (a.put o.dst (.slice f (n+1) g)) w'):wpList P ops Q (o::rest) a (w.alloc (.cells #[u] e)):=by
 have y:=World.ownsRow_lit (base:=w.heap.size) (e:=e) (size:=1) w #[u] 1 (Nat.le_refl _) (by simp [maxLen]) (by simp)
 refine wpl_append v s x t B base e z bytes E hi G A n c xs D (C.alloc _) _ 1 1 [u] F (own_sl y) (by simpa using m) q r (by simp;omega) fun f g w' p d=>?_
 refine h f g w' p ?_
 have b:w.grownBy (w.alloc (.cells #[u] e)) (Value.slice A n c).ownBlock:=World.grownBy_alloc _ _ _
 refine ⟨d.os.trans b.os,d.tape.trans b.tape,d.output.trans b.output,Nat.le_trans b.size d.size,fun k j l=>?_⟩
 exact (d.block k (Nat.lt_of_lt_of_le j b.size) l).trans (b.block k j l)
end
theorem below_append {w wr w':World} {base e:Nat} {A:Option Addr} {n c:Nat} {xs:List Value} (a:Below base w wr) (d:wr.grownBy w' (Value.slice A n c).ownBlock)
 (g:wr.ownsRow base e 1 (.slice A n c) n xs) (b:base≤wr.heap.size):Below base w w' :=
 a.grown d b fun k f=>(g.lt k f).1
theorem nums_snoc (k:IntKind) (xs:List Nat) (x:Nat):nums k (xs++[x])=nums k xs++[.int k (x:Int)]:=by simp [nums]
def ints (k:IntKind) (a:List Int):List Value:=a.map (Value.int k)
theorem ints_length (k:IntKind) (a:List Int):(ints k a).length=a.length:=by simp [ints]
def Ints (k:IntKind) (w:World) (A:Option Addr) (n c:Nat) (a:List Int):Prop:=Sl w A n c (ints k a)
theorem Ints.len {k:IntKind} {w:World} {A:Option Addr} {n c:Nat} {a:List Int} (h:Ints k w A n c a):a.length=n:=by
 have:=h.1;rwa [ints_length] at this
theorem Ints.cap {k:IntKind} {w:World} {A:Option Addr} {n c:Nat} {a:List Int} (h:Ints k w A n c a):n≤c∧c≤9223372036854775807:=⟨h.2.1,h.2.2.1⟩
theorem Ints.below {k:IntKind} {w w':World} {A:Option Addr} {n c:Nat} {a:List Int} (h:Ints k w A n c a) (b:Below w.heap.size w w'):Ints k w' A n c a:=Sl.below h b
theorem Ints.same {k:IntKind} {w w':World} {A:Option Addr} {n c:Nat} {a:List Int} (h:Ints k w A n c a) (b:Same w w'):Ints k w' A n c a:=h.below (b.below _)
theorem Ints.drewN {k:IntKind} {w:World} {A:Option Addr} {n c:Nat} {a:List Int} (h:Ints k w A n c a) (m:Nat):Ints k (w.drewN m) A n c a:=h
theorem Ints.nil (k:IntKind) (w:World) (A:Option Addr) (c:Nat) (h:c≤9223372036854775807):Ints k w A 0 c []:=Sl.nil w A c h
theorem Ints.get {k:IntKind} {w:World} {A:Option Addr} {n c:Nat} {d:List Int} (h:Ints k w A n c d) {j:Nat} (l:j < n) :
 ∃ b a x,A=some ⟨b,a,none⟩∧b < w.heap.size∧Hid (d[j]? = some x)∧w.cell? ⟨b,a+j,none⟩=some (.int k x):=by
 have m:=h.len
 obtain ⟨b,a,e,f,g⟩:=h.2.2.2 (by rw [ints_length];omega)
 refine ⟨b,a,d[j]'(by omega),e,f,LH (List.getElem?_eq_getElem (by omega)),?_⟩
 rw [g j (by rw [ints_length];omega)]
 simp [ints,List.getElem?_eq_getElem (show j < d.length by omega)]
theorem Ints.part {k:IntKind} {w:World} {b d n c:Nat} {f:List Int} (h:Ints k w (some ⟨b,d,none⟩) n c f) (i m a:Nat) (u:i+m≤n) (l:m≤a) (o:a≤9223372036854775807) :
 Ints k w (some ⟨b,d+i,none⟩) m a ((f.drop i).take m):=by
 have t:=h.len
 refine ⟨by simp [ints];omega,l,o,fun r=>?_⟩
 simp [ints] at r
 obtain ⟨s,v,e,g,p⟩:=h.2.2.2 (by rw [ints_length];omega)
 injection e with e
 injection e with e1 e2
 subst e1;subst e2
 refine ⟨b,d+i,rfl,g,fun j q=>?_⟩
 simp [ints] at q
 rw [Nat.add_assoc,p (i+j) (by rw [ints_length];omega)]
 simp [ints,List.getElem?_take,List.getElem?_drop]
 intro;omega
theorem Ints.take {k:IntKind} {w:World} {A:Option Addr} {n c:Nat} {d:List Int} (h:Ints k w A n c d) (m a:Nat) (t:m≤n) (g:m≤a) (l:a≤9223372036854775807) :
 Ints k w A m a (d.take m):=by
 have s:=h.len
 refine ⟨by simp [ints];omega,g,l,fun q=>?_⟩
 simp [ints] at q
 obtain ⟨b,r,e,f,o⟩:=h.2.2.2 (by rw [ints_length];omega)
 refine ⟨b,r,e,f,fun j p=>?_⟩
 simp [ints] at p
 rw [o j (by rw [ints_length];omega)]
 simp [ints,List.getElem?_take]
 intro;omega
theorem ints_append (k:IntKind) (xs ys:List Int):ints k (xs++ys)=ints k xs++ints k ys:=by simp [ints]
theorem ints_snoc (k:IntKind) (xs:List Int) (x:Int):ints k (xs++[x])=ints k xs++[.int k x]:=by simp [ints]
def RetInts (k:IntKind) (w:World) (a:List Int) (e:Ending) (w':World):Prop :=
 ∃ A c,e = .returned (.slice A a.length c)∧Ints k w' A a.length c a∧Below w.heap.size w w'
theorem lit_sl (w:World) (t:TypeId) (a:List Value) (n:Nat) (arr:Array Value) (h:arr=a.toArray) (b:a.length=n) (c:n≤1000000):Sl (w.alloc (.cells arr t)) (some ⟨w.heap.size,0,none⟩) n n a:=by
 subst h
 have:=World.ownsRow_lit (base:=w.heap.size) (e:=t) (size:=1) w a.toArray n (Nat.le_refl _) (by simp [maxLen];omega) (by simp [b])
 simpa using own_sl this
def bitN (n:Int):Nat:=if 0≤n∧n < 32 then 2 ^ n.toNat else 0
def ofN (l:List Int):Nat:=l.foldl (fun s n=>s ||| bitN n) 0
def memsN (s:Nat):List Nat:=(List.range 32).filter (fun n=>s.testBit n)
theorem bitN_lt (n:Int):bitN n < 4294967296:=by
 unfold bitN
 split
 · rename_i h
   have:=Nat.pow_lt_pow_right (a:=2) (by decide) (show n.toNat < 32 by omega)
   simpa using this
 · omega
theorem or_lt32 {a b:Nat} (c:a < 4294967296) (d:b < 4294967296):a ||| b < 4294967296:=Nat.or_lt_two_pow (n:=32) c d
theorem ofN_snoc (l:List Int) (n:Int):ofN (l++[n])=ofN l ||| bitN n:=by simp [ofN]
theorem foldl_lt (l:List Int) (s:Nat) (a:s < 4294967296):l.foldl (fun s n=>s ||| bitN n) s < 4294967296:=by
 induction l generalizing s with
 | nil=>exact a
 | cons n l b=>exact b _ (or_lt32 a (bitN_lt n))
theorem ofN_lt (l:List Int):ofN l < 4294967296:=foldl_lt l 0 (by decide)
theorem test_big (s:Nat) (a:s < 4294967296) (i:Nat) (hi:32≤i):s.testBit i=false :=
 Nat.testBit_lt_two_pow (Nat.lt_of_lt_of_le a (by simpa using Nat.pow_le_pow_right (n:=2) (by decide) hi))
theorem mems_mem (s:Nat) (n:Nat):n ∈ memsN s ↔ n < 32∧s.testBit n=true:=by simp [memsN]
theorem sub_low (k m:Nat):(2 ^ k * (2 * m+1)) &&& (2 ^ k * (2 * m+1) - 1)=2 ^ k * (2 * m):=by
 apply Nat.eq_of_testBit_eq
 intro i
 have e:2 ^ k * (2 * m+1) - 1=2 ^ k * (2 * m)+(2 ^ k - 1):=by
  have:=Nat.two_pow_pos k
  rw [Nat.mul_add,Nat.mul_one];omega
 rw [Nat.testBit_and,e,Nat.testBit_two_pow_mul,Nat.testBit_two_pow_mul,Nat.testBit_two_pow_mul_add _ (by have:=Nat.two_pow_pos k;omega)]
 by_cases h:i < k
 · simp [h,Nat.not_le.2 h]
 · have c:k≤i:=by omega
   simp only [c,decide_true,Bool.true_and,h,if_false]
   obtain ⟨j,rfl⟩:∃ j,i=k+j:=⟨i - k,by omega⟩
   rw [Nat.add_sub_cancel_left]
   cases j with
   | zero=>simp [Nat.testBit_zero]
   | succ j =>
     rw [Nat.testBit_succ,Nat.testBit_succ]
     have a:(2 * m+1) / 2=m:=by omega
     have b:2 * m / 2=m:=by omega
     rw [a,b,Bool.and_self]
theorem filter_range_split (p:Nat→Bool) (k n:Nat) (f:k < n) (b:∀ i,i < k→p i=false) (c:p k=true) :
 (List.range n).filter p=k::((List.range n).filter (fun i=>p i && decide (i ≠ k))):=by
 obtain ⟨d,rfl⟩:∃ d,n=k+(d+1):=⟨n - k - 1,by omega⟩
 have e:List.range (k+(d+1))=List.range k++k::(List.range d).map (fun i=>k+1+i):=by
  rw [List.range_add,List.range_succ_eq_map]
  simp [Function.comp_def]
  intro a _;omega
 have a1:(List.range k).filter p=[]:=List.filter_eq_nil_iff.2 fun i hi=>by simp [b i (List.mem_range.1 hi)]
 have a2:(List.range k).filter (fun i=>p i && decide (i ≠ k))=[]:=List.filter_eq_nil_iff.2 fun i hi=>by simp [b i (List.mem_range.1 hi)]
 rw [e,List.filter_append,List.filter_append,a1,a2,List.filter_cons,List.filter_cons,if_pos c]
 simp only [List.nil_append,ne_eq,not_true_eq_false,decide_false,Bool.and_false]
 congr 1
 apply List.filter_congr
 intro i hi
 obtain ⟨j,_,rfl⟩:=List.mem_map.1 hi
 have:k+1+j ≠ k:=by omega
 simp [this]
theorem low_bits (s:Nat) (g:s ≠ 0) (o:s < 4294967296) :
 Lib.ctz 32 s < 32∧(∀ i,i < Lib.ctz 32 s→s.testBit i=false)∧s.testBit (Lib.ctz 32 s)=true∧(∀ i,(s &&& (s - 1)).testBit i=(s.testBit i && decide (i ≠ Lib.ctz 32 s)))∧s &&& (s - 1) < s:=by
 obtain ⟨m,a,l⟩:=Lib.ctzFrom_spec 32 s (by omega) o
 have e:Lib.ctz 32 s=Lib.ctzFrom 32 s:=by simp [Lib.ctz,g]
 rw [e]
 generalize Lib.ctzFrom 32 s=k at *
 have b:=sub_low k m
 rw [← a] at b
 have n:=Nat.two_pow_pos k
 refine ⟨l,fun i hi=>?_,?_,fun i=>?_,?_⟩
 · rw [a,Nat.testBit_two_pow_mul]
   simp [Nat.not_le.2 hi]
 · rw [a,Nat.testBit_two_pow_mul]
   simp [Nat.testBit_zero]
 · rw [b,Nat.testBit_two_pow_mul,a,Nat.testBit_two_pow_mul]
   by_cases h:k≤i
   · simp only [h,decide_true,Bool.true_and]
     obtain ⟨j,rfl⟩:∃ j,i=k+j:=⟨i - k,by omega⟩
     rw [Nat.add_sub_cancel_left]
     cases j with
     | zero=>simp [Nat.testBit_zero]
     | succ j =>
       rw [Nat.testBit_succ,Nat.testBit_succ]
       have c:(2 * m+1) / 2=m:=by omega
       have d:2 * m / 2=m:=by omega
       have f:k+(j+1) ≠ k:=by omega
       simp [c,d,f]
   · simp [h]
 · rw [b]
   have:2 ^ k * (2 * m) < 2 ^ k * (2 * m+1):=Nat.mul_lt_mul_of_pos_left (by omega) n
   omega
theorem mems_step (s:Nat) (a:s ≠ 0) (g:s < 4294967296):memsN s=Lib.ctz 32 s::memsN (s &&& (s - 1)):=by
 obtain ⟨f,b,c,d,_⟩:=low_bits s a g
 unfold memsN
 rw [filter_range_split (fun i=>s.testBit i) (Lib.ctz 32 s) 32 f b c]
 congr 1
 apply List.filter_congr
 intro i _
 rw [d]
theorem mems_zero:memsN 0=[]:=by
 unfold memsN
 exact List.filter_eq_nil_iff.2 fun i _=>by simp
theorem Tryz.infoInt:(Tryz.prog.info? 3).map (fun i=>(i.zero,i.size,i.bytes))=some (some (.int .i64 0),1,8):=by kernel_rfl
theorem Tryz.infoU32:(Tryz.prog.info? 49).map (fun i=>(i.zero,i.size,i.bytes))=some (some (.int .u32 0),1,4):=by kernel_rfl
theorem or32 (a b:Nat) (f:a < 4294967296) (g:b < 4294967296):bits .or .u32 (a:Int) (b:Int)=((a ||| b:Nat):Int):=by
 have h:a ||| b < 2 ^ 32:=Nat.or_lt_two_pow (by omega) (by omega)
 have c:(BitVec.ofInt 32 (a:Int)).toNat=a:=by rw [BitVec.ofInt_natCast,BitVec.toNat_ofNat];exact Nat.mod_eq_of_lt (by omega)
 have d:(BitVec.ofInt 32 (b:Int)).toNat=b:=by rw [BitVec.ofInt_natCast,BitVec.toNat_ofNat];exact Nat.mod_eq_of_lt (by omega)
 show IntKind.u32.wrap ((BitVec.ofInt 32 (a:Int) ||| BitVec.ofInt 32 (b:Int)).toNat:Int)=_
 rw [BitVec.toNat_or,c,d,IntKind.wrap_u32]
 omega
theorem and32 (a b:Nat) (f:a < 4294967296) (g:b < 4294967296):bits .and .u32 (a:Int) (b:Int)=((a &&& b:Nat):Int):=by
 have h:a &&& b < 2 ^ 32:=Nat.and_lt_two_pow _ (by omega)
 have c:(BitVec.ofInt 32 (a:Int)).toNat=a:=by rw [BitVec.ofInt_natCast,BitVec.toNat_ofNat];exact Nat.mod_eq_of_lt (by omega)
 have d:(BitVec.ofInt 32 (b:Int)).toNat=b:=by rw [BitVec.ofInt_natCast,BitVec.toNat_ofNat];exact Nat.mod_eq_of_lt (by omega)
 show IntKind.u32.wrap ((BitVec.ofInt 32 (a:Int) &&& BitVec.ofInt 32 (b:Int)).toNat:Int)=_
 rw [BitVec.toNat_and,c,d,IntKind.wrap_u32]
 omega
theorem set_bit1 (n:Int) (w:World):Calls Tryz.prog 197 #[.int .i64 n] w fun e w'=>e = .returned (.int .u32 ((bitN n:Nat):Int))∧w=w':=by
 by_cases c:n < 0
 · have b:bitN n=0:=by simp [bitN];omega
   rw [b]
   clear b
   go_enter Tryz.func197,Tryz.ntmps197
   go_wp2
   go_ret
   exact ⟨rfl,rfl⟩
 by_cases d:32≤n
 · have b:bitN n=0:=by simp [bitN];omega
   rw [b]
   clear b
   go_enter Tryz.func197,Tryz.ntmps197
   go_wp2
   go_ret
   exact ⟨rfl,rfl⟩
 obtain ⟨r,rfl⟩:∃ r:Nat,n=(r:Int):=⟨n.toNat,by omega⟩
 have b:bitN (r:Int)=2 ^ r:=by simp [bitN];omega
 have f:(2:Int) ^ r % 4294967296=((2 ^ r:Nat):Int):=by
  have h:(2:Nat) ^ r < 4294967296:=by
   have:=Nat.pow_lt_pow_right (a:=2) (by decide) (show r < 32 by omega)
   simpa using this
  have e:(2:Int) ^ r=((2 ^ r:Nat):Int):=by simp
  rw [e]
  omega
 rw [b]
 have g:(r:Int) < 32:=by omega
 generalize (2:Nat) ^ r=p at *
 clear b c d
 go_enter Tryz.func197,Tryz.ntmps197
 go_wp2
 go_ret
 exact ⟨congrArg Ending.returned (congrArg (Value.int .u32) f),rfl⟩
theorem set_of (A:Option Addr) (n c:Nat) (a:List Int) (w:World) (h:Ints .i64 w A n c a):Calls Tryz.prog 149 #[.slice A n c] w fun e w'=>e = .returned (.int .u32 ((ofN a:Nat):Int))∧w=w':=by
 obtain rfl:=h.len
 have p:=h.cap
 go_enter Tryz.func149,Tryz.ntmps149
 go_wp2
 go_loop [2,4,7] (fun s _ i=>∃ k:Nat,k≤a.length∧i = .int .i64 (k:Int)∧s = .int .u32 ((ofN (a.take k):Nat):Int)) (fun _ _ i=>a.length - (intOf i).toNat)
 case atStart=>exact ⟨0,Nat.zero_le _,rfl,rfl⟩
 case round =>
  obtain ⟨k,q,rfl,rfl⟩:=hrel
  by_cases l:k < a.length
  · obtain ⟨b,u,x,rfl,m,Hx,o⟩:=h.get (j:=k) l
    have r:=or32 (ofN (a.take k)) (bitN x) (ofN_lt _) (bitN_lt x)
    have g:Hid (ofN (a.take (k+1))=ofN (a.take k) ||| bitN x):=LH (by rw [List.take_add_one,Hx.out];exact ofN_snoc _ _)
    have d:=set_bit1 x w
    generalize ofN (a.take k)=s at *
    generalize bitN x=t at *
    have f:=LH d
    clear d
    go_wp2_with (go_at_call 197;(with_reducible refine f.out.mono ?_);rintro e w' ⟨rfl,rfl⟩)
    go_round
    case rel=>exact ⟨k+1,by omega,by go_num,by rw [g.out]⟩
    case measure=>simp [intOf];omega
  · obtain rfl:k=a.length:=by omega
    go_wp2
    go_ret
    exact ⟨by simp,rfl⟩
def TabAt (w:World):Prop:=∀ j,j < 32→w.cell? ⟨0,j,none⟩=some (.int .u8 ((Lib.deBruijn32tab.getD j 0:Nat):Int))
theorem tz32_key (s a:Nat) (d:s < 4294967296) (f:s ≠ 0) (c:s &&& (4294967296 - s)=a) :
 bits BinOp.and IntKind.u32 (s:Int) (-(s:Int) % 4294967296) * 125613361 % 4294967296 / 134217728=((a * 125613361 % 4294967296 / 134217728:Nat):Int):=by
 have b:-(s:Int) % 4294967296=((4294967296 - s:Nat):Int):=by omega
 rw [b,and32 s _ d (by omega),c]
 omega
theorem tz32_core (s k a:Nat) (w:World) (d:((s:Int) == 0)=false)
 (key:bits BinOp.and IntKind.u32 (s:Int) (-(s:Int) % 4294967296) * 125613361 % 4294967296 / 134217728=(a:Int))
 (hi:a < 32) (c:k < 32) (b:w.cell? ⟨0,a,none⟩=some (.int .u8 (k:Int))) :
 Calls Tryz.prog 196 #[.int .u32 (s:Int)] w fun e w'=>e = .returned (.int .i64 (k:Int))∧w=w':=by
 go_enter Tryz.func196,Tryz.ntmps196
 go_wp2_with (simp only [key])
 go_ret
 exact ⟨rfl,rfl⟩
theorem tz32 (s:Nat) (w:World) (a:s ≠ 0) (d:s < 4294967296) (f:TabAt w) :
 Calls Tryz.prog 196 #[.int .u32 (s:Int)] w fun e w'=>e = .returned (.int .i64 ((Lib.ctz 32 s:Nat):Int))∧w=w':=by
 obtain ⟨g,c⟩:=Lib.lowest_bit 32 s a d
 obtain ⟨hi,h⟩:=Lib.deBruijn32_at _ c
 have b:=f _ hi
 rw [h] at b
 exact tz32_core s _ _ w (by simp;omega) (tz32_key s _ d a g) hi c b
theorem TabAt.below {w w':World} (h:TabAt w) (c:Below w.heap.size w w'):TabAt w':=fun j d=>by
 have f:0 < w.heap.size:=by
  have b:=h 0 (by decide)
  rcases Nat.lt_or_ge 0 w.heap.size with a | a
  · exact a
  · simp [World.cell?,Array.getElem?_eq_none a] at b
 exact (c.cell (p:=⟨0,j,none⟩) f).trans (h j d)
theorem mems_len (s:Nat):(memsN s).length≤32:=by
 have:=List.length_filter_le (fun n=>s.testBit n) (List.range 32)
 simpa [memsN] using this
def intsOf (l:List Nat):List Int:=l.map fun (n:Nat)=>(n:Int)
theorem intsOf_length (l:List Nat):(intsOf l).length=l.length:=by simp [intsOf]
theorem set_members (s:Nat) (w:World) (E:s < 4294967296) (z:TabAt w) :
 Calls Tryz.prog 148 #[.int .u32 (s:Int)] w (RetInts .i64 w (intsOf (memsN s))):=by
 have u:=LH (mems_len s)
 go_enter Tryz.func148,Tryz.ntmps148
 go_wp2
 go_loopw [0,3] (fun t o wr=>∃ (r:Nat) (A:Option Addr) (b:Nat) (a:List Nat),t = .int .u32 (r:Int)∧r < 4294967296∧Hid (memsN s=a++memsN r)∧o = .slice A a.length b ∧
  wr.ownsRow w.heap.size 3 1 (.slice A a.length b) a.length (ints .i64 (intsOf a))∧Below w.heap.size w wr) (fun t _ _=>(intOf t).toNat)
 case atStart=>exact ⟨s,none,0,[],rfl,E,LH rfl,rfl,World.ownsRow_nil _ _ _ _,Below.refl _ _⟩
 case round =>
  obtain ⟨r,A,b,a,rfl,f,g,rfl,h,d⟩:=hrel
  have B:=d.size
  by_cases c:r=0
  · subst c
    have n:memsN s=a:=by rw [g.out,mems_zero,List.append_nil]
    have v:=LH n
    clear n
    go_wp2
    go_ret
    have e:intsOf (memsN s)=intsOf a:=by rw [v.out]
    rw [e]
    refine ⟨A,b,by rw [intsOf_length];rfl,?_,d⟩
    rw [intsOf_length]
    exact own_sl h
  · have j:=mems_step r c f
    obtain ⟨H,_,_,_,I⟩:=low_bits r c f
    have M:((r:Int) != 0)=true:=by rw [bne_iff_ne];omega
    have m:=tz32 r wr c f (z.below d)
    have G:bits .and .u32 (r:Int) ((r:Int) - 1)=((r &&& (r - 1):Nat):Int):=by
     rw [show (r:Int) - 1=((r - 1:Nat):Int) from by omega]
     exact and32 r (r - 1) f (by omega)
    have L:0 < r:=by omega
    have J:a.length < 32:=by
     have:=u.out
     rw [g.out,j,List.length_append,List.length_cons] at this
     omega
    have x:=LH j
    have q:=LH m
    clear j m
    generalize Lib.ctz 32 r=k at *
    generalize r &&& (r - 1)=F at *
    go_wp2_with (first
     | (go_at_call 196;(with_reducible refine q.out.mono ?_);rintro e w' ⟨rfl,rfl⟩)
     | (at_builtin;refine wpl_append1 (w:=wr) rfl _ _ 27 rfl w.heap.size 3 (.int .i64 0) 8 Tryz.underlying27 Tryz.infoInt rfl _ a.length _ _ rfl h (.int .i64 ((k:Int))) rfl rfl (by omega) (by omega) (by omega) ?_;intro p y N D C))
    go_roundw
    case rel =>
     have e:ints .i64 (intsOf (a++[k]))=ints .i64 (intsOf a)++[.int .i64 (k:Int)]:=by simp [ints,intsOf]
     have l:(a++[k]).length=a.length+1:=by simp
     refine ⟨F,p,y,a++[k],rfl,by omega,LH (by rw [g.out,x.out];simp),by rw [l],?_,below_append d C h B⟩
     rw [e,l]
     exact D
    case measure=>simp [intOf];omega
open Go.ChangeShapes Go.WideShapes Go.ChangeAt Go.RowKit
def laidL:List (String × DataW Unit):=[("math/bits.deBruijn32tab",Rows.laid_math_bits_deBruijn32tab)]
theorem gTab:Tryz.prog.globalNamed "math/bits.deBruijn32tab"=some 0:=by kernel_rfl
theorem tTab:(Tryz.prog.globals[0]?).map (·.type)=some 270:=by kernel_rfl
theorem door_met (os:Os) (args:Array Value):laidMetH Tryz.prog laidL ((World.doorLaid Tryz.prog 400 os).forCall (fun _ _=>0) ⟨#[],args,[]⟩).memory :=
 laidMetH_of_parts3 (fuel:=8) (laidMet_of_run' 8 (by kernel_rfl) (by kernel_rfl)) (by kernel_rfl) (by kernel_rfl)
theorem tab_lits:(Rows.laid_math_bits_deBruijn32tab:DataW Unit) = .agg (Lib.deBruijn32tab.map fun (n:Nat) => .lit (.int .u8 (n:Int))):=by rfl
theorem of_laid {W:World} (h:laidMetH Tryz.prog laidL W):TabAt W:=by
 rw [MakeChecks.laidMetH_plain _ _ _ (by kernel_rfl)] at h
 obtain ⟨ps,⟨g0,B,m,u,p0,A,f,s,t,q,_,_⟩,_,_⟩:=h
 obtain rfl:=Option.some.inj (gTab.symm.trans f)
 obtain rfl:=Option.some.inj (tTab.symm.trans s)
 obtain ⟨xs,z,rfl,g,x,y,a⟩:=DataW.trod_array Tryz.underlying270 q
 have c1:Tryz.prog.cellsOf 5=1:=by kernel_rfl
 simp only [Prod.mk.injEq] at g
 have c:=g.1
 rw [tab_lits] at c
 simp only [DataW.agg.injEq] at c
 intro j r
 have a:=a j r
 have l:xs[j]? = some (xs[j]'(by omega)):=List.getElem?_eq_getElem (by omega)
 rw [l] at a
 obtain ⟨k,d,n,_⟩:=DataW.trod_int Tryz.underlying5 a
 have b:(xs.map (·.1))[j]? = some (.lit (.int .u8 k)):=by
  rw [List.getElem?_map,l,n];rfl
 rw [← c,List.getElem?_map] at b
 have v:Lib.deBruijn32tab.length=32:=by decide
 rw [List.getElem?_eq_getElem (by omega)] at b
 simp only [Option.map_some,Option.some.injEq,DataW.lit.injEq,Lit.int.injEq,true_and] at b
 have o:=World.var?_cell f t j
 rw [c1] at d
 have p:m[j]? = some (.int .u8 k):=by
  have:=congrArg List.head? d
  simpa [List.head?_take,List.head?_drop] using this
 rw [o,p,← b]
 simp [List.getElem?_eq_getElem (show j < Lib.deBruijn32tab.length by omega)]
open Ieee
def fN (n:Nat):Nat:=Ieee.double.nearest false n 0
theorem fN_zero:fN 0=0:=by decide
def okN (n:Nat):Bool:=decide (1≤n∧n≤1073741824)
def okP (l c:Nat):Bool:=okN l && okN c
def PV (l c:Nat):Value := .complex .f64 (fN l) (fN c)
theorem PV_zero:PV 0 0 = .complex .f64 0 0:=by unfold PV;rw [fN_zero]
theorem floatOfInt_nat (n:Nat):floatOfInt .f64 (n:Int)=fN n:=by
 unfold floatOfInt FloatKind.nearest
 have a:decide ((n:Int) < 0)=false:=by simp
 rw [a,Int.natAbs_natCast]
 rfl
def ofP (a b:Int):Value:=if 1≤a∧a≤1073741824∧1≤b∧b≤1073741824 then PV a.toNat b.toNat else PV 0 0
theorem ref_of (a b:Int) (w:World):Calls Tryz.prog 220 #[.int .i64 a, .int .i64 b] w fun e w'=>e = .returned (ofP a b)∧w=w':=by
 by_cases h:1≤a∧a≤1073741824∧1≤b∧b≤1073741824
 · unfold ofP
   rw [if_pos h]
   obtain ⟨n,rfl⟩:∃ n:Nat,a=(n:Int):=⟨a.toNat,by omega⟩
   obtain ⟨m,rfl⟩:∃ m:Nat,b=(m:Int):=⟨b.toNat,by omega⟩
   have g:=floatOfInt_nat n
   have j:=floatOfInt_nat m
   obtain ⟨c,d,f,k⟩:=h
   unfold PV
   rw [Int.toNat_natCast,Int.toNat_natCast]
   generalize fN n=x at *
   generalize fN m=y at *
   go_enter Tryz.func220,Tryz.ntmps220
   go_wp2
   go_ret
   exact ⟨by simp [g,j],rfl⟩
 · unfold ofP
   rw [if_neg h,PV_zero]
   have l:a < 1∨(1≤a∧1073741824 < a)∨(1≤a∧a≤1073741824∧b < 1)∨(1≤a∧a≤1073741824∧1≤b∧1073741824 < b):=by omega
   clear h
   rcases l with c | ⟨c,d⟩ | ⟨c,d,f⟩ | ⟨c,d,f,k⟩
   all_goals
    go_enter Tryz.func220,Tryz.ntmps220
    go_wp2
    go_ret
    exact ⟨rfl,rfl⟩
def stepP (p:Nat × Nat) (b:Nat):Nat × Nat:=if b=10 then (p.1+1,1) else (p.1,p.2+1)
def atN (a:List Nat):Nat × Nat:=a.foldl stepP (1,1)
theorem atN_snoc (a:List Nat) (b:Nat):atN (a++[b])=stepP (atN a) b:=by simp [atN]
theorem atN_go (a:List Nat):∀ p:Nat × Nat,1≤p.1→1≤p.2→1≤(a.foldl stepP p).1∧(a.foldl stepP p).1≤p.1+a.length∧1≤(a.foldl stepP p).2∧(a.foldl stepP p).2≤p.2+a.length:=by
 induction a with
 | nil=>intro p d f;simp;omega
 | cons b a g =>
   intro p d f
   have c:1≤(stepP p b).1∧(stepP p b).1≤p.1+1∧1≤(stepP p b).2∧(stepP p b).2≤p.2+1:=by
    unfold stepP
    split <;> simp <;> omega
   have:=g (stepP p b) c.1 c.2.2.1
   rw [List.foldl_cons,List.length_cons]
   omega
theorem atN_bd (a:List Nat):1≤(atN a).1∧(atN a).1≤a.length+1∧1≤(atN a).2∧(atN a).2≤a.length+1:=by
 have:=atN_go a (1,1) (by decide) (by decide)
 unfold atN
 omega
theorem okP_of {l c:Nat} (a:1≤l) (b:l≤1073741824) (d:1≤c) (f:c≤1073741824):okP l c=true:=by simp [okP,okN,a,b,d,f]
theorem ofP_of (l c:Nat) (h:okP l c=true):ofP (l:Int) (c:Int)=PV l c:=by
 simp [okP,okN] at h
 unfold ofP
 rw [if_pos (by omega)]
 simp
def atP (a:List Nat) (i:Int):Value:=if 0≤i∧i≤a.length then PV (atN (a.take i.toNat)).1 (atN (a.take i.toNat)).2 else PV 0 0
theorem ref_at (A:Option Addr) (n c:Nat) (a:List Nat) (i:Int) (w:World) (h:Nums .u8 w A n c a) (O:n≤100000) :
 Calls Tryz.prog 186 #[.slice A n c, .int .i64 i] w fun e w'=>e = .returned (atP a i)∧w=w':=by
 obtain rfl:=h.len
 have I:=h.cap
 by_cases hi:0≤i∧i≤a.length
 case neg =>
  have y:atP a i = .complex .f64 0 0:=by unfold atP;rw [if_neg hi,PV_zero]
  rw [y]
  have F:i < 0∨(0≤i∧(a.length:Int) < i):=by omega
  clear hi y
  rcases F with g | ⟨g,G⟩
  all_goals
   go_enter Tryz.func186,Tryz.ntmps186
   go_wp2
   go_ret
   exact ⟨rfl,rfl⟩
 have t:Hid (atP a i=PV (atN (a.take i.toNat)).1 (atN (a.take i.toNat)).2):=LH (by unfold atP;rw [if_pos hi])
 obtain ⟨m,rfl⟩:∃ m:Nat,i=(m:Int):=⟨i.toNat,by omega⟩
 obtain ⟨J,L⟩:=hi
 rw [Int.toNat_natCast] at t
 go_enter Tryz.func186,Tryz.ntmps186
 go_wp2
 go_loop [5,6,7] (fun l E i=>∃ k d f:Nat,k≤m∧i = .int .i64 (k:Int)∧l = .int .i64 (d:Int)∧E = .int .i64 (f:Int)∧Hid (atN (a.take k)=(d,f))) (fun _ _ i=>m - (intOf i).toNat)
 case atStart=>exact ⟨0,1,1,Nat.zero_le _,rfl,rfl,rfl,LH rfl⟩
 case round =>
  obtain ⟨k,d,f,M,rfl,rfl,rfl,s⟩:=hrel
  have o:=atN_bd (a.take k)
  have R:(a.take k).length≤100000:=by rw [List.length_take];omega
  rw [s.out] at o
  simp only [] at o
  by_cases N:k < m
  · obtain ⟨b,T,x,rfl,H,Hx,p⟩:=h.get (j:=k) (by omega)
    have r:atN (a.take (k+1))=stepP (d,f) x:=by
     rw [List.take_add_one,Hx.out,← s.out]
     exact atN_snoc _ _
    by_cases v:x=10
    · subst v
      have u:=LH r
      clear r
      go_wp2
      go_round
      case rel=>exact ⟨k+1,d+1,1,by omega,by go_num,by go_num,rfl,LH (by rw [u.out];simp [stepP])⟩
      case measure=>simp [intOf];omega
    · have u:=LH r
      have S:((x:Int) == 10)=false:=by rw [beq_eq_false_iff_ne];omega
      have D:=LH v
      clear r v
      go_wp2
      go_round
      case rel=>exact ⟨k+1,d,f+1,by omega,by go_num,rfl,by go_num,LH (by rw [u.out];simp [stepP,D.out])⟩
      case measure=>simp [intOf];omega
  · obtain rfl:k=m:=by omega
    have p:=ref_of (d:Int) (f:Int) w
    rw [ofP_of d f (okP_of o.1 (by omega) o.2.2.1 (by omega))] at p
    have z:atP a (k:Int)=PV d f:=by rw [t.out,s.out]
    generalize PV d f=q at *
    have C:=LH z
    have B:=LH p
    clear p t z
    go_wp2_with (go_at_call 220;(with_reducible refine B.out.mono ?_);rintro e w' ⟨rfl,rfl⟩)
    go_ret
    exact ⟨by rw [C.out];rfl,rfl⟩
def str (l:List Nat):ByteArray:=⟨(l.map UInt8.ofNat).toArray⟩
theorem run_bytes_str {P:Program} (w:World) (src e f:TypeId) (l:P.underlying src=some (.slice e)) (g:P.underlying e=some (.int .u8)) (hd:P.underlying f=some .string)
 (A:Option Addr) (c:Nat) (a:List Nat) (h:Nums .u8 w A a.length c a):(convert src f (.slice A a.length c)).run P w = .ok (.string (str a)) w:=by
 have n:strOfNums (a.map fun (x:Nat)=>(x:Int))=str a:=by simp [strOfNums,str,Function.comp_def]
 rcases A with _ | m
 · have d:a.length=0:=by
    rcases Nat.eq_zero_or_pos a.length with d | d
    · exact d
    · obtain ⟨b,j,g,_⟩:=h.at_ d
      cases g
   obtain rfl:=List.eq_nil_of_length_eq_zero d
   exact run_convert_bytes_nil w src e l g _ _ f hd
 · by_cases d:0 < a.length
   · obtain ⟨b,j,k,_,o⟩:=h.at_ d
     injection k with k
     subst k
     rw [run_convert_bytes_arg w src e l g b j a.length c (a.map fun (x:Nat)=>(x:Int)) (by simp) (fun i hi=>by
      rw [o i hi]
      simp [List.getElem?_eq_getElem hi]) f hd,n]
   · obtain rfl:=List.eq_nil_of_length_eq_zero (show a.length=0 by omega)
     obtain ⟨b,j,p⟩:=m
     simp only [List.length_nil]
     rw [run_convert_bytes_string w src f e _ _ _ l g hd,run_bytesToString w ⟨b,j,p⟩ 0 c [] (by simp [loadCells,loadCellsFrom])]
     rfl
def bytesOf (s:ByteArray):List Nat:=s.data.toList.map UInt8.toNat
theorem bytesOf_len (s:ByteArray):(bytesOf s).length=s.size:=by simp [bytesOf]
theorem bytesOf_get (s:ByteArray) (k:Nat) (h:k < s.size):(bytesOf s)[k]? = some s[k].toNat:=by
 simp only [bytesOf,List.getElem?_map]
 rw [List.getElem?_eq_getElem (by simpa using h)]
 rfl
theorem bytesOf_str (l:List Nat) (h:∀ c ∈ l,c < 256):bytesOf (str l)=l:=by
 simp only [bytesOf,str,List.map_map]
 conv=>rhs;rw [← List.map_id l]
 apply List.map_congr_left
 intro c a
 have:=h c a
 simp only [Function.comp,id,UInt8.toNat_ofNat']
 omega
theorem bytesOf_lt (s:ByteArray):∀ c ∈ bytesOf s,c < 256:=by
 intro c a
 simp only [bytesOf,List.mem_map] at a
 obtain ⟨b,_,rfl⟩:=a
 exact b.toNat_lt
theorem str_size (l:List Nat):(str l).size=l.length:=by
 show (str l).data.size=_
 simp [str]
theorem isEmpty_str (s:ByteArray) (h:0 < s.size):s.toList.isEmpty=false∧¬ s.toList=[]:=by
 have e:s.toList=s.data.toList:=ByteArray.toList_eq s
 have a:s.data.toList.length=s.size:=by simp
 constructor
 · rw [e,List.isEmpty_eq_false_iff]
   intro b;rw [b] at a;simp at a;omega
 · rw [e];intro b;rw [b] at a;simp at a;omega
theorem isEmpty_str0 (s:ByteArray) (h:s.size=0):s.toList=[]:=by
 have e:s.toList=s.data.toList:=ByteArray.toList_eq s
 have a:s.data.toList.length=s.size:=by simp
 rw [e]
 exact List.eq_nil_of_length_eq_zero (by omega)
end Go.Proofs.YtggbjdmpjidhgaaGreatDoor
