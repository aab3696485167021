/- the reading of a grammar, its counts, and what is drawn: lemmas -/
import Derived.WalkKit
import Derived.WalkSpells
import Derived.WalkLawsBesides
import Derived.Lib.Hide
import Derived.IntWalk
import Derived.Below
import Derived.Laws.OwnMore
import Derived.Deep.Draws
import Derived.Maps.AppendAt
import Derived.Lib.SliceRun
import Derived.Lib.TrailingZeros
import Derived.Lib.BitFns
import Derived.Test.YtaagompdgiobeaaGreatDoorProg
import Derived.Laws.Bits64b
import Derived.Lib.Tables
import Derived.Deep.QuietTactic
import Derived.BigQuiet
import Derived.Test.YtaagompdgiobeaaGreatDoorRows
import Derived.ProofKit
import Derived.LaidMore
import Derived.OpenShut
import Derived.Stop.Joined
import Ieee.Arith
import Derived.Laws.FloatArith
import Derived.Laws.Cover3
import Derived.Laws.ComplexArith
import Derived.ChangeAlike
import Derived.Laws.BytesArg
import Derived.Lib.AppendStr
import Derived.Lib.ConvBytes
import Derived.Laws.AppendOwn
import Derived.Maps.OwnOps
import Derived.Maps.OwnSet
import Derived.Shelf.Small.Bits
import Derived.Shelf.Small.Wraps
import Derived.Shelf.Strconv.Itoa0
import Derived.Shelf.Sort.Plain
import Derived.Shelf.Slices.Equal
import Derived.Ground.Names2Prog
import Derived.Shelf.Slices.Clone
import Derived.Shelf.Slices.CompactS
import Derived.Shelf.Slices.SearchI
import Derived.Shelf.Slices.Cells
import Derived.Shelf.Slices.In.SortNone
import Derived.Shelf.Slices.Empties2
import Derived.Ground.SlgnProg
import Derived.Shelf.SlicesE.Equal
import Derived.Shelf.SlicesE.Compact
import Derived.Shelf.SlicesE.Clone
import Derived.Ground.SlgfProg
import Derived.Shelf.SlicesE.IndexFunc
import Derived.Shelf.SlicesE.DeleteFunc
import Derived.Shelf.SlLaysZ
import Derived.Shelf.SlGeneric
import Derived.Ground.GgzProg
import Derived.RangeFuncNested
import Derived.RangeFuncBound
import Derived.RangeFuncCalls
import Derived.RangeFuncLeaves
import Derived.RangeFuncBox
import Derived.Shelf.Abstract
import Derived.Shelf.RegionOpen
import Derived.OwnWalkIn
import Derived.TacticsInMore
import Derived.LoopNIn
import Derived.LoopIn
import Derived.Sort.QuietIn
import Derived.Sort.OwnSorted
import Derived.Deep.LoopGhost
import Derived.Deep.RegionWith
import Derived.Outline
import Derived.StillTail
import Derived.Deep.DeepCutAuto
import Derived.Deep.RegionLaw
import Derived.Deep.RegionHeld3
import Derived.Laws.StructEq
import Derived.Lib.Strings
import Derived.Lib.Slices
import Derived.Lib.Small
import Derived.Lib.Walk
import Derived.DeepKeys4
import Derived.Lib.SlBytesConst
import Derived.SliceStrings
import Derived.Lib.SmallJoins
import Derived.Deep.Slices
import Derived.Test.YtaagompdgiobeaaGreatDoorUQGrShelf
set_option linter.all false
set_option maxHeartbeats 1500000
set_option maxRecDepth 100000
namespace Go.Proofs.YtaagompdgiobeaaGreatDoor
open Go.RowKit Go.Proofs.Tryz
open Go.Value renaming slice→K,slice→aK,int→aI,bool→aB,pointer→aP,string→aS,agg→aG open Go.IntKind renaming i64→aJ open Go.Obj renaming cells→aC open Go.Ending renaming returned→aR open List renaming length→Q,length→aQ open Option renaming none→aN
section
variable{p:Prop}{q:World->World->Prop}
def AA{p:Prop}(h:p:=by omega):p:=h
def AB{p:Prop}(h:p:=by kernel_rfl):p:=h
def AC{p:Prop}(h:p:=by decide):p:=h
def AD{p:Prop}(h:p:=by simp only [];omega):p:=h
def AE{p:Prop}(h:p:=by simp):p:=h
def AF{p:Prop}(h:p:=by go_num):p:=h
def AG{p:Prop}(h:p:=by simp;omega):p:=h
def AH{p:Prop}(h:p:=by assumption):p:=h
def AI{p:Value->Prop}{q:World->World->Prop}:∀(v:Value)(X C:World),p v->q X C->p v:=λ_ _ _ h _=>h
abbrev AJ:=@Nat.le_refl
abbrev AK:=@Nat.lt_of_lt_of_le
abbrev AL:=@List.getElem?_eq_getElem
abbrev AM:=@List.mem_of_getElem?
abbrev AN:=@List.getElem?_eq_some_iff
abbrev AO:=@List.getD_eq_getElem?_getD
abbrev AP:=@Below.refl
abbrev AQ:=@List.take_of_length_le
abbrev AR:=@beq_eq_false_iff_ne
abbrev AS:=@Bool.and_eq_true
abbrev AU:=@List.length_append
abbrev AV:=@Nat.zero_le
abbrev AW:=@bodyPost_ret
abbrev AX:=@results_cell_row
abbrev AY:=@List.length_cons
abbrev AZ:=@decide_eq_false_iff_not
abbrev By:=@List.mem_cons_self
abbrev BA:=@decide_eq_true_iff
abbrev BB:=@List.getElem?_map
abbrev BC:=@Nat.le_trans
abbrev BD:=@Nat.lt_or_ge
abbrev BE:=@List.getElem?_eq_none
abbrev BF:=@Nat.zero_add
abbrev BG:=@List.all_eq_true
abbrev BH:=@List.eq_nil_of_length_eq_zero
abbrev BI:=@List.length_map
abbrev BJ:=@wpQuiet_nil
abbrev BK:=@bne_iff_ne
abbrev BL:=@World.ownsRow_nil
abbrev BM:=@Option.some.inj
abbrev BN:=@List.mem_cons_of_mem
abbrev BO:=@List.mem_singleton
abbrev BP:=@List.mem_range
abbrev BQ:=@List.getElem?_of_mem
abbrev BR:=@bne_eq_false_iff_eq
abbrev BS:=@beq_iff_eq
abbrev BT:=@Option.some.injEq
abbrev BU:=@List.length_take
abbrev BV:=@decide_eq_false
abbrev BW:=@Nat.eq_zero_or_pos
abbrev BX:=@List.getElem?_append_right
abbrev BY:=@List.mem_cons
abbrev BZ:=@IntWalk.i64_in
abbrev Cc:=@Bool.eq_iff_iff
abbrev Cs:=@Bool.or_eq_true
abbrev CJ:=@List.length_drop
abbrev CU:=@List.map_cons
abbrev CV:=@Nat.pow_le_pow_right
abbrev CW:=@List.length_singleton
abbrev CX:=@List.mem_map
abbrev CZ:=@Array.getElem?_eq_none
abbrev Du:=@List.take_add_one
abbrev DA:=@List.nil_append
abbrev DB:=@List.mem_append
abbrev DC:=@Nat.le_add_right
abbrev DD:=@Bool.false_ne_true
abbrev DE:=@List.length_nil
abbrev DF:=@List.getElem?_append_left
abbrev DG:=@World.cell?_of_block
abbrev DH:=@Int.toNat_natCast
abbrev DI:=@List.map_append
abbrev DJ:=@List.append_nil
abbrev DK:=@Nat.mul_add
abbrev DL:=@List.cons_append
abbrev DM:=@Prod.mk.injEq
abbrev DN:=@Nat.add_zero
abbrev DO:=@Nat.le_succ
abbrev DP:=@List.range_succ
abbrev DQ:=@List.getElem?_toArray
abbrev DR:=@Nat.testBit_or
abbrev DS:=@Nat.le_of_lt
abbrev DT:=@Nat.mul_assoc
abbrev DU:=@Classical.byContradiction
abbrev DV:=@decide_eq_true
abbrev DW:=@List.append_assoc
abbrev DX:=@List.getElem?_drop
abbrev DY:=@Nat.add_assoc
abbrev DZ:=@List.not_mem_nil
abbrev Ea:=@Below.heap_setCell
abbrev Eb:=@List.drop_eq_getElem_cons
abbrev Ec:=@Nat.mod_eq_of_lt
abbrev Ed:=@List.drop_zero
abbrev Ee:=@List.length_replicate
abbrev Ef:=@Nat.mul_comm
abbrev Eg:=@Nat.mul_le_mul_left
abbrev Eh:=@Nat.mul_one
abbrev Ei:=@Option.map_some
abbrev Ej:=@List.getElem?_take
abbrev Ek:=@Nat.lt_succ_self
abbrev El:=@of_decide_eq_true
abbrev Em:=@Nat.add_comm
abbrev En:=@Nat.lt_of_le_of_lt
abbrev Eo:=@List.any_eq_true
abbrev Ep:=@List.take_append_of_le_length
abbrev Er:=@BitVec.toNat_ofNat
abbrev Es:=@Nat.mul_le_mul_right
abbrev Et:=@List.foldl_append
instance:Coe World Nat:=⟨λw=>w.heap.size⟩
def LH{p:Prop}(h:p):Hid p:=Lib.hid h
end
section
variable{w' W:World}{A:Option Addr}{xs a l o:List Nat}{n c j g i B base e:Nat}{t:TypeId}{d f:List Int}{ss:List ByteArray}{α:Type}{cs:List Value}{r:Option Nat}{args:Array Value}{v:Value}{R:Value->Option (DataW Unit × List MemPlace)}{D:DataW Unit}
def Arr(w:World)(A:Option Addr)(xs:List Value):Prop :=
 0<xs.length->∃b a,A=some ⟨b,a,none⟩/\b<w.heap.size/\∀j,j<xs.length->w.cell? ⟨b,a+j,none⟩=xs[j]?
def Sl(w:World)(A:Option Addr)(n c:Nat)(xs:List Value):Prop :=
 xs.length=n/\n<=c/\c<=9223372036854775807/\Arr w A xs
def Arr.nil(w:World)(A:Option Addr):Arr w A []:=λh=>absurd h AE
def Arr.keep{w:World}{xs:List Value}(h:Arr w A xs)(l:w.heap.size<=w'.heap.size)(g:∀b a,b<w.heap.size->w'.cell? ⟨b,a,aN⟩=w.cell? ⟨b,a,aN⟩):Arr w' A xs:=λk=>by
 obtain⟨b,a,e,c,d⟩:=h k;exact⟨b,a,e,AA,λj f=>(g b _ c).trans (d j f)⟩
def Arr.below{w:World}{xs:List Value}(h:Arr w A xs)(a:Below w w w'):Arr w' A xs :=
 h.keep a.size λ_ _ b=>a.cell b
def Sl.below{w:World}{xs:List Value}(h:Sl w A n c xs)(a:Below w w w'):Sl w' A n c xs :=
 ⟨h.1,h.2.1,h.2.2.1,h.2.2.2.below a⟩
def Sl.nil(w:World)(A:Option Addr)(c:Nat)(h:c<=9223372036854775807):Sl w A 0 c []:=⟨rfl,AV _,h,Arr.nil _ _⟩
def nums(k:IntKind)(xs:List Nat):List Value:=xs.map λ(x:Nat)=>aI k ((x:Int))
def Vw(k:IntKind)(xs:List Nat):(nums k xs).length=(Q xs):=by simp[nums]
def Zq(k:IntKind)(w:World)(A:Option Addr)(n c:Nat)(xs:List Nat):Prop:=Sl w A n c (nums k xs)
def Zq.len{k:IntKind}{w:World}(h:Zq k w A n c xs):(Q xs)=n:=by
 have:=h.1;rwa [Vw] at this
def Zq.cap{k:IntKind}{w:World}(h:Zq k w A n c xs):n<=c/\c<=9223372036854775807:=⟨h.2.1,h.2.2.1⟩
def Zq.at_{k:IntKind}{w:World}(h:Zq k w A n c xs)(m:0<n):
 ∃b a,A=some ⟨b,a,aN⟩/\b<w.heap.size/\∀j,j<n->w.cell? ⟨b,a+j,aN⟩=some (aI k ((xs.getD j 0:Nat):Int)):=by
 have d:=h.len;obtain⟨b,a,e,f,g⟩:=h.2.2.2 (by rw[Vw,d];exact m);refine⟨b,a,e,f,λj l=>?_⟩;rw[g j (by rw[Vw,d];exact l)];simp only[nums,BB];rw[AL AA];simp[AL (show j<(Q xs) by omega)]
def Zq.below{k:IntKind}{w:World}(h:Zq k w A n c xs)(a:Below w w w'):Zq k w' A n c xs:=Sl.below h a
def Zq.nil(k:IntKind)(w:World)(A:Option Addr)(c:Nat)(h:c<=9223372036854775807):Zq k w A 0 c []:=Sl.nil w A c h
def Zq.get{k:IntKind}{w:World}(h:Zq k w A n c xs)(g:j<n):
 ∃b a x,A=some ⟨b,a,aN⟩/\b<w.heap.size/\Hid (xs[j]? = some x)/\w.cell? ⟨b,a+j,aN⟩=some (aI k ((x:Int))):=by
 obtain⟨b,a,e,d,f⟩:=h.at_ AA;have l:=h.len;exact⟨b,a,xs[j]' AA,e,d,LH (AL AA),by rw[f j g];simp[AL (show j<(Q xs) by omega)]⟩
def Zq.take{k:IntKind}{w:World}(h:Zq k w A n c xs)(m a:Nat)(s:m<=n)(f:m<=a)(g:a<=9223372036854775807):
 Zq k w A m a (xs.take m):=by
 have r:=h.len;refine⟨by simp[nums];omega,f,g,λp=>?_⟩;simp[nums] at p;obtain⟨b,q,e,d,l⟩:=h.2.2.2 (by rw[Vw];omega);refine⟨b,q,e,d,λj o=>?_⟩;simp[nums] at o;rw[l j (by rw[Vw];omega)];simp[nums,Ej];intro;omega
def Own(w:World)(g:Nat)(t:TypeId)(k:IntKind)(a:List Nat):Prop:=w.heap[g]? = some (aC (nums k a).toArray t (0,0))
def Own.lt{w:World}{k:IntKind}{c:List Nat}(h:Own w g t k c):g<w.heap.size:=by
 rcases BD g w with b | a
 ·exact b
 unfold Own at h;rw[CZ a] at h;cases h
def Own.cell{w:World}{k:IntKind}(h:Own w g t k a)(hi:i<(Q a)):
 ∃x,Hid (a[i]? = some x)/\w.cell? ⟨g,i,aN⟩=some (aI k (x:Int)):=by
 refine⟨a[i],LH (AL hi),?_⟩;unfold Own at h;simp[World.cell?,h,nums,AL hi]
def Own.frozen{w:World}{k:IntKind}(h:Own w g t k a)(i:Nat):w.frozen? ⟨g,i,aN⟩=false:=by
 unfold Own at h;simp[World.frozen?,h]
def Own.drewN{w:World}{k:IntKind}(h:Own w g t k a)(n:Nat):Own (w.drewN n) g t k a:=h
def Own.set_{w:World}{k:IntKind}(h:Own w g t k a)(i x:Nat):
 Own (w.setCell ⟨g,i,aN⟩ (aI k (x:Int))) g t k (a.set i x):=by
 unfold Own at h ⊢;simp[World.setCell,Array.getElem?_modify,h,nums,List.map_set]
def Own.nums{w:World}{k:IntKind}(h:Own w g t k a)(l:(Q a)=n)(b:n<=c)(d:c<=9223372036854775807):
 Zq k w (some ⟨g,0,aN⟩) n c a:=by
 refine⟨by rw[Vw];exact l,b,d,λ_=>⟨g,0,rfl,h.lt,λj f=>?_⟩⟩;unfold Own at h;rw[Vw] at f;simp[World.cell?,h,Go.Proofs.YtaagompdgiobeaaGreatDoor.nums]
def Own.new(w:World)(t:TypeId)(k:IntKind)(a:List Nat):Own (w.alloc (aC (Go.Proofs.YtaagompdgiobeaaGreatDoor.nums k a).toArray t)) w t k a:=heap_alloc_new w _
def Zq.drewN{k:IntKind}{w:World}(h:Zq k w A n c xs)(m:Nat):Zq k (w.drewN m) A n c xs:=h
def Zui(k:IntKind)(n:Nat):madeCells #[aI k 0] n=(nums k (List.replicate n 0)).toArray:=by
 apply Array.ext
 ·simp[madeCells,nums]
 intro j a b;simp[madeCells,nums,Nat.mod_one]
def Wm{P:Program}(t e:TypeId)(k:IntKind)(bytes:Nat)(g:P.underlying t=some (.slice e))(hi:(P.info? e).map (λi=>(i.zero,i.size,i.bytes))=some (some (aI k 0),1,bytes))(n:Nat)(l:bytes*n<=281474976710656)(m:n<=9223372036854775807)(w:World):
 (Instr.makeSlice t (aI aJ (n:Int)) (aI aJ (n:Int))).run P w = .ok (K (some ⟨w,0,aN⟩) n n) (w.alloc (aC (nums k (List.replicate n 0)).toArray e)):=by
 obtain⟨i,d,j,f,c⟩:=info_parts hi;have b:(i.bytes:Int)*(n:Int)<=281474976710656:=by
  rw[c];have h:((bytes*n:Nat):Int)<=281474976710656:=AA
  rwa [Int.natCast_mul] at h
 have a:=run_make (P:=P) w t e i (aI k 0) g d j .i64 .i64 n n AA AA b AA;simp only[DH] at a;rw[a,f,Eh];simp only[Value.cells,Zui]
def Fp{a w:World}(h:Below B a w)(n:Nat):Below B a (w.drewN n):=⟨h.os,h.tape,h.output,h.size,h.block⟩
def Uz(w w':World):Prop:=∃m,w'=w.drewN m
def Uz.refl(w:World):Uz w w:=⟨0,rfl⟩
def Uz.drewN{a w:World}(h:Uz a w)(n:Nat):Uz a (w.drewN n):=by
 obtain⟨m,rfl⟩:=h;exact⟨m+n,by rw[World.drewN_drewN]⟩
def Uz.below{w:World}(h:Uz w w')(B:Nat):Below B w w':=by
 obtain⟨m,rfl⟩:=h;exact Fp (AP _ _) m
def Uz.size{w w':World}(h:Uz w w'):w'.heap.size=w.heap.size:=by
 obtain⟨m,rfl⟩:=h;rfl
def Zq.same{k:IntKind}{w:World}(h:Zq k w A n c xs)(a:Uz w w'):Zq k w' A n c xs:=h.below (a.below _)
def X6{w wr:World}{xs:List Value}(a:Below base w wr)(d:wr.grownBy w' (K A n c).ownBlock)(g:wr.ownsRow base e 1 (K A n c) n xs)(b:base<=wr.heap.size):Below base w w' :=
 a.grown d b λk f=>(g.lt k f).1
def Mi(k:IntKind)(xs:List Nat)(x:Nat):nums k (xs++[x])=nums k xs++[aI k (x:Int)]:=by simp[nums]
def ints(k:IntKind)(a:List Int):List Value:=a.map (aI k)
def Y9(k:IntKind)(a:List Int):(ints k a).length=(Q a):=by simp[ints]
def Za(k:IntKind)(w:World)(A:Option Addr)(n c:Nat)(a:List Int):Prop:=Sl w A n c (ints k a)
def Za.len{k:IntKind}{w:World}{a:List Int}(h:Za k w A n c a):(Q a)=n:=by
 have:=h.1;rwa [Y9] at this
def Za.cap{k:IntKind}{w:World}{a:List Int}(h:Za k w A n c a):n<=c/\c<=9223372036854775807:=⟨h.2.1,h.2.2.1⟩
def Za.below{k:IntKind}{w:World}{a:List Int}(h:Za k w A n c a)(b:Below w w w'):Za k w' A n c a:=Sl.below h b
def Za.nil(k:IntKind)(w:World)(A:Option Addr)(c:Nat)(h:c<=9223372036854775807):Za k w A 0 c []:=Sl.nil w A c h
def Za.get{k:IntKind}{w:World}(h:Za k w A n c d)(l:j<n):
 ∃b a x,A=some ⟨b,a,aN⟩/\b<w.heap.size/\Hid (d[j]? = some x)/\w.cell? ⟨b,a+j,aN⟩=some (aI k x):=by
 have m:=h.len;obtain⟨b,a,e,f,g⟩:=h.2.2.2 (by rw[Y9];omega);refine⟨b,a,d[j]' AA,e,f,LH (AL AA),?_⟩;rw[g j (by rw[Y9];omega)];simp[ints,AL (show j<(Q d) by omega)]
def Za.part{k:IntKind}{w:World}{b d:Nat}(h:Za k w (some ⟨b,d,aN⟩) n c f)(i m a:Nat)(u:i+m<=n)(l:m<=a)(o:a<=9223372036854775807):
 Za k w (some ⟨b,d+i,aN⟩) m a ((f.drop i).take m):=by
 have t:=h.len;refine⟨by simp[ints];omega,l,o,λr=>?_⟩;simp[ints] at r;obtain⟨s,v,e,g,p⟩:=h.2.2.2 (by rw[Y9];omega);injection e with e;injection e with e1 e2;subst e1;subst e2;refine⟨b,d+i,rfl,g,λj q=>?_⟩;simp[ints] at q;rw[DY,p (i+j) (by rw[Y9];omega)];simp[ints,Ej,DX];intro;omega
def Za.take{k:IntKind}{w:World}(h:Za k w A n c d)(m a:Nat)(t:m<=n)(g:m<=a)(l:a<=9223372036854775807):
 Za k w A m a (d.take m):=by
 have s:=h.len;refine⟨by simp[ints];omega,g,l,λq=>?_⟩;simp[ints] at q;obtain⟨b,r,e,f,o⟩:=h.2.2.2 (by rw[Y9];omega);refine⟨b,r,e,f,λj p=>?_⟩;simp[ints] at p;rw[o j (by rw[Y9];omega)];simp[ints,Ej];intro;omega
def Tryz.infoInt:(prog.info? 3).map (λi=>(i.zero,i.size,i.bytes))=some (some (aI aJ 0),1,8):=AB
def Tryz.infoU32:(prog.info? 41).map (λi=>(i.zero,i.size,i.bytes))=some (some (aI .u32 0),1,4):=AB
def Js(w:World)(A:Option Addr)(n c:Nat)(ss:List ByteArray):Prop:=Sl w A n c (ss.map aS)
def Js.len{w:World}(h:Js w A n c ss):(Q ss)=n:=by have:=h.1;simpa using this
def Js.cap{w:World}(h:Js w A n c ss):n<=c/\c<=9223372036854775807:=⟨h.2.1,h.2.2.1⟩
def Js.get{w:World}(h:Js w A n c ss)(g:j<n):
 ∃b a s,A=some ⟨b,a,aN⟩/\b<w.heap.size/\Hid (ss[j]? = some s)/\w.cell? ⟨b,a+j,aN⟩=some (aS s):=by
 have k:=h.len;obtain⟨b,a,e,d,f⟩:=h.2.2.2 (by rw[BI];omega);refine⟨b,a,ss[j]' AA,e,d,LH (AL AA),?_⟩;rw[f j (by rw[BI];omega)];simp[AL (show j<(Q ss) by omega)]
structure Trm where
 name:ByteArray
 V:Int
 S:Int
structure Rul where
 L:Int
 rt:List Int
 P:Int
structure Gr where
 T:List Trm
 O:List ByteArray
 U:List Rul
 zt:Int
def N8(w:World)(A:Option Addr)(n c:Nat)(ts:List Trm):Prop :=
 ts.length=n/\n<=c/\c<=9223372036854775807/\(0<n->∃b a,A=some ⟨b,a,none⟩/\b<w.heap.size/\∀j t,ts[j]? = some t->
  w.cell? ⟨b,a+j*3,none⟩=some (aS t.name)/\w.cell? ⟨b,a+j*3+1,none⟩=some (aI aJ t.V)/\w.cell? ⟨b,a+j*3+2,none⟩=some (aI aJ t.S))
def Dv(w:World)(A:Option Addr)(n c:Nat)(d:List Rul):Prop :=
 d.length=n/\n<=c/\c<=9223372036854775807/\(0<n->∃b a,A=some ⟨b,a,none⟩/\b<w.heap.size/\∀j r,d[j]? = some r->
  ∃Ar cr,w.cell? ⟨b,a+j*3,none⟩=some (aI aJ r.L)/\w.cell? ⟨b,a+j*3+1,none⟩=some (K Ar r.rt.length cr)/\w.cell? ⟨b,a+j*3+2,none⟩=some (aI aJ r.P)/\Za .i64 w Ar r.rt.length cr r.rt)
def N8.len{w:World}{ts:List Trm}(h:N8 w A n c ts):(Q ts)=n:=h.1
def N8.cap{w:World}{ts:List Trm}(h:N8 w A n c ts):n<=c/\c<=9223372036854775807:=⟨h.2.1,h.2.2.1⟩
def N8.get{w:World}{ts:List Trm}(h:N8 w A n c ts)(o:j<n):
 ∃b a t,A=some ⟨b,a,aN⟩/\b<w.heap.size/\Hid (ts[j]? = some t)/\w.cell? ⟨b,a+j*3,aN⟩=some (aS t.name)/\w.cell? ⟨b,a+j*3+1,aN⟩=some (aI aJ t.V)/\w.cell? ⟨b,a+j*3+2,aN⟩=some (aI aJ t.S):=by
 obtain⟨b,a,e,m,l⟩:=h.2.2.2 AA;have p:=h.1;have d:ts[j]? = some (ts[j]' AA):=AL AA;obtain⟨f,g,k⟩:=l j _ d;exact⟨b,a,_,e,m,LH d,f,g,k⟩
def Dv.len{w:World}{a:List Rul}(h:Dv w A n c a):(Q a)=n:=h.1
def Dv.cap{w:World}{a:List Rul}(h:Dv w A n c a):n<=c/\c<=9223372036854775807:=⟨h.2.1,h.2.2.1⟩
def Dv.get{w:World}{d:List Rul}(h:Dv w A n c d)(q:j<n):
 ∃b a r Ar cr,A=some ⟨b,a,aN⟩/\b<w.heap.size/\Hid (d[j]? = some r)/\w.cell? ⟨b,a+j*3,aN⟩=some (aI aJ r.L)/\w.cell? ⟨b,a+j*3+1,aN⟩=some (K Ar (Q r.rt) cr)/\w.cell? ⟨b,a+j*3+2,aN⟩=some (aI aJ r.P)/\Za .i64 w Ar (Q r.rt) cr r.rt:=by
 obtain⟨b,a,e,p,o⟩:=h.2.2.2 AA;have s:=h.1;have f:d[j]? = some (d[j]' AA):=AL AA;obtain⟨Ar,cr,g,k,l,m⟩:=o j _ f;exact⟨b,a,_,Ar,cr,e,p,LH f,g,k,l,m⟩
def Zy(w:World)(o:Obj):Below w w (w.alloc o):=(AP _ _).alloc (AJ _) _
def Xf(c:Nat):Bool:=decide (97<=c/\c<=122) || decide (65<=c/\c<=90) || decide (c=95)
def Wa(c:Nat):Bool:=Xf c || decide (48<=c/\c<=57) || decide (c=46)
def letter_fact:∀c:Nat,c<256->Xf c=(decide (c=95) || (decide (97<=c ||| 32)&&decide (c ||| 32<=122))):=by decide +kernel
def Mt(c:Nat):Bool:=decide (32<=c/\c<=126/\c≠39/\c≠92)
def Q1(c:Nat):Bool:=decide (c=110\/c=116\/c=92\/c=39)
def bytesWorld_below(w:World)(e:TypeId)(s:ByteArray):Below w w (Lib.bytesWorld w e s):=by
 refine⟨rfl,rfl,rfl,?_,λk a=>Lib.bytesWorld_at_old w e s k a⟩;rw[Lib.bytesWorld_size];omega
def Xi(l:List Nat):Bool:=!(l.length==0)&&decide (l.length<=20)&&Xf (l.getD 0 0)&&l.all Wa
def Zsv(k:Nat)(h:k<(Q l))(hd:Wa (l.getD k 0)=false):Xi l=false:=by
 have:l.all Wa=false:=by
  rw[List.all_eq_false];refine⟨l[k],List.getElem_mem h,?_⟩;simpa [AL h] using hd
 simp[Xi,this]
def Zuu(b:(Q l)≠0)(d:(Q l)<=20)(f:Xf (l.getD 0 0)=true)(hd:∀j,j<(Q l)->Wa (l.getD j 0)=true):Xi l=true:=by
 have:l.all Wa=true:=by
  rw[BG];intro c g;obtain⟨j,a,rfl⟩:=List.getElem_of_mem g;simpa [AL a] using hd j a
 unfold Xi;rw[this,f];simp[b,d]
def litN(l:List Nat):Nat × Nat :=
 if l.length<2 then (0,4)
 else if Mt (l.getD 1 0) then (if l.length<=2 then (0,4) else if l.getD 2 0=39 then (3,0) else (0,3))
 else if l.getD 1 0≠92 then (0,3)
 else if l.length<3 then (0,4)
 else if !Q1 (l.getD 2 0) then (0,3)
 else if l.length<=3 then (0,4) else if l.getD 3 0=39 then (4,0) else (0,3)
def H5(l:List Nat):Bool :=
 (decide (l.length=3)&&decide (l.getD 0 0=39)&&decide (l.getD 2 0=39)&&Mt (l.getD 1 0)) ||
 (decide (l.length=4)&&decide (l.getD 0 0=39)&&decide (l.getD 3 0=39)&&decide (l.getD 1 0=92)&&Q1 (l.getD 2 0))
def plain92:Mt 92=false:=AC
def litB_lit(l:List Nat):H5 l=(decide (l.getD 0 0=39)&&(decide ((litN l).2=0)&&decide ((litN l).1=(Q l)))):=by
 unfold H5 litN;generalize l.getD 0 0=f;generalize d:l.getD 1 0=a;generalize l.getD 2 0=c;generalize l.getD 3 0=g;generalize (Q l)=n;by_cases b:a=92
 ·subst b;rw[plain92];cases Q1 c <;> grind
 cases Mt a <;> grind
def Y8{α:Type}(p:α->Bool)(l:List α):Int:=match l.findIdx? p with | some i=>(i:Int) | none=>-1
def Q4{p:α->Bool}{l:List α}{k:Nat}{x:α}(a:l[k]? = some x)(d:p x=true)(h:∀j,j<k->∀y,l[j]? = some y->p y=false):Y8 p l=(k:Int):=by
 have b:k<(Q l):=(AN.1 a).1;have:l.findIdx? p=some k:=by
  rw[List.findIdx?_eq_some_iff_getElem];refine⟨b,?_,λj c=>?_⟩
  ·have:l[k]=x:=by rw[AL b] at a;injection a
   rw[this];exact d
  have:=h j c l[j] (AL AA);simp[this]
 unfold Y8;rw[this]
def Jq{p:α->Bool}{l:List α}(h:∀(j:Nat) y,l[j]? = some y->p y=false):Y8 p l=-1:=by
 have:l.findIdx? p=aN:=by
  rw[List.findIdx?_eq_none_iff];intro x b;obtain⟨j,a⟩:=BQ b;exact h j x a
 unfold Y8;rw[this]
def U9(p:α->Bool)(l:List α):-1<=Y8 p l/\Y8 p l<(Q l):=by
 unfold Y8;split
 ·rename_i i h;have:=(List.findIdx?_eq_some_iff_getElem.1 h).1;omega
 omega
def Ac{p:α->Bool}{l:List α}(h:Y8 p l<0):∀(j:Nat) y,l[j]? = some y->p y=false:=by
 intro j y b;unfold Y8 at h;split at h
 ·omega
 rename_i a;rw[List.findIdx?_eq_none_iff] at a;exact a y (AM b)
def Fb{p:α->Bool}{l:List α}{k:Nat}(h:Y8 p l=(k:Int)):∃x,l[k]? = some x/\p x=true/\∀j,j<k->∀y,l[j]? = some y->p y=false:=by
 unfold Y8 at h;split at h
 ·rename_i i hi;have:i=k:=AA
  subst this;obtain⟨b,c,d⟩:=List.findIdx?_eq_some_iff_getElem.1 hi;refine⟨_,AL b,c,λj f y a=>?_⟩;have:=d j f;rw[AL AA] at a;injection a with a;subst a;simpa using this
 omega
def Cg{α:Type}(p:Nat->α->Bool)(l:List α):Bool:=(List.range l.length).all λj=>match l[j]? with | some y=>p j y | none=>true
def Kc{p:Nat->α->Bool}{l:List α}(h:∀(j:Nat) y,l[j]? = some y->p j y=true):Cg p l=true:=by
 unfold Cg;rw[BG];intro j _;cases a:l[j]? with
 | none=>rfl
 | some y=>exact h j y a
def Bj{p:Nat->α->Bool}{l:List α}(h:Cg p l=true){y:α}(a:l[j]? = some y):p j y=true:=by
 unfold Cg at h;rw[BG] at h;have:=h j (by rw[BP];exact (AN.1 a).1);rw[a] at this;exact this
def Lp{p:Nat->α->Bool}{l:List α}{y:α}(b:l[j]? = some y)(h:p j y=false):Cg p l=false:=by
 cases a:Cg p l
 ·rfl
 rw[Bj a b] at h;cases h
def Gr.has(G:Gr)(s:Int):Bool:=if 0<=s then decide (s<(G.T.length:Int)) else decide (-1-s<(G.O.length:Int))
def Gr.term(G:Gr)(s:ByteArray):Int:=Y8 (λt=>decide (t.name=s)) G.T
def Gr.non(G:Gr)(s:ByteArray):Int:=Y8 (λt=>decide (t=s)) G.O
def Qs(n:Int):List Trm->Int->Bool
 | [],way=>decide (way≠0)
 | t::ts,way=>if t.V=n then (if way≠0/\way≠t.S then false else Qs n ts t.S) else Qs n ts way
def J9(l:List Trm)(n:Int):Bool:=Qs n l 0
def Nc(l:List Trm)(t:Trm):Bool:=(List.range t.V.toNat).all λn=>J9 l ((n:Int)+1)
def Gr.symOK(G:Gr)(a:Int)(s:Int):Bool:=G.has s&&!(decide (0<=s)&&decide (a=-1))
def Gr.ruleOK(G:Gr)(r:Rul):Bool:=decide (r.rt.length<=6)&&decide (-1<=r.P/\r.P<(G.T.length:Int))&&r.rt.all (G.symOK r.P)
def Gr.leftsGo(G:Gr):List Rul->Int->Option Int
 | [],top=>some top
 | r::rs,top=>if 0<=r.L/\r.L<=top+1/\G.ruleOK r=true then G.leftsGo rs (max top r.L) else none
def Gr.leftsGo_snoc(G:Gr):∀(a:List Rul) (r:Rul) (top:Int),G.leftsGo (a++[r]) top=(G.leftsGo a top).bind λt=>if 0<=r.L/\r.L<=t+1/\G.ruleOK r=true then some (max t r.L) else aN
 | [],r,top=>by simp[Gr.leftsGo]
 | q::a,r,top=>by
   rw[DL,Gr.leftsGo,Gr.leftsGo];split
   ·exact Gr.leftsGo_snoc G a r _
   rfl
def Gr.leftsGo_none(G:Gr)(a d:List Rul)(top:Int)(h:G.leftsGo a top=aN):G.leftsGo (a++d) top=aN:=by
 induction a generalizing top with
 | nil=>simp[Gr.leftsGo] at h
 | cons r a c =>
   rw[DL,Gr.leftsGo];rw[Gr.leftsGo] at h;split
   ·rename_i b;rw[if_pos b] at h;exact c _ h
   rfl
def Gr.leftsGo_bd(G:Gr):∀(a:List Rul) (top t:Int),-1<=top->G.leftsGo a top=some t->top<=t/\t<=top+(Q a)
 | [],top,t,h0,h=>by simp[Gr.leftsGo] at h;subst h;simp
 | r::a,top,t,h0,h=>by
   rw[Gr.leftsGo] at h;split at h
   ·rename_i b;have:=Gr.leftsGo_bd G a _ t AA h;simp only[AY];omega
   cases h
def Vl(l:List Trm)(L:Int):Int:=l.foldl (λa t=>if t.V=L then t.S else a) 0
def Nx(l:List Trm)(t:Trm)(L:Int):Vl (l++[t]) L=if t.V=L then t.S else Vl l L:=by simp[Vl]
def Dt(l:List Trm)(L:Int):Bool:=l.any λt=>decide (t.V=L)
def Kf(l:List Trm)(t:Trm)(L:Int):Dt (l++[t]) L=(Dt l L || decide (t.V=L)):=by simp[Dt]
def Zzt(l:List Trm):Nat:=(List.range 25).countP λ(n:Nat)=>decide (1<=n)&&Dt l (n:Int)
def J7(l:List Trm):Int:=l.foldl (λa t=>if t.V=0 then a else max a t.V) 0
def Dz(l:List Trm)(t:Trm):J7 (l++[t])=if t.V=0 then J7 l else max (J7 l) t.V:=by simp[J7]
def Fo(l:List Trm)(k:Nat)(t:Trm):Bool:=decide (t.V=0) || decide (Vl (l.take k) t.V=0) || decide (Vl (l.take k) t.V=t.S)
def consOK(l:List Trm):Bool:=Cg (Fo l) l
def Jh(l:List Trm):Bool:=consOK l&&decide ((Zzt l:Int)=J7 l)
def cntL_zero(l:List Trm)(t:Trm)(h:t.V=0):Zzt (l++[t])=Zzt l:=by
 unfold Zzt;congr 1;funext n;rw[Kf,h];by_cases a:1<=n
 ·have:decide ((0:Int)=(n:Int))=false:=AG
  rw[this];simp
 have:decide (1<=n)=false:=AG
 rw[this];simp
def topL_spec(l:List Trm)(j:∀t∈l,0<=t.V):(∀t∈l,t.V<=J7 l)/\0<=J7 l/\(J7 l=0\/∃t∈l,t.V=J7 l):=by
 have key:∀n (p:List Trm),p=l.take n->(∀t∈p,t.V<=J7 p)/\0<=J7 p/\(J7 p=0\/∃t∈p,t.V=J7 p):=by
  intro n
  induction n with
  | zero=>intro p c;rw[c];simp[J7]
  | succ n g =>
    intro p c;rw[c,Du];cases k:l[n]? with
    | none=>simpa using g _ rfl
    | some t =>
      obtain⟨f,m,b⟩:=g _ rfl;have q:=j t (AM k);simp only[Option.toList_some];rw[Dz];by_cases h:t.V=0
      ·rw[if_pos h];refine⟨λu a=>?_,m,?_⟩
       ·rw[DB,BO] at a;rcases a with a | rfl
        ·exact f u a
        omega
       rcases b with b | ⟨u,a,d⟩
       ·exact .inl b
       exact .inr ⟨u,List.mem_append_left _ a,d⟩
      rw[if_neg h];refine⟨λu a=>?_,AA,?_⟩
      ·rw[DB,BO] at a;rcases a with a | rfl
       ·have:=f u a;omega
       omega
      right;by_cases o:J7 (l.take n)<=t.V
      ·exact⟨t,AE,AA⟩
      rcases b with b | ⟨u,a,d⟩
      ·omega
      exact⟨u,List.mem_append_left _ a,AA⟩
 have:=key (Q l) l (by rw[AQ (AJ _)]);exact this
def Zvl(l:List Trm)(L:Int)(b:∀t∈l,t.V=L->t.S≠0):Vl l L≠0↔Dt l L=true:=by
 have key:∀n,(Vl (l.take n) L≠0↔Dt (l.take n) L=true):=by
  intro n
  induction n with
  | zero=>simp[Vl,Dt]
  | succ n a =>
    rw[Du];cases c:l[n]? with
    | none=>simpa using a
    | some t =>
      simp only[Option.toList_some];rw[Nx,Kf];by_cases h:t.V=L
      ·rw[if_pos h];simp[h,b t (AM c) h]
      rw[if_neg h];simp only[h,decide_false,Bool.or_false];exact a
 have:=key (Q l);rwa [AQ (AJ _)] at this
def Ls(n:Int):∀(l p:List Trm),Qs n l (Vl p n)=true ↔
 (∀(k:Nat) t,l[k]? = some t->t.V=n->Vl (p++l.take k) n=0\/Vl (p++l.take k) n=t.S)/\Vl (p++l) n≠0
 | [],p=>by simp[Qs]
 | t::l,p=>by
   rw[Qs];by_cases h:t.V=n
   ·rw[if_pos h];have e:Vl (p++[t]) n=t.S:=by rw[Nx,if_pos h]
    by_cases g:Vl p n≠0/\Vl p n≠t.S
    ·rw[if_pos g];constructor
     ·intro h;cases h
     rintro⟨b,_⟩;have:=b 0 t rfl h;simp only[List.take_zero,DJ] at this;rcases this with f | f
     ·exact absurd f g.1
     exact absurd f g.2
    rw[if_neg g,<-e,Ls n l (p++[t])];simp only[DW,DL,DA];constructor
    ·rintro⟨b,d⟩;refine⟨λk u a c=>?_,d⟩;cases k with
     | zero =>
       simp only[List.getElem?_cons_zero,BT] at a;subst a;simp only[List.take_zero,DJ];by_cases j:Vl p n=0
       ·exact .inl j
       ·right;by_cases f:Vl p n=t.S
        ·exact f
        ·exact absurd ⟨j,f⟩ g
     | succ k =>
       rw[List.getElem?_cons_succ] at a;exact b k u a c
    rintro⟨b,d⟩;exact⟨λk u a c=>b (k+1) u (by rw[List.getElem?_cons_succ];exact a) c,d⟩
   rw[if_neg h];have e:Vl (p++[t]) n=Vl p n:=by rw[Nx,if_neg h]
   rw[<-e,Ls n l (p++[t])];simp only[DW,DL,DA];constructor
   ·rintro⟨b,d⟩;refine⟨λk u a c=>?_,d⟩;cases k with
    | zero =>
      simp only[List.getElem?_cons_zero,BT] at a;subst a;exact absurd c h
    | succ k =>
      rw[List.getElem?_cons_succ] at a;exact b k u a c
   rintro⟨b,d⟩;exact⟨λk u a c=>b (k+1) u (by rw[List.getElem?_cons_succ];exact a) c,d⟩
def Gf(l:List Trm)(n:Int):J9 l n=true↔(∀(k:Nat) t,l[k]? = some t->t.V=n->Vl (l.take k) n=0\/Vl (l.take k) n=t.S)/\Vl l n≠0:=by
 have:=Ls n l [];simpa [Vl,J9] using this
def Gr.lefts_all(G:Gr):∀(a:List Rul) (top t:Int),G.leftsGo a top=some t->top<=t/\∀r∈a,0<=r.L/\r.L<=t/\G.ruleOK r=true
 | [],top,t,h=>by simp[Gr.leftsGo] at h;subst h;simp
 | q::a,top,t,h=>by
   rw[Gr.leftsGo] at h;split at h
   ·rename_i c;obtain⟨f,d⟩:=Gr.lefts_all G a _ t h;refine⟨AA,λr b=>?_⟩;rcases BY.1 b with rfl | b
    ·exact⟨c.1,AA,c.2.2⟩
    exact d r b
   cases h
def Qa(p:Rul->List Bool->Bool)(r:Rul)(N:List Bool):List Bool:=if p r N then N.set r.L.toNat true else N
def Xs(p:Rul->List Bool->Bool)(a:List Rul)(N:List Bool):List Bool:=a.foldl (λN r=>Qa p r N) N
def passN_snoc(p:Rul->List Bool->Bool)(a:List Rul)(r:Rul)(N:List Bool):Xs p (a++[r]) N=Qa p r (Xs p a N):=by simp[Xs]
def Fl(w:World)(g:Nat)(left:Int)(Ar:Option Addr)(a cr:Nat)(b:Int):Prop :=
 g<w.heap.size/\w.cell? ⟨g,0,none⟩=some (aI aJ left)/\w.cell? ⟨g,1,none⟩=some (K Ar a cr)/\w.cell? ⟨g,2,none⟩=some (aI aJ b)
def Zyw{α:Type}(g:FuncId)(a:Array Value)(enc:α->Value)(w:World)(xs:List α)(p:α->Bool):Prop :=
 ∀s∈xs,∀w',Below w.heap.size w w'->Calls Tryz.prog g (#[enc s]++a) w' λe b=>e = aR (aB (p s))/\Below w'.heap.size w' b
def Zvt(p:α->Bool)(l:List α):decide (0<=Y8 p l)=l.any p:=by
 rw[Cc,BA,Eo];constructor
 ·intro h;obtain⟨k,d⟩:∃k:Nat,Y8 p l=(k:Int):=⟨(Y8 p l).toNat,AA⟩;obtain⟨x,b,a,_⟩:=Fb d;exact⟨x,AM b,a⟩
 rintro⟨x,b,a⟩;have f:=(U9 p l).1;by_cases h:Y8 p l<0
 ·obtain⟨j,c⟩:=BQ b;rw[Ac h j x c] at a;cases a
 omega
def Ya{l:List α}{k:Nat}{x:α}(h:l[k]? = some x):l.take (k+1)=l.take k++[x]:=by rw[Du,h];rfl
def Zq.part{k:IntKind}{w:World}{b d:Nat}(h:Zq k w (some ⟨b,d,aN⟩) n c xs)(i m a:Nat)(t:i+m<=n)(g:m<=a)(l:a<=9223372036854775807):
 Zq k w (some ⟨b,d+i,aN⟩) m a ((xs.drop i).take m):=by
 have s:=h.len;refine⟨by simp[nums];omega,g,l,λq=>?_⟩;simp[nums] at q;obtain⟨r,u,e,f,o⟩:=h.2.2.2 (by rw[Vw];omega);injection e with e;injection e with e1 e2;subst e1;subst e2;refine⟨b,d+i,rfl,f,λj p=>?_⟩;simp[nums] at p;rw[DY,o (i+j) (by rw[Vw];omega)];simp[nums,Ej,DX];intro;omega
def Kk(xs:List Nat)(i:Nat):Nat:=i+1+((xs.drop (i+1)).takeWhile Wa).length
abbrev Tk:=Int × ByteArray
def Qy:List Tk->Int
 | []=>0
 | t::_=>t.1
def Zzj(G:Gr)(s:ByteArray):Option (Int × Gr) :=
 if 0<=G.term s then some (G.term s,G)
 else if G.T.length=24 then none
 else some ((G.T.length:Int),{ G with T:=G.T++[⟨s,0,0⟩] })
def Dp(cs:List Value)(ts:List Tk):Prop:=cs.length=ts.length*3/\∀(j:Nat) (t:Tk),ts[j]? = some t->cs[j*3+0]? = some (aI aJ t.1)/\cs[j*3+1]? = some (aS t.2)/\∃x y,cs[j*3+2]? = some (.complex .f64 x y)
def Dp.nil:Dp [] []:=⟨rfl,λj t h=>by simp at h⟩
def Kq(w:World)(B:Nat)(A:Option Addr)(n c:Nat)(ts:List Tk):Prop :=
 ts.length=n/\n<=c/\c<=9223372036854775807/\(0<n->∃b a,A=some ⟨b,a,none⟩/\b<B/\b<w.heap.size/\∀(j:Nat) (t:Tk),ts[j]? = some t->
  w.cell? ⟨b,a+j*3,none⟩=some (aI aJ t.1)/\w.cell? ⟨b,a+j*3+1,none⟩=some (aS t.2)/\∃x y,w.cell? ⟨b,a+j*3+2,none⟩=some (.complex .f64 x y))
def Kq.keep{w:World}{ts:List Tk}(h:Kq w B A n c ts)(q:w.heap.size<=w'.heap.size)(g:∀k,k<B->k<w.heap.size->w'.heap[k]? = w.heap[k]?):Kq w' B A n c ts:=by
 refine⟨h.1,h.2.1,h.2.2.1,λo=>?_⟩;obtain⟨b,f,e,d,l,m⟩:=h.2.2.2 o;refine⟨b,f,e,d,AA,λj t p=>?_⟩;rw[DG (a:=⟨b,f+j*3,aN⟩) (g b d l),DG (a:=⟨b,f+j*3+1,aN⟩) (g b d l),DG (a:=⟨b,f+j*3+2,aN⟩) (g b d l)];exact m j t p
def Kq.wide{w:World}{a:Nat}{ts:List Tk}(h:Kq w B A n c ts)(l:w.heap.size<=a):Kq w a A n c ts:=by
 refine⟨h.1,h.2.1,h.2.2.1,λg=>?_⟩;obtain⟨b,j,e,k,f,d⟩:=h.2.2.2 g;exact⟨b,j,e,AA,f,d⟩
def Kq.head{w:World}{t:Tk}{ts:List Tk}(h:Kq w B A n c (t::ts)):
 ∃b a x y,A=some ⟨b,a,aN⟩/\b<B/\b<w.heap.size/\w.cell? ⟨b,a,aN⟩=some (aI aJ t.1)/\w.cell? ⟨b,a+1,aN⟩=some (aS t.2)/\w.cell? ⟨b,a+2,aN⟩=some (.complex .f64 x y):=by
 have l:=h.1;simp only[AY] at l;obtain⟨b,a,e,j,m,k⟩:=h.2.2.2 AA;obtain⟨d,f,x,y,g⟩:=k 0 t rfl;simp only[Nat.zero_mul,DN] at d f g;exact⟨b,a,x,y,e,j,m,d,f,g⟩
def Kq.tail{w:World}{b a:Nat}{t:Tk}{ts:List Tk}(h:Kq w B (some ⟨b,a,aN⟩) n c (t::ts)):
 Kq w B (if c=1 then some ⟨b,a,aN⟩ else some ⟨b,a+3,aN⟩) (n-1) (c-1) ts:=by
 have g:=h.1;have o:=h.2.1;have p:=h.2.2.1;simp only[AY] at g;refine⟨AA,AA,AA,λq=>?_⟩;obtain⟨m,r,e,d,k,f⟩:=h.2.2.2 AA;injection e with e;injection e with e1 e2;subst e1;subst e2;refine⟨b,a+3,by rw[if_neg AA],d,k,λj u l=>?_⟩;have:=f (j+1) u (by simpa using l);rw[show a+(j+1)*3=a+3+j*3 by omega] at this;exact this
def own_toks{w:World}{ts:List Tk}(h:w.ownsRow base e 3 (K A n c) n cs)(m:Dp cs ts):Kq w w A n c ts:=by
 have k:(Q ts)=n:=by have:=h.1;have:=m.1;omega
 rcases h.2 with ⟨l,rfl⟩ | ⟨g,cap,u,l,v,o,s,q,z,D⟩
 ·injection l with a f h3;subst a;subst h3;exact⟨k,AJ _,AA,λd=>absurd d AA⟩
 injection l with a f h3;subst a;subst h3;have b:g<w.heap.size:=by
  rcases BD g w with b | r
  ·exact b
  rw[CZ r] at o;cases o
 refine⟨k,s,by simpa [maxLen] using q,λC=>⟨g,0,rfl,b,b,λj t p=>?_⟩⟩;have B:j<n:=by rw[<-k];exact (AN.1 p).1
 obtain⟨d,a,x,y,f⟩:=m.2 j t p;refine⟨?_,?_,x,y,?_⟩
 ·rw[BF,h.cellAt (j*3) AA];exact d
 ·rw[BF,h.cellAt (j*3+1) AA];exact a
 rw[BF,h.cellAt (j*3+2) AA];exact f
def Rfs(w:World)(A:Option Addr)(n c:Nat)(ss:List ByteArray):Prop :=
 ss.length=n/\n<=c/\c<=9223372036854775807/\(0<n->∃b a,A=some ⟨b,a,none⟩/\b<w.heap.size/\∀(j:Nat) (s:ByteArray),ss[j]? = some s->
  w.cell? ⟨b,a+j*2,none⟩=some (aS s)/\∃x y,w.cell? ⟨b,a+j*2+1,none⟩=some (.complex .f64 x y))
def Rfs.keep{w:World}(h:Rfs w A n c ss)(o:w.heap.size<=w'.heap.size)(f:∀b d,A=some ⟨b,d,aN⟩->b<w.heap.size->w'.heap[b]? = w.heap[b]?):Rfs w' A n c ss:=by
 refine⟨h.1,h.2.1,h.2.2.1,λl=>?_⟩;obtain⟨b,d,e,g,k⟩:=h.2.2.2 l;refine⟨b,d,e,AA,λj t m=>?_⟩;rw[DG (a:=⟨b,d+j*2,aN⟩) (f b d e g),DG (a:=⟨b,d+j*2+1,aN⟩) (f b d e g)];exact k j t m
def Wv{w:World}{size:Nat}{xs:List Value}(h:w.ownsRow base e size (K A n c) n xs)(m:∀b,(K A n c).ownBlock=some b->b<w.heap.size->w'.heap[b]? = w.heap[b]?):w'.ownsRow base e size (K A n c) n xs:=by
 refine⟨h.1,?_⟩;rcases h.2 with o | ⟨g,cap,j,f,k,a,rest⟩
 ·exact .inl o
 refine .inr ⟨g,cap,j,f,k,?_,rest⟩;have d:g<w.heap.size:=by
  rcases BD g w with d | l
  ·exact d
  rw[CZ l] at a;cases a
 rw[m g (by rw[f];rfl) d];exact a
def V8(ts:List Trm):List Value:=ts.flatMap λt=>[aS t.name,aI aJ t.V,aI aJ t.S]
def trmCs_snoc(ts:List Trm)(t:Trm):V8 (ts++[t])=V8 ts++[aS t.name,aI aJ t.V,aI aJ t.S]:=by simp[V8]
def Ff(ts:List Trm):(V8 ts).length=(Q ts)*3:=by
 induction ts with
 | nil=>rfl
 | cons t ts a=>rw[show V8 (t::ts)=[aS t.name,aI aJ t.V,aI aJ t.S]++V8 ts from rfl,AU,a];simp;omega
def ints_keep{k:IntKind}{w:World}(h:Za k w A n c f)(q:w.heap.size<=w'.heap.size)(o:∀b d,A=some ⟨b,d,aN⟩->b<w.heap.size->w'.heap[b]? = w.heap[b]?):Za k w' A n c f:=by
 refine⟨h.1,h.2.1,h.2.2.1,λp=>?_⟩;obtain⟨b,d,e,g,l⟩:=h.2.2.2 p;refine⟨b,d,e,AA,λj m=>?_⟩;rw[DG (a:=⟨b,d+j,aN⟩) (o b d e g)];exact l j m
def isP(a b:Int):List Tk->Bool
 | []=>false
 | t::_=>decide (t.1=a) || decide (t.1=b)
def M5{w:World}{size:Nat}{xs:List Value}(h:w.ownsRow base e size (K A n c) n xs)(a:Below w w w'):w'.ownsRow base e size (K A n c) n xs:=Wv h λb _ d=>a.block b d
def Lf{ts:List Tk}{k:Int}(h:Qy ts=k)(b:k≠0):∃u a,ts=u::a/\u.1=k:=by
 cases ts with
 | nil=>exact absurd h.symm b
 | cons u a=>exact⟨u,a,rfl,h⟩
def toI(o:List Nat)(i:Nat):Int:=Y8 (λx=>decide (x=i)) o
def Fw(h:i∉o):toI o i=-1:=by
 unfold toI;refine Jq λj y a=>?_;rw[AZ];rintro rfl;exact h (AM a)
def Bx:toI o i<0↔i∉o:=by
 constructor
 ·intro h hi;obtain⟨k,a⟩:=BQ hi;have:=Ac (p:=λx=>decide (x=i)) h k i a;simp at this
 intro h;rw[Fw h];decide
def Df(o:List Nat)(i:Nat):-1<=toI o i/\toI o i<(Q o):=U9 _ o
def Zx2(o:List Nat)(l:j≠i):toI (o++[i]) j=toI o j:=by
 by_cases a:j∈o
 ·unfold toI;obtain⟨k,b⟩:∃k:Nat,Y8 (λx=>decide (x=j)) o=(k:Int):=by
   have h1:=Df o j;have f:¬toI o j<0:=λh=>Bx.1 h a;unfold toI at h1 f;exact⟨(Y8 (λx=>decide (x=j)) o).toNat,AA⟩
  obtain⟨x,c,n,g⟩:=Fb b;rw[b];have m:=(AN.1 c).1;refine Q4 (x:=x) (by rw[DF m];exact c) n λq p y d=>?_;rw[DF AA] at d;exact g q p y d
 rw[Fw a,Fw];rw[DB,BO];rintro (h | h)
 ·exact a h
 exact l h
def Ws(G:Gr)(i:Nat):ByteArray:=(G.O[i]?).getD ByteArray.empty
structure Off (S:Nat->Prop) (w w':World):Prop where
 os:w'.os=w.os
 tape:w'.tape=w.tape
 output:w'.output=w.output
 size:w.heap.size<=w'.heap.size
 keep:∀k,k<w.heap.size->¬S k->w'.heap[k]? = w.heap[k]?
def Off.of_grown{w:World}(h:w.grownBy w' r):Off (λk=>r=some k) w w':=⟨h.os,h.tape,h.output,h.size,λk a b=>h.block k a λe=>b e.symm⟩
def Off.of_set(w:World)(g i:Nat)(v:Value):Off (λk=>k=g) w (w.setCell ⟨g,i,aN⟩ v):=⟨rfl,rfl,rfl,AE,λk _ a=>Ea w ⟨g,i,aN⟩ v k a⟩
def toL(n:Nat)(o:List Nat):List Int:=(List.range n).map λi=>toI o i
def Cd(n:Nat)(o:List Nat):(toL n o).length=n:=by simp[toL]
def Ji(hi:i<n):(toL n o)[i]? = some (toI o i):=by simp[toL,hi]
def Zsp(h:i∉o):toI (o++[i]) i=((Q o):Int):=by
 unfold toI;refine Q4 (x:=i) AE AE λj b y a=>?_;rw[DF b] at a;rw[AZ];rintro rfl;exact h (AM a)
def toL_nil(n:Nat):toL n []=List.replicate n (-1):=by
 refine List.ext_getElem? λj=>?_;rw[List.getElem?_replicate];by_cases a:j<n
 ·rw[Ji a,if_pos a,Fw AE]
 rw[BE (by rw[Cd];omega),if_neg a]
def Zuz(ts:List Trm):∀u∈V8 ts,u.oneCell'=true:=by
 intro u a;unfold V8 at a;rw[List.mem_flatMap] at a;obtain⟨t,_,b⟩:=a;simp only[BY,DZ,or_false] at b;rcases b with rfl | rfl | rfl <;> rfl
open Classical in
noncomputable def eqG(A B:Gr):Bool:=decide (A=B)
def Ztp{A B:Gr}:eqG A B=true↔A=B:=by unfold eqG;simp
def eqG_no{A B:Gr}(h:A≠B):eqG A B=false:=by
 cases a:eqG A B
 ·rfl
 exact absurd (Ztp.1 a) h
def H7{G:Gr}{s:Int}(h:G.has s=true):-((Q G.O):Int)<=s/\s<((Q G.T):Int)\/(0<=s/\s<((Q G.T):Int))\/(s<0/\-((Q G.O):Int)<=s):=by
 unfold Gr.has at h;split at h
 ·rename_i h0;exact .inr (.inl ⟨h0,El h⟩)
 have:=El h;exact .inr (.inr ⟨AA,AA⟩)
def g0:Gr:=⟨[],[],[],0⟩
def Xt:Gr:=⟨[⟨⟨#[39,97,39]⟩,0,0⟩],[⟨#[115]⟩],[⟨0,[-1,-1],-1⟩,⟨0,[0],0⟩],0⟩
def Bs(j:Nat)(h:j<Lib.len8tab.size):(Lib.len8tab[j]'h).toNat=Lib.bitLen j:=by
 have a:j<256:=by rw[<-Lib.len8tab_size];exact h
 have:=Lib.len8_of (j:Int) AA AA;unfold Lib.len8 at this;simp only[DH] at this;rw[getElem?_pos Lib.len8tab j h,Option.getD_some] at this;omega
def Zrz(k:IntKind)(xs:List Nat)(j:Nat)(u:Value)(h:(nums k xs)[j]? = some u):∃x,xs[j]? = some x/\u = aI k (x:Int):=by
 simp only[nums,BB,Option.map_eq_some_iff] at h;obtain⟨x,a,rfl⟩:=h;exact⟨x,a,rfl⟩
def Zq2(k:IntKind)(xs:List Nat):∀u∈nums k xs,u.oneCell'=true:=by
 intro u a;simp only[nums,CX] at a;obtain⟨x,_,rfl⟩:=a;rfl
def RetOwn(w:World)(a:List Nat)(e:Ending)(w':World):Prop :=
 ∃A c,e = aR (K A a.length c)/\w'.ownsRow w.heap.size 41 1 (K A a.length c) a.length (nums .u32 a)/\Below w.heap.size w w'
def Zq.sl{k:IntKind}{w:World}(h:Zq k w A n c xs):Sl w A n c (nums k xs):=h
@[irreducible] def RetNew (w:World) (a:List Nat) (e:Ending) (w':World):Prop :=
  ∃A c,e = aR (K A a.length c)/\Zq .u32 w' A a.length c a/\Below w.heap.size w w'/\(∀b d,A=some ⟨b,d,none⟩->w.heap.size<=b)
@[irreducible] def RetQuo (w:World) (p:List Nat × List Nat × Nat) (e:Ending) (w':World):Prop :=
  ∃A c a b,e = aR (.tuple #[K A p.1.length c,K a p.2.1.length b,aI aJ (p.2.2:Int)])/\Zq .u32 w' A p.1.length c p.1/\Zq .u32 w' a p.2.1.length b p.2.1/\Below w.heap.size w w'
@[irreducible] def RetDraw (w:World) (p:List Nat × Nat × Nat) (e:Ending) (w':World):Prop :=
  ∃A c,e = aR (.tuple #[K A p.1.length c,aI aJ (p.2.1:Int),aI aJ (p.2.2:Int)])/\Zq .u32 w' A p.1.length c p.1/\Below w.heap.size w w'
section
variable {P:Program} {w:World}
def Yl{xs:List Value}(h:w.ownsRow base e 1 (K A n c) n xs):Sl w A n c xs:=by
 have d:(Q xs)=n:=by simpa using h.1
 rcases h.2 with ⟨a,rfl⟩ | ⟨g,cap,o,a,p,b,m,f,q,t⟩
 ·simp at a;obtain⟨rfl,rfl⟩:=a;obtain rfl:=BH d;exact Sl.nil _ _ _ AE
 injection a with h1 h2 h3;subst h1;subst h3;refine⟨d,m,by simpa [maxLen] using f,λs=>⟨g,0,rfl,?_,λj r=>?_⟩⟩
 ·rcases BD g w with l | k
  ·exact l
  rw[CZ k] at b;cases b
 have:=h.cellAt (e:=e) (size:=1) j AA;simpa using this
def Gh{xs:List Value}(h:w.ownsRow base e 1 (K A n c) n xs)(o:j<n):
 ∃g u,A=some ⟨g,0,aN⟩/\base<=g/\g<w.heap.size/\Hid (xs[j]? = some u)/\w.cell? ⟨g,j,aN⟩=some u/\w.frozen? ⟨g,j,aN⟩=false:=by
 have p:(Q xs)=n:=by simpa using h.1
 rcases h.2 with ⟨b,rfl⟩ | ⟨g,cap,m,b,f,a,_⟩
 ·omega
 injection b with h1 h2 h3;subst h1;subst h3;have d:xs[j]? = some (xs[j]' AA):=AL AA;refine⟨g,xs[j]' AA,rfl,f,?_,LH d,?_,h.frozenAt j⟩
 ·rcases BD g w with l | k
  ·exact l
  rw[CZ k] at a;cases a
 rw[h.cellAt j AA,d]
def B7{xs:List Value}(h:w.ownsRow base e 1 (K A n c) n xs)(f:Below w w w'):
 w'.ownsRow base e 1 (K A n c) n xs:=by
 refine⟨h.1,?_⟩;rcases h.2 with l | ⟨g,cap,d,m,j,a,rest⟩
 ·exact .inl l
 refine .inr ⟨g,cap,d,m,j,?_,rest⟩;have b:g<w.heap.size:=by
  rcases BD g w with b | k
  ·exact b
  rw[CZ k] at a;cases a
 exact (f.block g b).trans a
def Zt0(w:World)(e:TypeId)(n:Nat)(xs:List Value)(a:(Q xs)=n)(b:n<=9223372036854775807):
 (w.alloc (aC xs.toArray e)).ownsRow w e 1 (K (some ⟨w,0,aN⟩) n n) n xs:=by
 have:=World.ownsRow_lit (base:=w.heap.size) (e:=e) (size:=1) w xs.toArray n (AJ _) (by simpa [maxLen] using b) (by simp[a]);simpa using this
end
def N6(w:World)(t:TypeId)(a:List Value)(n:Nat)(arr:Array Value)(h:arr=a.toArray)(b:(Q a)=n)(c:n<=1000000):Sl (w.alloc (aC arr t)) (some ⟨w,0,aN⟩) n n a:=by
 subst h;have:=World.ownsRow_lit (base:=w.heap.size) (e:=t) (size:=1) w a.toArray n (AJ _) (by simp[maxLen];omega) (by simp[b]);simpa using Yl this
section
open Go.ChangeShapes Go.WideShapes Go.ChangeAt Go.RowKit
open Ieee
def Zh(s:ByteArray):List Nat:=s.data.toList.map UInt8.toNat
def Qh(s:ByteArray):(Zh s).length=s.size:=by simp[Zh]
def J0(s:ByteArray)(k:Nat)(h:k<s.size):(Zh s)[k]? = some s[k].toNat:=by
 simp only[Zh,BB];rw[AL (by simpa using h)];rfl
def bytesOf_lt(s:ByteArray):∀c∈Zh s,c<256:=by
 intro c a;simp only[Zh,CX] at a;obtain⟨b,_,rfl⟩:=a;exact b.toNat_lt
def Zz8(s:ByteArray)(h:0<s.size):s.toList.isEmpty=false/\¬s.toList=[]:=by
 have e:=ByteArray.toList_eq s;have a:(Q s.data.toList)=s.size:=AE
 constructor
 ·rw[e,List.isEmpty_eq_false_iff];intro b;rw[b] at a;simp at a;omega
 rw[e];intro b;rw[b] at a;simp at a;omega
def Cp(s:ByteArray)(h:s.size=0):s.toList=[]:=by
 have e:=ByteArray.toList_eq s;have a:(Q s.data.toList)=s.size:=AE
 rw[e];exact BH AA
end
def bytesWorld_nums(w:World)(e:TypeId)(s:ByteArray)(d:s.size<=maxLen):
 Zq .u8 (Lib.bytesWorld w e s) (some ⟨w,0,aN⟩) s.size (grownCap w s.size 0 e) (Zh s):=by
 refine⟨by simp[nums,Qh],grownCap_ge w _ _ _,by simpa [maxLen] using grownCap_le_maxLen w s.size 0 e d,λ_=>⟨_,_,rfl,by rw[Lib.bytesWorld_size];omega,λj c=>?_⟩⟩;have a:j<s.size:=by simpa [nums,Qh] using c
 rw[BF,Lib.bytesWorld_cell w e s j a];have b:=J0 s j a;simp only[nums,BB,b,Ei];congr 2;rw[AO,AL (by simpa using a)];rfl
def Q7(s:ByteArray):Bool:=Xi (Zh s) || H5 (Zh s)
def Up(t:Trm):Bool:=Q7 t.name&&decide (0<=t.V/\t.V<=24)&&decide (0<=t.S/\t.S<=3)&&(decide (t.V=0)==decide (t.S=0))
def Gr.termOK(G:Gr)(i:Nat)(t:Trm):Bool:=decide (G.term t.name=(i:Int))&&Up t&&Nc G.T t
def Gr.termsOK(G:Gr):Bool:=decide (G.T.length<=24)&&Cg G.termOK G.T
def Gr.nonOK(G:Gr)(i:Nat)(s:ByteArray):Bool:=Xi (Zh s)&&decide (G.non s=(i:Int))&&decide (G.term s<0)
def Gr.nonsOK(G:Gr):Bool:=decide (1<=G.O.length/\G.O.length<=16)&&Cg G.nonOK G.O
def Gr.rt(G:Gr):Bool :=
 G.termsOK&&G.nonsOK&&decide (1<=G.U.length/\G.U.length<=40)&&decide (0<=G.zt/\G.zt<(G.O.length:Int))&&decide (G.leftsGo G.U (-1)=some ((G.O.length:Int)-1))
def Gr.great(G:Gr):Bool:=decide (40<G.T.length) || decide (40<G.O.length) || decide (60<G.U.length) || G.U.any λr=>decide (20<r.rt.length)
def Kp{t:Trm}(h:Up t=true):Q7 t.name=true/\0<=t.V/\t.V<=24/\0<=t.S/\t.S<=3/\(t.V=0↔t.S=0):=by
 simp[Up] at h;obtain⟨⟨⟨a,b,c⟩,d,f⟩,k⟩:=h;refine⟨a,b,c,d,f,?_⟩;by_cases g:t.V=0 <;> by_cases j:t.S=0 <;> simp_all
structure Gr.Fits (G:Gr):Prop where
 n1:G.T.length<=24
 n2:1<=G.O.length/\G.O.length<=16
 n3:1<=G.U.length/\G.U.length<=40
 st:0<=G.zt/\G.zt<(G.O.length:Int)
 L:∀r∈G.U,0<=r.L/\r.L<(G.O.length:Int)
 len:∀r∈G.U,r.rt.length<=6
 sym:∀r∈G.U,∀s∈r.rt,-(G.O.length:Int)<=s/\s<(G.T.length:Int)
def Gr.fits{G:Gr}(h:G.rt=true):G.Fits:=by
 unfold Gr.rt Gr.termsOK Gr.nonsOK at h;simp only[AS,decide_eq_true_eq] at h;obtain⟨⟨⟨⟨⟨c,_⟩,d,_⟩,f⟩,g⟩,j⟩:=h;obtain⟨_,b⟩:=G.lefts_all _ _ _ j;refine⟨c,d,f,g,λr a=>⟨(b r a).1,by have:=(b r a).2.1;omega⟩,λr a=>?_,λr a s k=>?_⟩
 ·have:=(b r a).2.2;unfold Gr.ruleOK at this;simp at this;exact this.1.1
 have:=(b r a).2.2;unfold Gr.ruleOK at this;simp only[AS,BG] at this;have:=this.2 s k;unfold Gr.symOK Gr.has at this;rw[AS] at this;have:=this.1;split at this <;> simp at this <;> omega
def Gr.Fits.symB{G:Gr}(F:G.Fits){r:Rul}(a:r∈G.U):∀s∈r.rt,-((Q G.O):Int)<=s/\s<=1000:=λs b=>by
 have:=F.sym r a s b;have:=F.n1;omega
def Kz(w:World)(c:Nat->Prop)(cs:List Value)(a:List Rul):Prop:=cs.length=a.length*3/\∀(j:Nat) (r:Rul),a[j]? = some r->∃Ar cr,
 cs[j*3+0]? = some (aI aJ r.L)/\cs[j*3+1]? = some (K Ar r.rt.length cr)/\cs[j*3+2]? = some (aI aJ r.P)/\Za .i64 w Ar r.rt.length cr r.rt/\∀b d,Ar=some ⟨b,d,none⟩->b<w.heap.size/\c b
def terms_same{G H:Gr}(h:H.T=G.T):H.termsOK=G.termsOK:=by
 unfold Gr.termsOK;have:H.termOK=G.termOK:=by
  funext i t;unfold Gr.termOK Gr.term;rw[h]
 rw[this,h]
def rulB(a b:Rul):Bool:=(a.L==b.L)&&((a.P==b.P)&&(a.rt==b.rt))
def Zwu{a b:Rul}:rulB a b=true↔a=b:=by
 obtain⟨x,y,z⟩:=a;obtain⟨f,g,z'⟩:=b;unfold rulB;rw[AS,AS,BS,BS,BS];constructor
 ·rintro⟨h1,c,d⟩;simp only at h1 c d;rw[h1,c,d]
 intro h;injection h with h1 c d;exact⟨h1,d,c⟩
def Zxf:Xt.rt=true:=AB
section
open Go.RowKit Go.Shelf
attribute [local go_sem] Oper.semAt_some
def take_snocB(a:List ByteArray)(k:Nat)(s:ByteArray)(h:a[k]? = some s):a.take (k+1)=a.take k++[s]:=by
 rw[Du,h];rfl
def values1_in(n:Nat)(O:1<=n)(l o m b f cap:Nat)(a:List ByteArray)(P:(Q a)<=1000)(D:b<m)(J r:List ByteArray->World->Prop)(C:∀c x W,J c W->(Q c)<(Q a)->YieldAt Fence.wide (n-1) prog l #[aS x] W λe d =>
   (e = aR (aB true)/\J (c++[x]) d/\Below m W d)\/(e = aR (aB false)/\r (c++[x]) d))(W:World)(I:W.cell? ⟨o,0,aN⟩=some (K (some ⟨b,f,aN⟩) (Q a) cap))(L:(Q a)<=cap/\cap<=9223372036854775807)(t:∀j s,a[j]? = some s->W.cell? ⟨b,f+j,aN⟩=some (aS s))(y:J [] W):
 CallsIn Fence.wide n prog 193 #[.func (.yield l) #[] #[],aP (some ⟨o,0,aN⟩)] W λe d=>(∃v,e = aR v) /\
  ((∃ys,ys=a/\J ys d)\/(∃c,c <+: a/\r c d)):=by
 refine callsIn_of_wp func193 rfl trivial ?_ rfl;simp only[ntmps193,List.size_toArray,AY,DE,Nat.reduceAdd,Nat.reduceSub,Array.replicate_succ,Array.replicate_zero,List.push_toArray,List.append_toArray,DA,DL]
 gi_wp2
 gi_loopw [4,7] (λ_ i wr=>∃k:Nat,k<=(Q a)/\i = aI aJ k/\J (a.take k) wr/\Below m W wr)
  (λ_ i _=>(Q a)-(intOf i).toNat)
 case atStart=>exact⟨0,AV _,rfl,by simpa using y,AP _ _⟩
 obtain⟨k,N,rfl,g,u⟩:=hrel;by_cases G:k<(Q a)
 ·obtain⟨s,h⟩:∃s,a[k]? = some s:=⟨_,AL G⟩;have M:wr.cell? ⟨b,f+k,aN⟩=some (aS s):=(u.cell (p:=⟨b,f+k,aN⟩) D).trans (t k s h);have F:(a.take k).length=k:=by rw[BU];omega
  obtain⟨H,tmps,assign,body,R,B⟩:=C _ s wr g AA;have q:=LH (take_snocB a k s h);clear t h F
  gi_wp2
  refine B.mono ?_;rintro e W3 (⟨rfl,z,E⟩ | ⟨rfl,A⟩)
  ·gi_wp2
   go_roundw
   case rel=>exact⟨k+1,AA,AE,by rw[q];exact z,u.trans E⟩
   simp[intOf];omega
  gi_wp2
  refine AW (results_none rfl _ _ _) rfl ?_;exact⟨⟨_,rfl⟩,.inr ⟨_,by rw[<-q];exact List.take_prefix _ _,A⟩⟩
 obtain rfl:k=(Q a):=AA
 gi_wp2
 go_end0
 exact⟨⟨_,rfl⟩,.inl ⟨_,rfl,by rw[AQ (AJ _)] at g;exact g⟩⟩
def values_in(A:Option Addr)(L cap:Nat)(w:World):
 Calls prog 142 #[K A L cap] w λe w' =>
  e = aR (.func (.func 193) #[] #[aP (some ⟨w,0,aN⟩)]) /\
  w'=w.alloc (aC #[K A L cap] 23):=by
 go_enter func142,ntmps142;go_wp2;go_ret;exact⟨rfl,rfl⟩
def drewN_grownBy(w:World)(m:Nat):w.grownBy (w.drewN m) aN:=⟨rfl,rfl,rfl,AJ _,λ_ _ _=>rfl⟩
end
section
open Go.RowKit Go.Shelf
attribute [local go_sem] Oper.semAt_some
open Go.RowKit Go.Shelf Go.Sort
structure Ext (w:World) where
 tw:World
 below:Below w.heap.size w tw
instance instExt (w:World):Inhabited (Ext w):=⟨⟨w,Below.refl _ _⟩⟩
def bl(w:World)(x:Ext w):World:=x.tw
def Zs{P:Program}{id:Nat}{Q:Exit->Act->World->Prop}{a:Act}{w:World}{l:List Oper}(d:P.follows .mixedOrders=true)(c:Region.lexB .any l.toArray=true)
 (h:wpQuiet P l.toArray (λw'=>∃x,w'=bl w x) (λb=>∀w',(∃x,w'=bl w x)->Q .normal b w') l a):(Code.region id l.toArray true).wp P Q a w :=
 wp_region_quiet (C:=λw'=>∃x,w'=bl w x) d c ⟨⟨_,(Below.refl w.heap.size w).drew⟩,rfl⟩ (by simpa using h)
def Qo{P:Program}{f:FuncId}{w:World}{x:Ext w}(h:Calls P f args (bl w x) λe w'=>e = aR v/\bl w x=w'):Calls P f args (bl w x) λe a=>e = aR v/\∃y,a=bl w y :=
 h.mono λ_ a ⟨c,b⟩=>⟨c,x,b.symm⟩
def Wg(w:World)(t:TypeId)(cs:Array Value)(j:Nat):(w.alloc (aC cs t)).cell? ⟨w,j,aN⟩=cs[j]? := by
 rw[World.cell?_alloc_mark]
def Zl(w:World)(o:Obj):(w.alloc o).heap.size=w.heap.size+1:=AE
def Jd{w1:World}(a:Below W W w1):(∀b o,b<W.heap.size->w1.cell? ⟨b,o,aN⟩=W.cell? ⟨b,o,aN⟩)/\(∀b o,b<W.heap.size->w1.frozen? ⟨b,o,aN⟩=W.frozen? ⟨b,o,aN⟩) :=
 ⟨λb o h=>a.cell (p:=⟨b,o,aN⟩) h,λb o h=>a.frozen (p:=⟨b,o,aN⟩) h⟩
end
section
open Go.RowKit Go.Maps
structure Ways (D:DataW Unit) (p:List Trm):Prop where
 tidy:Tidy D
 at_:∀L:Int,1<=L->D.atKey (.int .i64 L) (.lit (.int .i64 0)) = .lit (.int .i64 (Vl p L))
 has_:∀L:Int,1<=L->has D (.int .i64 L)=Dt p L
 size_:Maps.size D=Zzt p
theorem Ways.zt:Ways (.map []) []:=⟨tidy_empty,λL _=>rfl,λL _=>rfl,rfl⟩
def H0(l:List Trm):Bool:=l.all Up&&(decide (l.length<=24)&&Jh l)
def Zwh{β:Type}(f:β->ByteArray)(l:List β):(l.map f).Nodup↔∀(i:Nat) x,l[i]? = some x->Y8 (λy=>decide (f y=f x)) l=(i:Int):=by
 constructor
 ·intro p i x b;refine Q4 b AE λj a y g=>?_;rw[AZ];intro c;have:=List.pairwise_iff_getElem.1 p j i (by rw[BI];exact (AN.1 g).1) (by rw[BI];exact (AN.1 b).1) a;rw[List.getElem_map,List.getElem_map] at this;obtain⟨d,k⟩:=AN.1 g;obtain⟨q,m⟩:=AN.1 b;rw[k,m] at this;exact this c
 intro h;refine List.pairwise_iff_getElem.2 λi j hi a n=>?_;rw[BI] at hi a;rw[List.getElem_map,List.getElem_map];intro c;have d:=h j l[j] (AL a);obtain⟨x,b,r,o⟩:=Fb d;have:=o i n l[i] (AL hi);simp[c] at this
def Zs2{p:α->Bool}{l:List α}:Y8 p l<0↔∀x∈l,p x=false:=by
 constructor
 ·intro h x b;obtain⟨j,a⟩:=BQ b;exact Ac h j x a
 intro h;rw[Jq λj y c=>h y (AM c)];omega
def allI_iff{p:Nat->α->Bool}{l:List α}:Cg p l=true↔∀(j:Nat) y,l[j]? = some y->p j y=true:=⟨λh j y a=>Bj h a,Kc⟩
def Gr.names(G:Gr):List ByteArray:=G.O++G.T.map Trm.name
def names_nodup(G:Gr):G.names.Nodup↔(∀(i:Nat) s,G.O[i]? = some s->G.non s=(i:Int)/\G.term s<0)/\∀(i:Nat) t,G.T[i]? = some t->G.term t.name=(i:Int):=by
 unfold Gr.names;rw[List.nodup_append];have g:=Zwh id G.O;have h:=Zwh Trm.name G.T;rw[List.map_id] at g;rw[g,h];constructor
 ·rintro⟨b,c,j⟩;refine⟨λi s a=>⟨b i s a,Zs2.2 λt f=>?_⟩,c⟩;rw[AZ];intro d;exact j s (AM a) t.name (List.mem_map_of_mem f) d.symm
 rintro⟨b,c⟩;refine⟨λi s a=>(b i s a).1,c,λs a n k d=>?_⟩;obtain⟨t,f,rfl⟩:=CX.1 k;obtain⟨i,hi⟩:=BQ a;have:=Zs2.1 (b i s hi).2 t f;simp[d] at this
def names_take(G:Gr){k:Nat}{t:Trm}(a:G.T[k]? = some t):(G.O++(G.T.take (k+1)).map Trm.name).map aS=(G.O++(G.T.take k).map Trm.name).map aS++[aS t.name]:=by
 rw[Du,a];simp
def Zc{a b c:World}(h:a.grownBy b r)(k:b.grownBy c r):a.grownBy c r :=
 ⟨k.os.trans h.os,k.tape.trans h.tape,k.output.trans h.output,BC h.size k.size,λi hi d=>(k.block i (AK hi h.size) d).trans (h.block i hi d)⟩
def Xz{w:World}(r:Option Nat)(h:Below w w w'):w.grownBy w' r:=⟨h.os,h.tape,h.output,h.size,λk a _=>h.block k a⟩
def Zn{w:World}(h:w.grownBy w' (some g))(b:B<=w.heap.size)(c:B<=g):Below B w w' :=
 ⟨h.os,h.tape,h.output,h.size,λk d=>h.block k AA (by intro a;injection a with a;omega)⟩
def Zrj{w:World}(h:w.grownBy w' (some g)){b o:Nat}(d:b<w.heap.size)(f:b≠g):w'.cell? ⟨b,o,aN⟩=w.cell? ⟨b,o,aN⟩ :=
 DG (a:=⟨b,o,aN⟩) (h.block b d (by intro c;injection c with c;exact f c))
def Zo{w:World}(h:Below w w w')(o:Obj):Below w w (w'.alloc o):=h.alloc h.size o
def Zvx(n:Nat)(a:n<=1000)(w:World):
 (Instr.makeSlice 27 (aI aJ (n:Int)) (aI aJ (n:Int))).run prog w = .ok (K (some ⟨w,0,aN⟩) n n) (w.alloc (aC (nums .u32 (List.replicate n 0)).toArray 41)) :=
 Wm (P:=prog) 27 41 .u32 4 underlying27 Tryz.infoU32 n AA AA w
end
section
open Go.Maps (Keyed IsMap Tidy)
def Zf(w w':World):Prop:=w.heap.size<=w'.heap.size/\∀b,b<w.heap.size->(∃o k z,w.cell? ⟨b,o,none⟩=some (aI k z))->w'.heap[b]? = w.heap[b]?
def Xr(w:World)(p:List Nat × Nat)(e:Ending)(w':World):Prop :=
 ∃A c,e = aR (.tuple #[K A p.1.length c,aI aJ (p.2:Int)])/\Zq .u32 w' A p.1.length c p.1/\Below w.heap.size w w'
def Bq(w:World)(a:List Nat)(e:Ending)(w':World):Prop :=
 ∃A c,e = aR (K A a.length c)/\Zq .u32 w' A a.length c a/\Below w.heap.size w w'
def Quiet(w:World)(v:Value)(e:Ending)(w':World):Prop:=e = aR v/\Uz w w'
def Tryz.rowKT:(257:TypeId)<prog.types.size:=El AB
def Tryz.rowKF:(261:TypeId)<prog.types.size:=El AB
def Zy5{P:Program}{t:Nat}(h:t<P.types.size)(a:1<=t):∃m,P.types.size=m+2:=⟨P.types.size-2,AA⟩
end
section
open Go.Maps (Keyed IsMap Tidy)
variable {P:Program} {k:TypeId}
def own_tight{w:World}{b:Nat}(h:w.ownsMap P k R b n D):w.ownsMap P k R b (Maps.size D) D:=by
 obtain⟨c,clock,d,F,_,a⟩:=h;refine⟨c,clock,d,F,?_,a⟩;rw[a];simp[Maps.size,length_sorted]
end
section
open Ieee
def Ur(G:Gr)(i:Int):Option Rul:=if 0<=i then G.U[i.toNat]? else none
def Uo{G:Gr}{i:Int}{r:Rul}(h:Ur G i=some r):∃j:Nat,i=(j:Int)/\G.U[j]? = some r:=by
 unfold Ur at h;split at h
 ·exact⟨i.toNat,AA,h⟩
 cases h
inductive Fs (G:Gr):List Int->List Int->List Int->List Int->Nat->Prop
 | nil:Fs G [] [] [] [] 0
 | term {s:Int} {ss ps qs wd:List Int} {m:Nat}:0<=s->Fs G ss ps qs wd m->Fs G (s::ss) ps qs (s::wd) m
 | non {s i:Int} {r:Rul} {ss p1 q1 w1 ps qs wd:List Int} {m1 m:Nat}:s<0->Ur G i=some r->r.L=-1-s->Fs G r.rt p1 q1 w1 m1->Fs G ss ps qs wd m->Fs G (s::ss) (i::(p1++ps)) (q1++i::qs) (w1++wd) (max (m1+1) m)
end
section
open Ieee
open Go.Maps (Keyed IsMap Tidy)
def Tryz.rowKB:(220:TypeId)<prog.types.size:=El AB
end
section
open Go.RowKit Go.Shelf
attribute [local go_sem] Oper.semAt_some
open Go.RowKit Go.Shelf
structure Zqy (w W:World) (v:Value):Prop where
 b:Boxed W w.heap.size 44 v
 r0:Boxed W (w.heap.size+1) 44 (K none 0 0)
 r1:Boxed W (w.heap.size+1+1) 3 (aI aJ 0)
 r2:Boxed W (w.heap.size+1+1+1) 31 (aI aJ 0)
end
section
open Go.RowKit Go.Shelf
attribute [local go_sem] Oper.semAt_some
open Go.RowKit Go.Shelf
open Go.RowKit Go.Shelf
attribute [local go_sem] Oper.semAt_some
def Zrd(h:Zq .u32 W A n c xs)(l:Boxed W B t v)(s:∀x,v ≠ aI .u32 x)(u:Value):
 Zq .u32 (W.setCell ⟨B,0,aN⟩ u) A n c xs:=by
 refine⟨h.1,h.2.1,h.2.2.1,λq=>?_⟩;obtain⟨b,k,e,p,o⟩:=h.2.2.2 q;refine⟨b,k,e,by simpa [World.setCell] using p,λj f=>?_⟩;have d:=o j f;have r:b≠B:=by
  rintro rfl;have m:W.heap[b]? = _:=l;have g:∃x,(nums .u32 xs)[j]? = some (aI .u32 x):=by
   simp only[nums,BI] at f;exact⟨((xs[j]:Nat):Int),by simp[nums,AL f]⟩
  obtain⟨x,g⟩:=g;rw[g] at d;simp only[World.cell?,m] at d;rcases BW (k+j) with h0 | h0
  ·rw[h0] at d;simp at d;exact s x d
  rw[CZ AG] at d;cases d
 rw[<-d];exact DG (a:=⟨b,k+j,aN⟩) (Ea W ⟨B,0,aN⟩ u b r)
end
section
open Go.ChangeShapes Go.WideShapes Go.ChangeAt Go.RowKit
open Go.ChangeShapes Go.WideShapes Go.ChangeAt Go.RowKit
open Go.ChangeShapes Go.WideShapes Go.ChangeAt Go.RowKit Go.Lib Go.Deep
open Go.ChangeShapes Go.WideShapes Go.ChangeAt Go.RowKit Go.Lib Go.Deep
structure SMs (W:World) (g j is ic:Nat) (b:Nat->Bool) (u:Nat->Value) (X:World):Prop where
 below:b is=false->Below W.heap.size W X
 done:b is=true->∃X0,Below W.heap.size W X0/\X=X0.setCell ⟨g,j,none⟩ (u ic)
end
def Fs.height{G:Gr}{ss ps b wd:List Int}{m:Nat}(h:Fs G ss ps b wd m):m<=(Q ps):=by
 induction h with
 | nil=>simp
 | term h0 h a=>exact a
 | non h0 h1 c d f g j =>
   simp only[AY,AU];omega
end
section
variable{w:World}{a:List Nat × Nat}{b i j use m x base size d g:Nat}{l ss:List Int}{α:Type}{F S xs ys:List Nat}{N:List Bool}{cs:Array Value}{T:Int->Nat->Nat}{s:Int}{A:Option Addr}{v:Value}{tab:Nat->Nat->Nat}
def Zux(a:Nat):((a:Int) != 0)=(a != 0):=by rw[Cc];simp[BK]
def Zz{w1 a:World}(h:Below w w w1)(b:Below w1 w1 a):Below w w a:=h.trans (b.mono h.size)
def Y6(n:Int):Nat:=if 0<=n/\n<32 then 2 ^ n.toNat else 0
def ofN(l:List Int):Nat:=l.foldl (λs n=>s ||| Y6 n) 0
def Ua(n:Int):Y6 n<4294967296:=by
 unfold Y6;split
 ·rename_i h;have:=Nat.pow_lt_pow_right (a:=2) AC (show n.toNat<32 by omega);simpa using this
 omega
def ofN_snoc(l:List Int)(n:Int):ofN (l++[n])=ofN l ||| Y6 n:=by simp[ofN]
def set_bit1(n:Int)(w:World):Calls prog 219 #[aI aJ n] w λe w'=>e = aR (aI .u32 ((Y6 n:Nat):Int))/\w=w':=by
 by_cases c:n<0
 ·have b:Y6 n=0:=by simp[Y6];omega
  rw[b];clear b;go_enter func219,ntmps219;go_wp2;go_ret;exact⟨rfl,rfl⟩
 by_cases d:32<=n
 ·have b:Y6 n=0:=by simp[Y6];omega
  rw[b];clear b;go_enter func219,ntmps219;go_wp2;go_ret;exact⟨rfl,rfl⟩
 obtain⟨r,rfl⟩:∃r:Nat,n=(r:Int):=⟨n.toNat,AA⟩;have b:Y6 (r:Int)=2 ^ r:=by simp[Y6];omega
 have f:(2:Int) ^ r % 4294967296=((2 ^ r:Nat):Int):=by
  have h:(2:Nat) ^ r<4294967296:=by
   have:=Nat.pow_lt_pow_right (a:=2) AC (show r<32 by omega);simpa using this
  have e:(2:Int) ^ r=((2 ^ r:Nat):Int):=AE
  rw[e];omega
 rw[b];have g:(r:Int)<32:=AA
 generalize (2:Nat) ^ r=p at *;clear b c d;go_enter func219,ntmps219;go_wp2;go_ret;exact⟨congrArg aR (congrArg (aI .u32) f),rfl⟩
def Ch(n:Int)(w:World):Calls prog 121 #[aI aJ n] w λe w'=>e = aR (aI .u32 ((Y6 n:Nat):Int))/\w=w':=by
 by_cases c:n<0
 ·have a:Y6 n=0:=by simp[Y6];omega
  rw[a];go_enter func121,ntmps121;go_wp2;go_ret;exact⟨rfl,rfl⟩
 by_cases d:31<n
 ·have a:Y6 n=0:=by simp[Y6];omega
  rw[a];go_enter func121,ntmps121;go_wp2;go_ret;exact⟨rfl,rfl⟩
 obtain⟨r,rfl⟩:∃r:Nat,n=(r:Int):=⟨n.toNat,AA⟩;have a:Y6 (r:Int)=2 ^ r:=by simp[Y6];omega
 rw[a];have k:(r:Int)<=31:=AA
 go_enter func121,ntmps121;go_wp2;go_loop [3,4] (λo t=>∃q p:Nat,q<=r/\t = aI aJ (q:Int)/\o = aI .u32 (p:Int)/\Hid (2 ^ q=p)/\p<=2147483648) (λ_ t=>r-(intOf t).toNat)
 case atStart=>exact⟨0,1,AV _,rfl,rfl,LH rfl,AC⟩
 obtain⟨q,p,j,rfl,rfl,b,h⟩:=hrel;by_cases g:q<r
 ·have f:2*p<=2147483648:=by
   have:=CV (n:=2) AC (show q+1<=31 by omega);rw[Nat.pow_succ,b] at this;omega
  go_wp2;go_round
  case rel=>exact⟨q+1,2*p,AA,AF,AF,LH (by rw[Nat.pow_succ,b,Ef]),f⟩
  simp[intOf];omega
 obtain rfl:q=r:=AA
 go_wp2;go_ret;exact⟨by show aR (aI .u32 (p:Int))=_;rw[<-b];simp,rfl⟩
def Q2(w:World):Prop:=∀j,j<32->w.cell? ⟨0,j,none⟩=some (aI .u8 ((Lib.deBruijn32tab.getD j 0:Nat):Int))
def Z6(l:List Nat):List Int:=l.map λ(n:Nat)=>(n:Int)
def Mv(l:List Nat):(Z6 l).length=(Q l):=by simp[Z6]
def U3(x:Int):Prop:=-9223372036854775808<=x/\x<=9223372036854775807
structure GH where
 a1:Option Addr
 n1:Nat
 c1:Nat
 a2:Option Addr
 n2:Nat
 c2:Nat
 a3:Option Addr
 n3:Nat
 c3:Nat
abbrev GV(h:GH)(a:Int):Value := aG #[K h.a1 h.n1 h.c1,K h.a2 h.n2 h.c2,K h.a3 h.n3 h.c3,aI aJ a]
def bits_or(c:Nat):bits BinOp.or .u8 (c:Int) 32=((c ||| 32:Nat):Int)\/256<=c:=by
 rcases BD c 256 with h | h
 ·left;have:∀c:Nat,c<256->bits BinOp.or .u8 (c:Int) 32=((c ||| 32:Nat):Int):=by decide +kernel
  exact this c h
 exact .inr h
def Jf{a b:Bool}(h:a=b):aR (aB a)=aR (aB b):=by rw[h]
def lt256{l:List Nat}(h:∀x∈l,x<256)(j:Nat):l.getD j 0<256:=by
 rw[AO];rcases BD j (Q l) with a | a
 ·rw[AL a];exact h _ (List.getElem_mem a)
 rw[BE a];exact by decide
def countP_more(p:Nat->Bool)(m:Nat)(c:p m=false):∀N,(List.range N).countP (λ(n:Nat)=>p n || decide (n=m))=(List.range N).countP p+if m<N then 1 else 0:=by
 intro N
 induction N with
 | zero=>simp
 | succ N d =>
   rw[DP,List.countP_append,List.countP_append,d];simp only[List.countP_singleton];by_cases h:N=m
   ·subst h;simp[c]
   have:decide (N=m)=false:=by simp[h]
   rw[this,Bool.or_false];by_cases b:m<N
   ·have a:m<N+1:=AA
    simp only[b,a,if_true];omega
   have a:¬m<N+1:=AA
   simp only[b,a,if_false];omega
def Z3{α:Type}(f:α->α):Nat->α->α
 | 0,x=>x
 | n+1,x=>f (Z3 f n x)
def M7{f:α->α}{x:α}{n:Nat}(h:f (Z3 f n x)=Z3 f n x):∀m,n<=m->Z3 f m x=Z3 f n x
 | 0,hm=>by obtain rfl:n=0:=AA
            rfl
 | m+1,hm=>by
   rcases BD m n with b | a
   ·obtain rfl:n=m+1:=AA
    rfl
   show f (Z3 f m x)=_;rw[M7 h m a,h]
structure Qv (f:List Bool->List Bool):Prop where
 len:∀b,(f b).length=b.length
 up:∀b (i:Nat),b[i]? = some true->(f b)[i]? = some true
def Qv.id:Qv λb=>b:=⟨λ_=>rfl,λ_ _ h=>h⟩
def Zsi:∀(a b:List Bool),(Q a)=(Q b)->(∀i:Nat,a[i]? = some true->b[i]? = some true)->a.countP (·)<=b.countP (·)/\(a.countP (·)=b.countP (·)->a=b)
 | [],[],_,_=>AE
 | [],_::_,h,_=>by simp at h
 | _::_,[],h,_=>by simp at h
 | x::a,y::b,hl,h=>by
   have d:=Zsi a b (by simpa using hl) λi hi=>by simpa using h (i+1) (by simpa using hi)
   have c:=h 0;simp only[List.getElem?_cons_zero,BT] at c;cases x <;> cases y
   ·simp;exact d
   ·simp;omega
   ·simp at c
   simp;exact d
def Je(t:Nat)(F:List Nat):List Bool:=F.map λx=>x.testBit t
def view_ext{a:List Nat}(h:∀t,Je t F=Je t a):F=a:=by
 have d:(Q F)=(Q a):=by have:=congrArg List.length (h 0);simpa [Je] using this
 refine List.ext_getElem? λi=>?_;cases b:F[i]? with
 | none =>
   rw[List.getElem?_eq_none_iff] at b;exact (BE AA).symm
 | some x =>
   have hi:=(AN.1 b).1;have c:a[i]? = some (a[i]' AA):=AL AA;rw[c];congr 1;apply Nat.eq_of_testBit_eq;intro t;have:=congrArg (λl=>l[i]?) (h t);simp only[Je,BB,b,c,Ei,BT] at this;exact this
def GrowsS(f:List Nat->List Nat):Prop:=∃p:Nat->List Bool->List Bool,(∀t,Qv (p t))/\∀t F,Je t (f F)=p t (Je t F)
def addAt(i:Nat)(x:Nat)(F:List Nat):List Nat:=F.set i (F.getD i 0 ||| x)
def Zuj(t:Nat)(F:List Nat)(i:Nat):(F.getD i 0).testBit t=(Je t F).getD i false:=by
 rw[AO,AO,Je,BB];cases F[i]? <;> simp
def Zp(s:Int):Nat:=(-1-s).toNat
def Xj(b:Bool)(N:List Bool)(ss:List Int):Bool:=ss.all λs=>if 0<=s then b else N.getD (Zp s) false
def We(F:List Nat):Prop:=∀x∈F,x<4294967296
def We.zero(n:Nat):We (List.replicate n 0):=λx a=>by rw[List.eq_of_mem_replicate a];decide
def iter_done{f:α->α}{x:α}{n k:Nat}(b:f (Z3 f n x)=Z3 f n x)(a:f (Z3 f k x)=Z3 f k x):Z3 f k x=Z3 f n x:=by
 rcases Nat.le_total k n with h | h
 ·exact (M7 a n h).symm
 exact M7 b k h
def iter_more{f:α->α}{x:α}{n k:Nat}(b:f (Z3 f n x)=Z3 f n x)(a:f (Z3 f k x)≠Z3 f k x):k<n:=by
 rcases BD k n with h | h
 ·exact h
 rw[M7 b k h] at a;exact absurd b a
def joinS(S:Nat)(F:List Nat):Nat:=(List.range F.length).foldl (λa k=>if S.testBit k then a ||| F.getD k 0 else a) 0
def C7(S:Nat)(F:List Nat)(t:Nat):∀(l:List Nat) (a:Nat),(l.foldl (λa k=>if S.testBit k then a ||| F.getD k 0 else a) a).testBit t=(a.testBit t || l.any λk=>S.testBit k&&(F.getD k 0).testBit t)
 | [],a=>AE
 | k::l,a=>by
   rw[List.foldl_cons,C7 S F t l,List.any_cons];cases S.testBit k <;> simp[Bool.or_assoc]
def Zvn(S:Nat)(F:List Nat)(t:Nat):(joinS S F).testBit t=(List.range (Q F)).any λk=>S.testBit k&&(F.getD k 0).testBit t:=by
 unfold joinS;rw[C7];simp
def F4{S:Nat}{t:Nat}:(joinS S F).testBit t=true↔∃k,k<(Q F)/\S.testBit k=true/\(F.getD k 0).testBit t=true:=by
 rw[Zvn,Eo];constructor
 ·rintro⟨k,a,h⟩;rw[AS] at h;exact⟨k,BP.1 a,h.1,h.2⟩
 rintro⟨k,a,b,c⟩;exact⟨k,BP.2 a,by rw[b,c];rfl⟩
def Ja(S:List Nat)(F:List Nat):List Nat:=(List.range F.length).map λi=>F.getD i 0 ||| joinS (S.getD i 0) F
def stepD_len(S F:List Nat):(Ja S F).length=(Q F):=by simp[Ja]
def Lz(S F:List Nat)(hi:i<(Q F)):(Ja S F).getD i 0=F.getD i 0 ||| joinS (S.getD i 0) F:=by
 rw[AO];simp[Ja,hi]
def stepD_grows(S:List Nat):GrowsS (Ja S):=by
 refine⟨λt b=>(List.range (Q b)).map λi=>b.getD i false || (List.range (Q b)).any λk=>(S.getD i 0).testBit k&&b.getD k false,λt=>⟨λb=>AE,λb i h=>?_⟩,λt F=>?_⟩
 ·have hi:=(AN.1 h).1;have:b.getD i false=true:=by rw[AO,h];rfl
  have a:b[i]=true:=(AN.1 h).2;simp[hi,a]
 refine List.ext_getElem? λi=>?_;by_cases hi:i<(Q F)
 ·simp only[Je,Ja,BB,BI,List.getElem?_range hi,Ei,BT];rw[DR,Zvn,Zuj];congr 1;congr 1;funext k;rw[Zuj t F k];rfl
 simp only[Je,Ja,BB,BI];rw[BE (by simpa using hi)];rfl
def Xu(S:List Nat):List Nat:=Z3 (Ja S) S.length S
def Yw(S:List Nat)(i t:Nat):Bool:=((Xu S).getD i 0).testBit t
def U0(S:List Nat):∀m,(Z3 (Ja S) m S).length=(Q S)
 | 0=>rfl
 | m+1=>by rw[Z3,stepD_len,U0 S m]
def Li(S:List Nat):(Xu S).length=(Q S):=U0 S _
def iterD_up(S:List Nat){t:Nat}(hi:i<(Q S)):∀m,((Z3 (Ja S) m S).getD i 0).testBit t=true->((Z3 (Ja S) (m+1) S).getD i 0).testBit t=true:=λm h=>by
 rw[Z3,Lz _ _ (by rw[U0];exact hi),DR,h,Bool.true_or]
def Gd(X:Nat->Prop)(a:∀k,k<(Q S)->X k->∀t,(S.getD k 0).testBit t=true->X t)(c:∀i t,(S.getD i 0).testBit t=true->t<(Q S)):
 ∀(m:Nat) {i t:Nat},i<(Q S)->(∀t,(S.getD i 0).testBit t=true->X t)->((Z3 (Ja S) m S).getD i 0).testBit t=true->X t
 | 0,i,t,hi,h0,h=>h0 t h
 | m+1,i,t,hi,h0,h=>by
   rw[Z3,Lz _ _ (by rw[U0];exact hi),DR,Cs] at h;rcases h with h | h
   ·exact Gd X a c m hi h0 h
   obtain⟨k,b,d,f⟩:=F4.1 h;rw[U0] at b;exact Gd X a c m b (a k b (h0 k d)) f
def comes_in(X:Nat->Prop)(c:∀k,k<(Q S)->X k->∀t,(S.getD k 0).testBit t=true->X t)(b:∀i t,(S.getD i 0).testBit t=true->t<(Q S)){t:Nat}(hi:i<(Q S))(a:∀t,(S.getD i 0).testBit t=true->X t)(h:Yw S i t=true):X t :=
 Gd X c b _ hi a h
def cf_non(s:Int)(w:World)(a:U3 s)(b:s<0):
 Calls prog 154 #[aI aJ s] w λe w'=>e = aR (aI aJ (-1-s))/\w=w':=by
 obtain⟨c,d⟩:=a;go_enter func154,ntmps154;go_wp2_with fail;go_ret;exact⟨rfl,rfl⟩
def Cf(N:List Bool)(s:Int):Bool:=decide (s<0)&&!N.getD (Zp s) false
def LeB(a b:List Bool):Prop:=a.length=b.length/\∀i:Nat,a[i]? = some true->b[i]? = some true
def LeB.trans{a b c:List Bool}(h:LeB a b)(k:LeB b c):LeB a c:=⟨h.1.trans k.1,λi hi=>k.2 i (h.2 i hi)⟩
def all_split(N:List Bool)(ss:List Int):((!ss.any λs=>decide (0<=s))&&!ss.any (Cf N))=Xj false N ss:=by
 unfold Xj
 induction ss with
 | nil=>rfl
 | cons s ss b =>
   rw[List.all_cons,<-b,List.any_cons,List.any_cons];unfold Cf;by_cases h:0<=s
   ·simp[h]
   have a:s<0:=AA
   cases N.getD (Zp s) false <;> simp[h,a]
def Zty(N:List Bool)(ss:List Int):(!ss.any (Cf N))=Xj true N ss:=by
 unfold Xj
 induction ss with
 | nil=>rfl
 | cons s ss b =>
   rw[List.all_cons,<-b,List.any_cons];unfold Cf;by_cases h:0<=s
   ·simp[h]
   have a:s<0:=AA
   cases N.getD (Zp s) false <;> simp[h,a]
def Uq(ss:List Int):List Int:=(ss.filter λs=>decide (s<0)).map λs=>-1-s
def Xg(N:List Bool)(s:Int):Bool:=decide (s<0)&&N.getD (Zp s) false
def Vo(N:List Bool)(ss:List Int):List Int:=ss.filter λs=>!Xg N s
def Zyn(N P:List Bool)(ss:List Int)(s:Int):Bool:=(decide (s<0)&&P.getD (Zp s) false)&&(decide ((Vo N ss).length=0) || (decide ((Vo N ss).length=1)&&decide ((Vo N ss)[0]? = some s)))
def bareL_nil{N:List Bool}{ss:List Int}:Vo N ss=[]↔ss.all (Xg N)=true:=by
 unfold Vo;rw[List.filter_eq_nil_iff,BG];constructor
 ·intro h s a;have:=h s a;simpa using this
 intro h s a;simp[h s a]
def Zuh{P:List Bool}(a:∀i,N.getD i false=true->P.getD i false=true)(h:ss.all (Xg N)=true):Xj true P ss=true:=by
 unfold Xj;rw[BG] at h ⊢;intro s b;have:=h s b;unfold Xg at this;rw[AS] at this;split
 ·rfl
 exact a _ this.2
def allP_mono{M:List Bool}(h:∀i,N.getD i false=true->M.getD i false=true)(a:Xj false N ss=true):Xj true M ss=true:=by
 unfold Xj at a ⊢;rw[BG] at a ⊢;intro s c;have:=a s c;split
 ·rfl
 rename_i b;rw[if_neg b] at this;exact h _ this
def Jb(f:Nat->Bool)(n:Nat):Nat:=(List.range n).foldl (λs i=>if f i then s ||| Y6 (i:Int) else s) 0
def Mp(f:Nat->Bool)(n:Nat):Jb f (n+1)=if f n then Jb f n ||| Y6 (n:Int) else Jb f n:=by
 unfold Jb;rw[DP,Et];rfl
def Uv(i t:Nat):(Y6 (i:Int)).testBit t=(decide (i<32)&&decide (t=i)):=by
 unfold Y6;by_cases h:i<32
 ·rw[if_pos AA,DH,Nat.testBit_two_pow];simp[h,eq_comm]
 rw[if_neg AA];simp[h]
def J3(f:Nat->Bool)(n t:Nat):(Jb f n).testBit t=(decide (t<32)&&(decide (t<n)&&f t)):=by
 induction n with
 | zero=>simp[Jb]
 | succ n a =>
   rw[Mp];by_cases b:t=n
   ·subst b;cases c:f t
    ·simp[a,c]
    rw[if_pos rfl,DR,a,Uv];simp
   have e:decide (t<n+1)=decide (t<n):=by
    rw[Cc,BA,BA];omega
   rw[e];split
   ·rw[DR,a,Uv];simp[b]
   exact a
def fwK(i k:Nat)(F:List Nat):List Nat:=if (F.getD i 0).testBit k then addAt i (F.getD k 0) F else F
def fwR(i m:Nat)(F:List Nat):List Nat:=(List.range m).foldl (λF k=>fwK i k F) F
def fwI(m q:Nat)(F:List Nat):List Nat:=(List.range q).foldl (λF i=>fwR i m F) F
def Mm(i m:Nat)(F:List Nat):fwR i (m+1) F=fwK i m (fwR i m F):=by
 unfold fwR;rw[DP,Et];rfl
def M9(m q:Nat)(F:List Nat):fwI m (q+1) F=fwR q m (fwI m q F):=by
 unfold fwI;rw[DP,Et];rfl
def fwK_len(i k:Nat)(F:List Nat):(fwK i k F).length=(Q F):=by
 unfold fwK;split
 ·simp[addAt]
 rfl
def Zyi(i:Nat)(F:List Nat):∀m,(fwR i m F).length=(Q F)
 | 0=>rfl
 | m+1=>by rw[Mm,fwK_len,Zyi i F m]
def Zyc(m:Nat)(F:List Nat):∀q,(fwI m q F).length=(Q F)
 | 0=>rfl
 | q+1=>by rw[M9,Zyi,Zyc m F q]
def K5(m q:Nat)(F:List Nat):∀p,(Z3 (fwI m q) p F).length=(Q F)
 | 0=>rfl
 | p+1=>by rw[Z3,Zyc,K5 m q F p]
def Jo(i x j:Nat)(F:List Nat):(addAt i x F).getD j 0=if j=i/\i<(Q F) then F.getD i 0 ||| x else F.getD j 0:=by
 unfold addAt;rw[AO,List.getElem?_set];by_cases a:i=j
 ·subst a;by_cases b:i<(Q F)
  ·simp[b]
  simp[b,AO,BE (show (Q F)<=i by omega)]
 rw[if_neg a,if_neg (by rintro⟨h,_⟩;exact a h.symm),AO]
def fwK_up(i k:Nat)(F:List Nat){t:Nat}(h:(F.getD j 0).testBit t=true):((fwK i k F).getD j 0).testBit t=true:=by
 unfold fwK;split
 ·rw[Jo];split
  ·rename_i a;rw[DR,<-a.1,h];rfl
  exact h
 exact h
def Zw1(i:Nat)(F:List Nat){t:Nat}(h:(F.getD j 0).testBit t=true):∀m,((fwR i m F).getD j 0).testBit t=true
 | 0=>h
 | m+1=>by rw[Mm];exact fwK_up _ _ _ (Zw1 i F h m)
def Zwj(m:Nat)(F:List Nat){t:Nat}(h:(F.getD j 0).testBit t=true):∀q,((fwI m q F).getD j 0).testBit t=true
 | 0=>h
 | q+1=>by rw[M9];exact Zw1 _ _ (Zwj m F h q) _
def Zvm(m q:Nat)(F:List Nat){t:Nat}(h:(F.getD j 0).testBit t=true):∀p,((Z3 (fwI m q) p F).getD j 0).testBit t=true
 | 0=>h
 | p+1=>by rw[Z3];exact Zwj _ _ (Zvm m q F h p) _
def fwR_low(i:Nat)(F:List Nat)(hi:i<(Q F)){k t:Nat}(a:(F.getD i 0).testBit k=true)(b:(F.getD k 0).testBit t=true):∀m,k<m->((fwR i m F).getD i 0).testBit t=true
 | 0,h=>AA
 | m+1,h=>by
   rw[Mm];by_cases c:k=m
   ·subst c;unfold fwK;rw[if_pos (Zw1 i F a k),Jo,if_pos ⟨rfl,by rw[Zyi];exact hi⟩,DR,Zw1 i F b k,Bool.or_true]
   exact fwK_up _ _ _ (fwR_low i F hi a b m AA)
def fwI_low(m:Nat)(F:List Nat){k t:Nat}(c:k<m)(a:(F.getD i 0).testBit k=true)(b:(F.getD k 0).testBit t=true):∀q,i<q->i<(Q F)->((fwI m q F).getD i 0).testBit t=true
 | 0,h,_=>AA
 | q+1,h,hl=>by
   rw[M9];by_cases d:i=q
   ·subst d;exact fwR_low i _ (by rw[Zyc];exact hl) (Zwj m F a i) (Zwj m F b i) m c
   exact Zw1 _ _ (fwI_low m F c a b q AA hl) _
def Zzl(S:List Nat):∀(p:Nat) {i t:Nat},i<(Q S)->((Z3 (Ja S) p S).getD i 0).testBit t=true->((Z3 (fwI (Q S) (Q S)) p S).getD i 0).testBit t=true
 | 0,i,t,hi,h=>h
 | p+1,i,t,hi,h=>by
   rw[Z3,Lz _ _ (by rw[U0];exact hi),DR,Cs] at h;rw[Z3];rcases h with h | h
   ·exact Zwj _ _ (Zzl S p hi h) _
   obtain⟨k,a,b,c⟩:=F4.1 h;rw[U0] at a;exact fwI_low _ _ a (Zvm _ _ S b p) (Zzl S p a c) _ hi (by rw[K5];exact hi)
def UpF(S F:List Nat):Prop:=F.length=S.length/\∀i t,i<S.length->(F.getD i 0).testBit t=true->Yw S i t=true
def InS(S:List Nat):Prop:=∀i t,(S.getD i 0).testBit t=true->t<S.length
def J5(S:List Nat)(i R:Nat):Prop:=R<4294967296/\(∀t,(S.getD i 0).testBit t=true->R.testBit t=true)/\∀t,R.testBit t=true->t<S.length/\Yw S i t=true
def cycS(S:List Nat):Nat:=Jb (λi=>Yw S i i) S.length
def Ck(a b:Nat):Nat:=a ^^^ (a &&& b)
def Nu(a b t:Nat):(Ck a b).testBit t=(a.testBit t&&!b.testBit t):=by
 unfold Ck;rw[Nat.testBit_xor,Nat.testBit_and];cases a.testBit t <;> cases b.testBit t <;> rfl
def U2(S:List Nat)(use a i:Nat):Bool:=use.testBit i&&!a.testBit i&&(Ck (S.getD i 0) a==0)
def Qx(f:Nat->Bool)(n:Nat):Option Nat:=(List.range n).find? f
def findB_some{f:Nat->Bool}{n:Nat}(hi:i<n)(h:f i=true)(a:∀j,j<i->f j=false):Qx f n=some i:=by
 unfold Qx;rw[List.find?_range_eq_some];exact⟨h,BP.2 hi,λj b=>by rw[a j b];rfl⟩
def findB_none{f:Nat->Bool}{n:Nat}(h:∀j,j<n->f j=false):Qx f n=aN:=by
 unfold Qx;rw[List.find?_eq_none];intro j a;rw[h j (BP.1 a)];decide
def findB_none'{f:Nat->Bool}{n:Nat}(h:Qx f n=aN):∀j,j<n->f j=false:=by
 unfold Qx at h;rw[List.find?_eq_none] at h;intro j a;have:=h j (BP.2 a);simpa using this
def Cj{f:Nat->Bool}{n:Nat}(h:Qx f n=some i):i<n/\f i=true:=by
 unfold Qx at h;exact⟨BP.1 (List.mem_of_find?_eq_some h),List.find?_some h⟩
def Zza(S:List Nat)(use n:Nat)(a:List Nat × Nat):List Nat × Nat:=match Qx (U2 S use a.2) n with
 | none=>a
 | some i=>(a.1++[i],a.2 ||| Y6 (i:Int))
def Y4(S:List Nat)(use n k:Nat):List Nat × Nat:=Z3 (Zza S use n) k ([],0)
def Nf(S:List Nat)(use n k:Nat):Y4 S use n (k+1)=Zza S use n (Y4 S use n k):=rfl
def Ly{n:Nat}(h:Qx (U2 S use a.2) n=some i):Zza S use n a=(a.1++[i],a.2 ||| Y6 (i:Int)):=by
 unfold Zza;rw[h]
def Ln{n:Nat}(h:Qx (U2 S use a.2) n=aN):Zza S use n a=a:=by
 unfold Zza;rw[h]
def Nm(b:List Bool):Nat:=Jb (λi=>b.getD i false) b.length
structure Prd where
 L:ByteArray
 rt:List ByteArray
 P:ByteArray
def Xe{cs c:List Value}{n:Nat}(b:(Q cs)=n*m)(a:j<n)(hi:i<m):(cs++c)[j*m+i]? = cs[j*m+i]? := by
 have:j*m+i<(Q cs):=by
  rw[b]
  calc j*m+i<j*m+m:=AA
   _=(j+1)*m:=by rw[Nat.succ_mul]
   _<=n*m:=Es _ a
 rw[DF this]
def Y7{cs a:List Value}{n:Nat}(b:(Q cs)=n*m):(cs++a)[n*m+i]? = a[i]? := by
 rw[BX AA];congr 1;omega
def H4{l:List α}{x y:α}(h:(l++[x])[j]? = some y):(j<(Q l)/\l[j]? = some y)\/(j=(Q l)/\x=y):=by
 rcases BD j (Q l) with b | c
 ·exact .inl ⟨b,by rwa [DF b] at h⟩
 rw[BX c] at h;have d:j<(l++[x]).length:=by
  rcases BD j (l++[x]).length with a | a
  ·exact a
  simp only[AU,CW] at a;rw[BE AG] at h;cases h
 simp at d;obtain rfl:j=(Q l):=AA
 simp at h;exact .inr ⟨rfl,h⟩
def Gi(cs:List Value)(ss:List ByteArray):Prop:=cs.length=ss.length*2/\∀(j:Nat) (s:ByteArray),ss[j]? = some s->cs[j*2+0]? = some (aS s)/\∃x y,cs[j*2+1]? = some (.complex .f64 x y)
def V1(h:GH):Value := K h.a1 h.n1 h.c1
def V2(h:GH):Value := K h.a2 h.n2 h.c2
def V3(h:GH):Value := K h.a3 h.n3 h.c3
def J8(p:Nat)(h:GH)(k:Nat):Prop:=k=p\/(V1 h).ownBlock=some k\/(V2 h).ownBlock=some k\/(V3 h).ownBlock=some k
def Da(u v:Value):Prop:=∀b,u.ownBlock=some b->v.ownBlock=some b->False
def Q0(h:GH):Array Value:=#[V1 h,V2 h,V3 h,aI aJ 0,K none 0 0,aS ⟨#[]⟩,.complex .f64 0 0,aB false,aI aJ 0,.complex .f64 0 0,aI aJ 0]
def U8{b:Bool}:Xj b N ss=true↔∀s∈ss,(0<=s->b=true)/\(s<0->N.getD (Zp s) false=true):=by
 unfold Xj;rw[BG];constructor
 ·intro h s a;have:=h s a;refine⟨λh0=>by rwa [if_pos h0] at this,λh0=>by rwa [if_neg AA] at this⟩
 intro h s a;split
 ·rename_i h0;exact (h s a).1 h0
 rename_i h0;exact (h s a).2 AA
def Zur{t:Int}:t∈Uq ss↔∃s∈ss,s<0/\-1-s=t:=by
 unfold Uq;simp only[CX,List.mem_filter,decide_eq_true_eq];constructor
 ·rintro⟨s,⟨h1,a⟩,b⟩;exact⟨s,h1,a,b⟩
 rintro⟨s,h1,a,b⟩;exact⟨s,⟨h1,a⟩,b⟩
def Vi:List Nat->Nat
 | []=>0
 | x::l=>x+Vi l
def Lx{f g:α->Nat}:∀{l:List α},(∀x∈l,f x=g x)->Vi (l.map f)=Vi (l.map g)
 | [],_=>rfl
 | x::l,h=>by
   show f x+Vi (l.map f)=g x+Vi (l.map g);rw[h x (By ..),Lx λy a=>h y (BN _ a)]
def Mc{f:α->Nat}:∀{l:List α},Vi (l.map f)=0↔∀x∈l,f x=0
 | []=>by simp[Vi]
 | x::l=>by
   show f x+Vi (l.map f)=0↔_;rw[Nat.add_eq_zero_iff,Mc];simp
def Na(l m:List Nat):Vi (l++m)=Vi l+Vi m:=by
 induction l with
 | nil=>simp[Vi]
 | cons x l a=>show x+Vi (l++m)=x+Vi l+Vi m;omega
def Zx(T:Int->Nat->Nat):List Int->Nat->Nat
 | [],n=>if n=0 then 1 else 0
 | s::l,n=>Vi ((List.range (n+1)).map λk=>T s k*Zx T l (n-k))
def forest_zero(T:Int->Nat->Nat)(s:Int)(l:List Int):Zx T (s::l) 0=T s 0*Zx T l 0:=by
 simp[Zx,Vi]
def Uf:∀{l:List Int},Zx T l 0=0↔∃s∈l,T s 0=0
 | []=>by simp[Zx]
 | s::l=>by
   rw[forest_zero,Nat.mul_eq_zero,Uf];simp
def Wp{a:Int->Nat->Nat}:∀{l:List Int} {n:Nat},(∀s∈l,∀k,k<=n->T s k=a s k)->Zx T l n=Zx a l n
 | [],n,_=>rfl
 | s::l,n,h=>by
   unfold Zx;refine Lx λk b=>?_;have f:=BP.1 b;rw[h s (By ..) k AA,Wp λq c j d=>h q (BN _ c) j AA]
def Zzb{c:Int->Nat->Nat}:∀{l:List Int} {n:Nat},(∀s∈l,∀k,k<n->T s k=c s k)->
 (∀(p:Nat) s,l[p]? = some s->(∀(q:Nat) b,q≠p->l[q]? = some b->T b 0≠0)->T s n=c s n)->(n=0->∀s∈l,T s 0=0->c s 0=0)->Zx T l n=Zx c l n:=by
 intro l n;rcases BW n with rfl | z
 ·intro _ g y;by_cases d:∃s∈l,T s 0=0
  ·rw[Uf.2 d];obtain⟨s,o,h0⟩:=d;exact (Uf.2 ⟨s,o,y rfl s o h0⟩).symm
  refine Wp λs o k u=>?_;obtain rfl:k=0:=AA
  obtain⟨p,r⟩:=BQ o;exact g p s r λq b _ a h0=>d ⟨b,AM a,h0⟩
 intro h1 g _
 induction l with
 | nil=>rfl
 | cons s l B =>
   unfold Zx;refine Lx λk u=>?_;have C:=BP.1 u;have t:∀q∈s::l,T q 0=c q 0:=λq a=>h1 q a 0 z;rcases BW k with rfl | D
   ·rw[<-t s (By ..)];by_cases x:T s 0=0
    ·rw[x,Nat.zero_mul,Nat.zero_mul]
    rw[Nat.sub_zero,B (λq a=>h1 q (BN _ a)) (λp q r A=>g (p+1) q (by simpa using r) λj b m f=>?_) (λh=>absurd h AA)];cases j with
    | zero=>simp at f;rw[<-f];exact x
    | succ j=>exact A j b AA (by simpa using f)
   rcases BD k n with v | v
   ·rw[h1 s (By ..) k v,Wp λq a j m=>h1 q (BN _ a) j AA]
   obtain rfl:k=n:=AA
   rw[Nat.sub_self];have e:Zx T l 0=Zx c l 0:=Wp λq a j m=>by
    obtain rfl:j=0:=AA
    exact t q (BN _ a)
   by_cases d:∃q∈l,T q 0=0
   ·rw[<-e,Uf.2 d,Nat.mul_zero,Nat.mul_zero]
   rw[<-e,g 0 s rfl λj b m f h0=>?_];cases j with
   | zero=>exact m rfl
   | succ j=>exact d ⟨b,AM (by simpa using f),h0⟩
def K0(n:Nat):Nat:=if n=1 then 1 else 0
def fuelN(n:Nat):Nat:=n*4294967296+4294967297
def fuelN_succ(n:Nat):∃f,fuelN n=f+1/\n*4294967296+4294967296<=f:=⟨n*4294967296+4294967296,rfl,AJ _⟩
def fuelN_le(n:Nat):n*4294967296+4294967296<=fuelN n:=DO _
def My(l:List Nat):Nat:=l.foldl (λs (i:Nat)=>s ||| Y6 (i:Int)) 0
def Zzd(l:List Nat)(i:Nat):My (l++[i])=My l ||| Y6 (i:Int):=by simp[My]
def Yk(tab:Nat->Nat->Nat)(s:Int)(n:Nat):Nat:=if 0<=s then K0 n else tab n (Zp s)
def U6(tab:Nat->Nat->Nat)(m i v:Nat):Nat->Nat->Nat:=λk j=>if k=m/\j=i then v else tab k j
def Fr(h:s<0):-1-((Zp s:Nat):Int)=s:=by unfold Zp;omega
def nonI_of(i:Nat):Zp (-1-(i:Int))=i:=by unfold Zp;omega
def val:List Nat->Nat
 | []=>0
 | x::t=>x+4294967296*val t
def Lim(xs:List Nat):Prop:=∀x∈xs,x<4294967296
def Ft:Nat->Nat->List Nat
 | 0,_=>[]
 | f+1,n=>if n=0 then [] else n % 4294967296::Ft f (n / 4294967296)
def Zq3(n:Nat):List Nat:=Ft (n.log2+1) n
def Xx(xs:List Nat):List Nat:=(xs.reverse.dropWhile (·==0)).reverse
def Zm(xs:List Nat):Bool:=decide (xs.length<=32)&&(decide (xs.length=0) || xs.getD (xs.length-1) 0 != 0)
def big:Nat:=2 ^ 1024
def Zwf:big=4294967296 ^ 32:=by unfold big;decide +kernel
attribute [irreducible] big
def Lim.cons{t:List Nat}(h:Lim (x::t)):x<4294967296/\Lim t :=
 ⟨h x AE,λy a=>h y (by simp[a])⟩
def Lim.mk{t:List Nat}(h:x<4294967296)(b:Lim t):Lim (x::t):=λy a=>by
 rcases BY.1 a with rfl | a
 ·exact h
 exact b y a
def Lim.append(h:Lim xs)(b:Lim ys):Lim (xs++ys):=λy a=>by
 rcases DB.1 a with a | a
 ·exact h y a
 exact b y a
def Lim.drop(h:Lim xs)(k:Nat):Lim (xs.drop k):=λy a=>h y (List.mem_of_mem_drop a)
def Lim.of_get(h:Lim xs)(a:xs[j]? = some x):x<4294967296:=h x (AM a)
def Lim.getD(h:Lim xs)(j:Nat):xs.getD j 0<4294967296:=by
 rw[AO];cases a:xs[j]? with
 | none=>simp
 | some x=>simpa using h.of_get a
def Ny(xs ys:List Nat):val (xs++ys)=val xs+4294967296 ^ (Q xs)*val ys:=by
 induction xs with
 | nil=>simp[val]
 | cons x t a =>
   simp only[DL,val,a,AY,Nat.pow_succ,DK];rw[<-DT,Ef 4294967296 (4294967296 ^ (Q t))];omega
def Wf(xs:List Nat)(x:Nat):val (xs++[x])=val xs+4294967296 ^ (Q xs)*x:=by
 rw[Ny];simp[val]
def Ui(xs:List Nat)(h:Lim xs):val xs<4294967296 ^ (Q xs):=by
 induction xs with
 | nil=>simp[val]
 | cons x t a =>
   have:=a h.cons.2;have:=h.cons.1;simp only[val,AY,Nat.pow_succ];omega
def Zth(n:Nat):n<4294967296 ^ (n.log2+1):=by
 have h1:n<2 ^ (n.log2+1):=Nat.lt_log2_self;have a:(2:Nat) ^ (n.log2+1)<=4294967296 ^ (n.log2+1):=Nat.pow_le_pow_left AC _;omega
def Mo(xs:List Nat):Prop:=∀ys x,xs=ys++[x]->x≠0
def Fv(xs:List Nat)(b:Mo xs)(h:val xs=0):xs=[]:=by
 rcases List.eq_nil_or_concat xs with rfl | ⟨ys,x,rfl⟩
 ·rfl
 rw[List.concat_eq_append] at *;have:=b ys x rfl;rw[Wf] at h;have a:0<4294967296 ^ (Q ys):=Nat.pow_pos AC;have:0<4294967296 ^ (Q ys)*x:=Nat.mul_pos a AA;omega
def L4(xs:List Nat):Xx (xs++[0])=Xx xs:=by simp[Xx]
def Zxh(xs:List Nat)(x:Nat)(h:x≠0):Xx (xs++[x])=xs++[x]:=by simp[Xx,h]
def Xm(n:Nat):List Nat × Nat:=if n<big then (Zq3 n,0) else ([],2)
def Mu(xs ys:List Nat):List Nat × Nat:=if Zm xs&&Zm ys then Xm (val xs+val ys) else ([],1)
def N9(xs ys:List Nat):List Nat × Nat:=if Zm xs&&Zm ys then Xm (val xs*val ys) else ([],1)
def V4(xs ys:List Nat):Nat->List Nat × Nat
 | 0=>([],0)
 | i+1 =>
   let p:=V4 xs ys i
   let s:=xs.getD i 0+ys.getD i 0+p.2
   (p.1++[s % 4294967296],s / 4294967296)
def Mq(xs ys:List Nat)(i:Nat):(V4 xs ys i).1.length=i:=by
 induction i with
 | zero=>rfl
 | succ i a=>simp[V4,a]
def Lg(xs ys:List Nat)(a:Lim xs)(b:Lim ys)(i:Nat):(V4 xs ys i).2<=1:=by
 induction i with
 | zero=>simp[V4]
 | succ i d =>
   have h1:=a.getD i;have c:=b.getD i;simp only[V4];omega
def Uy(N:List Bool)(l:List Int):Nat:=l.countP λs=>!Xg N s
def lowN_cons(N:List Bool)(s:Int)(l:List Int):Uy N (s::l)=Uy N [s]+Uy N l:=by
 unfold Uy;rw[List.countP_cons,List.countP_cons,List.countP_nil];omega
def Zsr(N:List Bool)(s:Int):Uy N [s]=if Xg N s then 0 else 1:=by
 unfold Uy;rw[List.countP_cons,List.countP_nil];cases Xg N s <;> rfl
def Kn(a:∀s,T s 0≠0->Xg N s=true):∀{l:List Int} {n:Nat},n<Uy N l->Zx T l n=0
 | [],n,h=>by simp[Uy] at h
 | s::l,n,h=>by
   unfold Zx;rw[Mc];intro k b;have d:=BP.1 b;rw[lowN_cons,Zsr] at h;rw[Nat.mul_eq_zero];by_cases h0:Xg N s=true
   ·rw[if_pos h0] at h;exact .inr (Kn a AA)
   rw[if_neg h0] at h;rcases BW k with rfl | f
   ·left;apply DU;intro c;exact h0 (a s c)
   exact .inr (Kn a AA)
def sum_cut{f:Nat->Nat}:∀{n hi:Nat},hi<=n->(∀k,k<b->f k=0)->(∀k,hi<=k->k<n->f k=0)->Vi ((List.range n).map f)=Vi ((List.range (hi-b)).map λd=>f (b+d)):=by
 have l:∀(m:Nat),Vi ((List.range (m+1)).map f)=Vi ((List.range m).map f)+f m:=λm=>by
  rw[DP,DI,Na];simp[Vi]
 have p:∀(m:Nat),Vi ((List.range (m+1)).map λd=>f (b+d))=Vi ((List.range m).map λd=>f (b+d))+f (b+m):=λm=>by
  rw[DP,DI,Na];simp[Vi]
 intro n hi o h1 j;have a:∀m,hi+m<=n->Vi ((List.range (hi+m)).map f)=Vi ((List.range hi).map f):=by
  intro m
  induction m with
  | zero=>intro _;rfl
  | succ m g =>
    intro q;rw[show hi+(m+1)=(hi+m)+1 by omega,l,g AA,j (hi+m) AA AA,DN]
 have e:n=hi+(n-hi):=AA
 rw[e,a (n-hi) AA];clear a e o j;rcases Nat.le_total hi b with h | h
 ·rw[show hi-b=0 by omega];show _=0;rw[Mc];intro k c;exact h1 k (by have:=BP.1 c;omega)
 obtain⟨d,rfl⟩:=Nat.exists_eq_add_of_le h;rw[Nat.add_sub_cancel_left]
 induction d with
 | zero =>
   rw[DN];show _=0;rw[Mc];intro k c;exact h1 k (BP.1 c)
 | succ d g=>rw[<-DY,l,p,g AA]
def forest_split(b:∀s,T s 0≠0->Xg N s=true)(s:Int)(l:List Int)(n:Nat):
 Zx T (s::l) n=Vi ((List.range (n+1-Uy N l-Uy N [s])).map λd=>T s (Uy N [s]+d)*Zx T l (n-(Uy N [s]+d))):=by
 show Vi ((List.range (n+1)).map λk=>T s k*Zx T l (n-k))=_;refine sum_cut (f:=λk=>T s k*Zx T l (n-k)) (n:=n+1) (hi:=n+1-Uy N l) AA (λk a=>?_) λk a g=>?_
 ·rw[Zsr] at a;split at a
  ·omega
  rename_i h0;obtain rfl:k=0:=AA
  show T s 0*_=0;rw[Nat.mul_eq_zero];left;apply DU;intro c;exact h0 (b s c)
 show T s k*_=0;rw[Kn b AA,Nat.mul_zero]
def Vk(n:Nat):List Nat × Bool:=if n<big then (Zq3 n,false) else ([],true)
def Z7{n:Nat}(h:n<big):Vk n=(Zq3 n,false):=if_pos h
def Wl{n:Nat}(h:¬n<big):Vk n=([],true):=if_neg h
def Nr(f:Nat->Nat)(m:Nat):Vi ((List.range (m+1)).map f)=Vi ((List.range m).map f)+f m:=by
 rw[DP,DI,Na];simp[Vi]
def Hw(T:Int->Nat->Nat)(s:Int)(now:Nat->Nat)(K m:Nat):Nat:=Vi ((List.range (min K (m+1))).map λk=>T s k*now (m-k))
def Ah(T:Int->Nat->Nat)(s:Int)(now:Nat->Nat){K:Nat}(h:K<=m):Hw T s now (K+1) m=Hw T s now K m+T s K*now (m-K):=by
 unfold Hw;rw[show min (K+1) (m+1)=K+1 by omega,show min K (m+1)=K by omega,Nr]
def Zun(T:Int->Nat->Nat)(s:Int)(now:Nat->Nat){K:Nat}(h:m<K):Hw T s now (K+1) m=Hw T s now K m:=by
 unfold Hw;rw[show min (K+1) (m+1)=m+1 by omega,show min K (m+1)=m+1 by omega]
def accF_all{K:Nat}(h:m<K):Hw T s (Zx T l) K m=Zx T (s::l) m:=by
 unfold Hw;rw[show min K (m+1)=m+1 by omega];rfl
def accF_zero(T:Int->Nat->Nat)(s:Int)(now:Nat->Nat)(m:Nat):Hw T s now 0 m=0:=by simp[Hw,Vi]
def D5(T:Int->Nat->Nat)(s:Int)(now:Nat->Nat)(n K:Nat):List Nat:=(List.range (n+1)).map (Hw T s now K)
def Gx(T:Int->Nat->Nat)(s:Int)(now:Nat->Nat)(n K M:Nat):List Nat:=(List.range (n+1)).map λm=>if m<M then Hw T s now (K+1) m else Hw T s now K m
def J2(T:Int->Nat->Nat)(s:Int)(now:Nat->Nat)(n K M:Nat):(Gx T s now n K M).length=n+1:=by simp[Gx]
def rowF_zero(T:Int->Nat->Nat)(s:Int)(now:Nat->Nat)(n:Nat):D5 T s now n 0=List.replicate (n+1) 0:=by
 refine List.ext_getElem? λj=>?_;rw[List.getElem?_replicate];unfold D5;rw[BB];by_cases a:j<n+1
 ·rw[List.getElem?_range a,if_pos a,Ei,accF_zero]
 rw[BE (by simpa using a),if_neg a];rfl
def Zvo(T:Int->Nat->Nat)(s:Int)(now:Nat->Nat)(n K:Nat):Gx T s now n K K=D5 T s now n K:=by
 unfold Gx D5;refine List.map_congr_left λm _=>?_;split
 ·rename_i h;exact Zun T s now h
 rfl
def mid_end(T:Int->Nat->Nat)(s:Int)(now:Nat->Nat)(n K:Nat):Gx T s now n K (n+1)=D5 T s now n (K+1):=by
 unfold Gx D5;refine List.map_congr_left λm a=>?_;rw[if_pos (BP.1 a)]
def mid_skip(now:Nat->Nat)(n:Nat){K:Nat}(h:T s K=0):D5 T s now n (K+1)=D5 T s now n K:=by
 unfold D5;refine List.map_congr_left λm _=>?_;rcases BD m K with a | a
 ·exact Zun T s now a
 rw[Ah T s now a,h,Nat.zero_mul,DN]
def mid_get(T:Int->Nat->Nat)(s:Int)(now:Nat->Nat){n K M:Nat}(a:M<=n):(Gx T s now n K M).getD M 0=Hw T s now K M:=by
 unfold Gx;rw[AO,BB,List.getElem?_range AA,Ei,Option.getD_some,if_neg AA]
def Gs(T:Int->Nat->Nat)(l:List Int)(n:Nat):List Nat:=(List.range (n+1)).map (Zx T l)
def Zwg(T:Int->Nat->Nat)(l:List Int)(n:Nat):(Gs T l n).length=n+1:=by simp[Gs]
def Zy6(T:Int->Nat->Nat)(l:List Int){n:Nat}(h:m<=n):(Gs T l n).getD m 0=Zx T l m:=by
 unfold Gs;rw[AO,BB,List.getElem?_range AA];rfl
def rowF_done(T:Int->Nat->Nat)(s:Int)(l:List Int)(n:Nat):D5 T s (Zx T l) n (n+1)=Gs T (s::l) n:=by
 unfold D5 Gs;refine List.map_congr_left λm a=>?_;have:=BP.1 a;exact accF_all AA
def low_zero(h:Uy N l=0):∀s∈l,Xg N s=true:=by
 intro s a;unfold Uy at h;rw[List.countP_eq_zero] at h;have:=h s a;simpa using this
def Jt(T:Int->Nat->Nat)(s:Int)(l:List Int)(n a d:Nat):Nat:=Vi ((List.range d).map λe=>T s (a+e)*Zx T l (n-(a+e)))
def Gm(T:Int->Nat->Nat)(s:Int)(l:List Int)(n a d:Nat):Jt T s l n a (d+1)=Jt T s l n a d+T s (a+d)*Zx T l (n-(a+d)):=by
 unfold Jt;rw[Nr (λe=>T s (a+e)*Zx T l (n-(a+e)))]
def splitN_all(a:∀s,T s 0≠0->Xg N s=true)(s:Int)(l:List Int)(n:Nat):Jt T s l n (Uy N [s]) (n+1-Uy N l-Uy N [s])=Zx T (s::l) n:=(forest_split a s l n).symm
def Mg{e n c:Nat}{xs:List Value}(h:w.ownsRow base e size (K A n c) n xs)(d:(K A n c).ownBlock=some b):∃cs f,w.heap[b]? = some (aC cs e f):=by
 rcases h.2 with ⟨a,rfl⟩ | ⟨g,cap,k,a,l,j,p,m,o,q⟩
 ·injection a with h1 h2 h3;subst h1;cases d
 injection a with h1 h2 h3;subst h1;have:g=b:=by simpa [Value.ownBlock] using d
 subst this;exact⟨_,_,j⟩
def Fe{e n c base' p:Nat}{f:Option Addr}{xs q:List Value}(h:w.ownsRow base e size (K A n c) n xs)(k:w.ownsRow base' j p (K f d g) d q)(o:e≠j)(l:(K A n c).ownBlock=some b)(m:(K f d g).ownBlock=some b):False:=by
 obtain⟨cs,s,h1⟩:=Mg h l;obtain⟨r,t,a⟩:=Mg k m;rw[h1] at a;injection a with a;injection a with _ h3 _;exact o h3
def noH:GH:=⟨none,0,0,none,0,0,none,0,0⟩
def ofN_one(n:Int):ofN [n]=Y6 n:=by simp[ofN]
def Zwl(W:World)(a g n:Nat)(N:List Bool):Prop:=W.cell? ⟨a,0,none⟩=some (K (some ⟨g,0,none⟩) n n)/\∀i,i<n->W.cell? ⟨g,i,none⟩=some (aB (N.getD i false))
def zeros_lim(n:Nat):Lim (List.replicate n 0):=λy a=>by
 have:=List.eq_of_mem_replicate a;omega
def zeros_val(n:Nat):val (List.replicate n 0)=0:=by
 induction n with
 | zero=>rfl
 | succ n a=>simp[List.replicate_succ,val,a]
def Zw2:Vk 1=([1],false):=by
 have h1:(1:Nat)<big:=by
  unfold big;generalize a:(1024:Nat)=k;exact Nat.one_lt_two_pow AA
 rw[Z7 h1];rfl
def Ztr(N:List Bool)(l:List Int):Uy N l<=(Q l):=List.countP_le_length
def Yv(T:Int->Nat->Nat)(s:Int)(l:List Int)(n k:Nat):Nat:=Vi ((List.range k).map λj=>T s j*Zx T l (n-j))
def Zvk{b:List Int}(h:l.drop d=s::b):l[d]? = some s/\b=l.drop (d+1)/\d<(Q l):=by
 have a:d<(Q l):=by
  rcases BD d (Q l) with h1 | h1
  ·exact h1
  rw[List.drop_eq_nil_of_le h1] at h;cases h
 rw[Eb a] at h;injection h with h1 h2;exact⟨by rw[AL a,h1],h2.symm,a⟩
def and_one(c:Nat)(d:c<4294967296)(j:Nat):c &&& Y6 (j:Int)=if c.testBit j then Y6 (j:Int) else 0:=by
 apply Nat.eq_of_testBit_eq;intro t;rw[Nat.testBit_and];cases b:c.testBit j
 ·rw[if_neg AC,Nat.zero_testBit,Uv];by_cases a:t=j
  ·subst a;simp[b]
  simp[a]
 rw[if_pos rfl,Uv];by_cases a:t=j
 ·subst a;simp[b]
 simp[a]
def tab22A(k i:Nat):Nat:=[0,1,1,2,5].getD k 0
def same_stepN(h:(Q xs)=(Q ys))(hd:∀j,j<(Q xs)->xs.getD j 0=ys.getD j 0):xs=ys:=by
 apply List.ext_getElem h;intro j h1 a;have:=hd j h1;simpa [AL h1,AL a] using this
def X8(xs:List Nat)(h:Zm xs=true):Mo xs:=by
 intro b x a;subst a;simp[Zm] at h;exact h.2
def Mw(xs a:List Nat):List Nat × Nat :=
 if Zm xs&&Zm a then (if val xs<val a then ([],11) else (Zq3 (val xs-val a),0)) else ([],1)
def M2(xs a:List Nat):List Nat × List Nat × Nat :=
 if Zm xs&&Zm a&&a.length != 0 then (Zq3 (val xs / val a),Zq3 (val xs % val a),0) else ([],[],1)
def Zrf(n:Nat)(h:n<18446744073709551616):n<big:=by
 have:18446744073709551616<big:=by rw[Zwf];decide +kernel
 omega
def Xn(xs a:List Nat):Nat->List Nat × Nat
 | 0=>([],0)
 | i+1 =>
   let p:=Xn xs a i
   let s:=4294967296+xs.getD i 0-a.getD i 0-p.2
   (p.1++[s % 4294967296],1-s / 4294967296)
def Mj(xs b:List Nat)(i:Nat):(Xn xs b i).1.length=i:=by
 induction i with
 | zero=>rfl
 | succ i a=>simp[Xn,a]
def Qi(xs a:List Nat)(i:Nat):(Xn xs a i).2<=1:=by
 cases i with
 | zero=>simp[Xn]
 | succ i=>simp only[Xn];omega
def Qu(xs g:List Nat)(b:Lim xs)(f:Lim g)(ty:Mo g)(h:(Q xs)<(Q g)):val xs<val g:=by
 have h1:=Ui xs b;rcases List.eq_nil_or_concat g with rfl | ⟨a,z,rfl⟩
 ·simp at h
 rw[List.concat_eq_append] at *;have h0:=ty a z rfl;simp at h;have c:(4294967296:Nat) ^ (Q xs)<=4294967296 ^ (Q a):=CV AC AA;have d:4294967296 ^ (Q a)*1<=4294967296 ^ (Q a)*z:=Eg _ AA;rw[Wf];omega
def Zsa(a xs:List Nat)(k x:Nat)(b:(Q a)=k)(c:xs[k]? = some x):(a++xs.drop k)[k]? = some x:=by
 subst b;rw[BX (AJ _),Nat.sub_self,DX,DN,c]
def Km{n:Nat}(h:n<big):Xm n=(Zq3 n,0):=by simp[Xm,h]
def twP(xs:List Nat)(bit:Nat):Nat->List Nat × Nat
 | 0=>([],bit)
 | k+1 =>
   let p:=twP xs bit k
   let s:=2*xs.getD k 0+p.2
   (p.1++[s % 4294967296],s / 4294967296)
def Zye(xs:List Nat)(b k:Nat):(twP xs b k).1.length=k:=by
 induction k with
 | zero=>rfl
 | succ k a=>simp[twP,a]
def Ae(xs:List Nat)(b:Nat)(a:b<=1)(c:Lim xs)(k:Nat):(twP xs b k).2<=1:=by
 induction k with
 | zero=>simpa [twP] using a
 | succ k d =>
   have:=c.getD k;simp only[twP];omega
def zz_lim(n:Nat):Lim (List.replicate n 0):=λx a=>by
 have:=List.eq_of_mem_replicate a;omega
def zz_val(n:Nat):val (List.replicate n 0)=0:=by
 induction n with
 | zero=>rfl
 | succ n a=>simp[List.replicate_succ,val,a]
def Zsx:0<big:=by unfold big;generalize 1024=k;exact Nat.two_pow_pos k
def non22:Zp (-1)=0:=AC
def big_eq2:big=2 ^ (1023+1):=by unfold big;decide +kernel
def Zrx(k:Nat)(a:List Nat):Nat->List Nat
 | 0=>[]
 | i+1=>Zrx k a i++[if k<32*i+32 then a.getD i 0 % 2 ^ (k-32*i) else a.getD i 0]
def oneOf(k:Nat)(a:List Nat):List Nat:=Zq3 (val a % 2 ^ k)
def one_big(k t:Nat)(b:k<=1024):t % 2 ^ k<big:=by
 have h1:=Nat.mod_lt t (Nat.two_pow_pos k);have a:=CV (n:=2) AC (show k<=1023+1 by omega);rw[<-big_eq2] at a;exact AK h1 a
def ahead24(h0:T (-1) 0=0)(h1:T (-1) 1=1)(a:T (-1) 2=1)(b:T (-1) 3=2)(c:T 0=K0):
 Yv T (-1) [-1] 4 3=3/\Yv T (-1) [-1] 4 1=0/\Zx T [-1] 1=1/\Yv T (-1) [] 3 3=0:=by
 refine⟨?_,?_,?_,?_⟩;all_goals simp[Yv,Zx,Vi,List.range,List.range.loop,h0,h1,a,b]
def limD{a:List Nat}(h:a.all (λx=>decide (x<4294967296))=true):Lim a:=λx b=>by
 have:=BG.1 h x b;simpa using this
section
open Go.RowKit Go.Shelf
attribute [local go_sem] Oper.semAt_some
def values1_none(n:Nat)(l a cap:Nat)(A:Option Addr)(J:List ByteArray->World->Prop)(W:World)(f:W.cell? ⟨a,0,aN⟩=some (K A 0 cap))(c:J [] W):
 CallsIn Fence.wide n prog 193 #[.func (.yield l) #[] #[],aP (some ⟨a,0,aN⟩)] W λe b=>(∃v,e = aR v)/\J [] b:=by
 refine callsIn_of_wp func193 rfl trivial ?_ rfl;simp only[ntmps193,List.size_toArray,AY,DE,Nat.reduceAdd,Nat.reduceSub,Array.replicate_succ,Array.replicate_zero,List.push_toArray,List.append_toArray,DA,DL]
 gi_wp2
 gi_loopw [7] (λi wr=>i = aI aJ 0/\J [] wr) (λ_ _=>0)
 case atStart=>exact⟨rfl,c⟩
 obtain⟨rfl,d⟩:=hrel
 gi_wp2
 go_end0
 exact⟨⟨_,rfl⟩,d⟩
end
section
open Go.RowKit Go.Shelf
attribute [local go_sem] Oper.semAt_some
open Go.RowKit Go.Shelf Go.Sort
def Lr{p:Nat->α->Bool}{l:List α}{k:Nat}{x:α}(h:∀j,j<k->∀y,l[j]? = some y->(!p j y)=false)(d:l[k]? = some x)(c:(!p k x)=false):∀j,j<k+1->∀y,l[j]? = some y->(!p j y)=false:=by
 intro j g y a;rcases BD j k with b | f
 ·exact h j b y a
 obtain rfl:j=k:=AA
 rw[d] at a;injection a with a;rw[<-a];exact c
end
section
open Go.RowKit Go.Maps
def law3:Keyed prog 3:=int_keyed underlying3
def zero3(w:World):(zeroValue 3).run prog w = .ok (aI aJ 0) w:=AB
theorem Zud(L:Int):WideAt.IsKeyLit (.int .i64 L):=trivial
def Blk(w:World)(g:Nat)(t:TypeId)(cs:Array Value):Prop:=w.heap[g]? = some (aC cs t (0,0))
def Blk.set{t:TypeId}(h:Blk w g t cs)(i:Nat)(v:Value):Blk (w.setCell ⟨g,i,aN⟩ v) g t (cs.setIfInBounds i v):=by
 unfold Blk at h ⊢;simp[World.setCell,Array.getElem?_modify,h]
def Blk.other{t:TypeId}(h:Blk w g t cs)(a i:Nat)(v:Value)(b:g≠a):Blk (w.setCell ⟨a,i,aN⟩ v) g t cs:=(Ea w ⟨a,i,aN⟩ v g b).trans h
def Blk.drew{t:TypeId}(h:Blk w g t cs):Blk w.drew g t cs:=h
def Qk(N:List Bool):List Value:=N.map aB
def Z8(w:World)(g:Nat)(N:List Bool):Prop:=Blk w g 4 (Qk N).toArray
def Z8.put(h:Z8 w g N)(i:Nat)(b:Bool):Z8 (w.setCell ⟨g,i,aN⟩ (aB b)) g (N.set i b):=by
 have:=Blk.set h i (aB b);unfold Z8;rwa [show (Qk (N.set i b)).toArray=(Qk N).toArray.setIfInBounds i (aB b) by simp[Qk,List.map_set]]
def Vy{n:Nat}(a:s<0)(b:-(n:Int)<=s)(c:n<=1000):∃j:Nat,j<n/\Zp s=j/\IntKind.i64.wrap (-1-s)=(j:Int) :=
 ⟨Zp s,by unfold Zp;omega,rfl,by rw[BZ _ AA];unfold Zp;omega⟩
end
def Jz(N:List Bool)(ids:List Int):List Bool:=ids.foldl (λN s=>N.set s.toNat true) N
def Zw9(N:List Bool)(l:List Int)(s:Int):Jz N (l++[s])=(Jz N l).set s.toNat true:=by simp[Jz]
def LeB.set(a:List Bool)(i:Nat):LeB a (a.set i true):=⟨AE,λj b=>by
 rw[List.getElem?_set];split
 ·rename_i c;subst c;simp[(AN.1 b).1]
 exact b⟩
def getD_set_true(h:N.getD i false=true):(N.set j true).getD i false=true:=by
 rw[AO] at h ⊢;cases a:N[i]? with
 | none=>rw[a] at h;simp at h
 | some x =>
   rw[a] at h;simp at h;subst h;have:=(LeB.set N j).2 i a;rw[this];rfl
def Zuy(l:List Int)(h:N.getD i false=true):(Jz N l).getD i false=true:=by
 induction l generalizing N with
 | nil=>exact h
 | cons s l a=>exact a (getD_set_true h)
def Uh(N:List Bool)(j i:Nat):(N.set j true).getD i false=true↔(N.getD i false=true\/(i=j/\j<(Q N))):=by
 rw[AO,AO,List.getElem?_set];by_cases a:j=i
 ·subst a;by_cases b:j<(Q N)
  ·simp[b]
  simp[b,BE (show (Q N)<=j by omega)]
 rw[if_neg a];constructor
 ·exact .inl
 rintro (h | ⟨h,_⟩)
 ·exact h
 exact absurd h.symm a
def thereOf_set{b:List Bool}(hi:i<(Q b)):Nm (b.set i true)=Nm b ||| Y6 (i:Int):=by
 apply Nat.eq_of_testBit_eq;intro t;unfold Nm;rw[DR,J3,J3,Uv,List.length_set,Cc];simp only[AS,Cs,decide_eq_true_eq,Uh];constructor
 ·rintro⟨d,a,c | ⟨c,_⟩⟩
  ·exact .inl ⟨d,a,c⟩
  exact .inr ⟨AA,c⟩
 rintro (⟨d,a,c⟩ | ⟨d,a⟩)
 ·exact⟨d,a,.inl c⟩
 exact⟨AA,AA,.inr ⟨a,hi⟩⟩
def Dn(S:List Nat)(use n:Nat)(b:List Bool):List Bool:=match Qx (U2 S use (Nm b)) n with
 | none=>b
 | some i=>b.set i true
def Zzg(S:List Nat)(use n:Nat):Qv (Dn S use n):=by
 refine⟨λb=>?_,λb i h=>?_⟩
 ·unfold Dn;split <;> simp
 unfold Dn;split
 ·exact h
 have c:=(AN.1 h).1;rw[List.getElem?_set];split
 ·rename_i a;subst a;simp[c]
 exact h
def Zxo:∀(l:List Int) {N:List Bool} {s:Int},s∈l->s.toNat<(Q N)->(Jz N l).getD s.toNat false=true
 | q::l,N,s,a,hl=>by
   rcases BY.1 a with rfl | a
   ·exact Zuy l ((Uh N s.toNat s.toNat).2 (.inr ⟨rfl,hl⟩))
   exact Zxo l (N:=N.set q.toNat true) a (by simpa using hl)
def Zy9(X:Nat->Prop):∀(ids:List Int),(∀t∈ids,X t.toNat)->∀{N:List Bool},(∀i,N.getD i false=true->X i)->∀i,(Jz N ids).getD i false=true->X i
 | [],_,N,hN,i,h=>hN i h
 | t::ids,hX,N,hN,i,h=>by
   refine Zy9 X ids (λq b=>hX q (BN _ b)) (N:=N.set t.toNat true) (λj a=>?_) i h;rcases (Uh _ _ _).1 a with a | ⟨rfl,_⟩
   ·exact hN j a
   exact hX t (By ..)
def mid_set(T:Int->Nat->Nat)(s:Int)(now:Nat->Nat){n K M:Nat}(c:M<=n):(Gx T s now n K M).set M (Hw T s now (K+1) M)=Gx T s now n K (M+1):=by
 refine List.ext_getElem? λj=>?_;rw[List.getElem?_set,J2];by_cases b:j<n+1
 ·have e:∀q,(Gx T s now n K q)[j]? = some (if j<q then Hw T s now (K+1) j else Hw T s now K j):=λq=>by
   unfold Gx;rw[BB,List.getElem?_range b];rfl
  rw[e,e];split
  ·rename_i a;subst a;rw[if_pos AA,if_pos AA]
  rename_i a;by_cases h:j<M
  ·rw[if_pos h,if_pos AA]
  rw[if_neg h,if_neg AA]
 have e:∀q,(Gx T s now n K q)[j]? = aN:=λq=>BE (by rw[J2];omega);rw[e,e];split
 ·rename_i a;rw[if_neg AA]
 rfl
def forR_nil(T:Int->Nat->Nat)(n:Nat):Gs T [] n=(List.replicate (n+1) 0).set 0 1:=by
 refine List.ext_getElem? λj=>?_;rw[List.getElem?_set,Ee,List.getElem?_replicate];unfold Gs;rw[BB];by_cases a:j<n+1
 ·rw[List.getElem?_range a,if_pos a,Ei];unfold Zx;by_cases h0:0=j
  ·subst h0;rw[if_pos rfl,if_pos rfl,if_pos a]
  rw[if_neg h0,if_neg (λh=>h0 h.symm)]
 rw[BE (by simpa using a),if_neg a,if_neg AA];rfl
def Zsz(a g n:Nat)(N:List Bool)(s:Int)(W:World)(h:Zwl W a g n N)(o:n<=1000)(h1:-(n:Int)<=s)(p:s<=1000):
 FnGives prog 199 #[aP (some ⟨a,0,aN⟩)] #[aI aJ s] (aB (Xg N s)) W:=by
 show Calls prog 199 #[aI aJ s,aP (some ⟨a,0,aN⟩)] W _;obtain⟨q,d⟩:=h;have l:=LH d;clear d;have k:Xg N s=(decide (s<0)&&N.getD (Zp s) false):=rfl;have c:=LH k;clear k;go_enter func199,ntmps199;by_cases h0:s<0
 ·obtain⟨j,m,f,r⟩:=Vy (s:=s) (n:=n) h0 h1 o;have c0:=l j m;rw[<-f] at c0;have hd:=DV h0;generalize N.getD (Zp s) false=b at *;rw[f] at c0;go_wp2_with fail;go_ret;exact⟨by rw[c,hd];rfl,0,rfl⟩
 have hd:=BV h0;generalize N.getD (Zp s) false=b at *;go_wp2_with fail;go_ret;exact⟨by rw[c,hd];rfl,0,rfl⟩
def Kt{t:TypeId}(a:Blk w g t cs)(b:cs[i]? = some v):w.setCell ⟨g,i,aN⟩ v=w:=by
 have e:(w.setCell ⟨g,i,aN⟩ v).heap=w.heap:=by
  apply Array.ext_getElem?;intro j;by_cases c:j=g
  ·subst c;have h1:=a.set i v;unfold Blk at h1 a;rw[h1,a];have:cs.setIfInBounds i v=cs:=by
    apply Array.ext_getElem?;intro q;rw[Array.getElem?_setIfInBounds];split
    ·rename_i d;subst d;rw[b];split
     ·rfl
     rename_i f;rw[CZ AA] at b;cases b
    rfl
   rw[this]
  exact Ea w ⟨g,i,aN⟩ v j c
 have:w.setCell ⟨g,i,aN⟩ v={ w with heap:=(w.setCell ⟨g,i,aN⟩ v).heap }:=rfl;rw[this,e]
def tab_set{N:Nat}(hi:i<N):((List.range N).map (tab m)).set i x=(List.range N).map (U6 tab m i x m):=by
 refine List.ext_getElem? λj=>?_;rw[List.getElem?_set,BI,List.length_range,BB,BB];by_cases b:j<N
 ·rw[List.getElem?_range b];by_cases a:i=j
  ·subst a;rw[if_pos rfl,if_pos hi];simp[U6]
  rw[if_neg a];show some (tab m j)=some (U6 tab m i x m j);unfold U6;rw[if_neg λh=>a h.2.symm]
 rw[BE (by simpa using b),if_neg AA];rfl
def Blk.same_ty{t b:TypeId}{d f:Array Value}(h:Blk w g t d)(a:Blk w g b f):t=b:=by
 unfold Blk at h a;rw[h] at a;injection a with a;injection a with _ h2 _
def Md(a xs:List Nat)(k s:Nat)(b:(Q a)=k)(c:k<(Q xs)):(a++xs.drop k).set k s=(a++[s])++xs.drop (k+1):=by
 subst b;rw[List.set_append_right _ _ (AJ _),Nat.sub_self,Eb c,List.set_cons_zero];simp
def val_set(a:List Nat)(j t:Nat)(b:j<(Q a)):val (a.set j (a.getD j 0+t))=val a+4294967296 ^ j*t:=by
 induction a generalizing j with
 | nil=>simp at b
 | cons q a c =>
   cases j with
   | zero=>simp[val];omega
   | succ j =>
     have:=c j (by simpa using b);simp only[List.set_cons_succ,List.getD_cons_succ,val,this,Nat.pow_succ,DK];rw[<-DT,Ef 4294967296 (4294967296 ^ j)];omega
section
variable {P:Program}
def leftN(n:Nat)(listed:Array Bool):Nat:=((List.range n).filter λi=>!listed.getD i true).length
def Xc(P:Program)(J:Array Bool->Act->World->Prop):Nat->List Oper->Prop
 | _,[]=>True
 | i,o::rest=>(o.guard=none/\∀(Q:Exit->Act->World->Prop) (listed:Array Bool) (a:Act) (w:World),J listed a w->listed.getD i true=false->(∀e∈o.after,Region.binds .any e=true->listed.getD e.on false=true)->
    ∀K:Act->World->Prop,(∀b w',J (listed.setIfInBounds i true) b w'->K b w')->o.wp P a w K Q)/\Xc P J (i+1) rest
end
section
open Go.Maps (Keyed IsMap Tidy)
def Dc(i:Nat):Lit := .int .i64 (i:Int)
theorem nKey_ne(h:i≠j):Dc i≠Dc j:=by
 unfold Dc;intro e;injection e with _ e;exact h AA
theorem Zt4(i:Nat):WideAt.IsKeyLit (Dc i):=by unfold Dc;trivial
theorem key_num(i:Nat)(hi:i<=1000):keyOf prog 3 (.int .i64 (i:Int))=some (Dc i):=Maps.keyOf_int_mk underlying3 (WalkArith.wf_i64 AA)
def Qf(w:World)(g:Nat):Prop:=∀o k z,w.cell? ⟨g,o,none⟩≠some (aI k z)
def zeroCells(n:Nat):Array Value:=((List.range n).flatMap λ_=>[K none 0 0,aB false]).toArray
def Cl:∀(n j:Nat),j<n->(zeroCells n)[j*2]? = some (K aN 0 0)/\(zeroCells n)[j*2+1]? = some (aB false):=by
 intro n;have a:∀m,((List.range m).flatMap λ_=>[K aN 0 0,aB false]).length=m*2:=by
  intro m
  induction m with
  | zero=>rfl
  | succ m b=>rw[DP,List.flatMap_append,AU,b];simp;omega
 induction n with
 | zero=>intro j c;omega
 | succ n b =>
   intro j c;unfold zeroCells at b ⊢;simp only[DQ] at b ⊢;rw[DP,List.flatMap_append];rcases (AA:j<n\/j=n) with h | rfl
   ·rw[DF (by rw[a];omega),DF (by rw[a];omega)];exact b j h
   rw[BX (by rw[a];omega),BX (by rw[a];omega),a];simp[Nat.add_sub_cancel_left]
def Yg(h:xs[j]? = some x):xs.getD j 0=x:=by simp[h]
def K8(h:(Q xs)<=j):xs.getD j 0=0:=by simp[BE h]
def M8(a:List Nat)(k n s:Nat)(b:(Q a)=k)(c:k<n):(a++List.replicate (n-k) 0).set k s=(a++[s])++List.replicate (n-(k+1)) 0:=by
 subst b;rw[List.set_append_right _ _ (AJ _),Nat.sub_self];have:n-(Q a)=(n-((Q a)+1))+1:=AA
 rw[this,List.replicate_succ,List.set_cons_zero];simp
def Ut(xs:List Nat)(h:Zm xs=true):(Q xs)<=32:=by simp[Zm] at h;omega
def Vn(x:Nat)(ys a:List Nat):Nat->List Nat × Nat
 | 0=>([],0)
 | k+1 =>
   let p:=Vn x ys a k
   let s:=x*ys.getD k 0+a.getD k 0+p.2
   (p.1++[s % 4294967296],s / 4294967296)
def M1(x:Nat)(ys b:List Nat)(k:Nat):(Vn x ys b k).1.length=k:=by
 induction k with
 | zero=>rfl
 | succ k a=>simp[Vn,a]
def Ag{y z c:Nat}(b:x<4294967296)(d:y<4294967296)(f:z<4294967296)(a:c<4294967296):x*y+z+c<18446744073709551616:=by
 have h1:x*y<=4294967295*4294967295:=Nat.mul_le_mul AA AA;omega
def Zy8(x:Nat)(ys a:List Nat)(b:x<4294967296)(c:Lim ys)(d:Lim a)(k:Nat):(Vn x ys a k).2<4294967296:=by
 induction k with
 | zero=>simp[Vn]
 | succ k f =>
   have:=Ag b (c.getD k) (d.getD k) f;simp only[Vn];omega
def Ns(a:List Nat)(j:Nat)(h:∀i,j<=i->a.getD i 0=0):val (a.drop j)=0:=by
 induction a generalizing j with
 | nil=>simp[val]
 | cons b t c =>
   cases j with
   | zero =>
     have h0:=h 0 (AJ _);simp at h0;have:=c 0 (λi _=>by have:=h (i+1) AA;simpa using this);simp[val,h0] at this ⊢;omega
   | succ j =>
     simpa using c j (λi hi=>by have:=h (i+1) AA;simpa using this)
def kT(s:Int)(n:Nat):Value := aG #[aI aJ s,aI aJ (n:Int)]
def kF(i d n:Nat):Value := aG #[aI aJ (i:Int),aI aJ (d:Int),aI aJ (n:Int)]
def kT_inj{b:Int}{n a:Nat}(h:kT s n=kT b a):s=b/\n=a:=by
 unfold kT at h;simp at h;exact⟨h.1,AA⟩
def kF_inj{n a c:Nat}(h:kF i d n=kF b a c):i=b/\d=a/\n=c:=by
 unfold kF at h;simp at h;omega
def Zxw{e n c t:Nat}{xs:List Value}(h:w.ownsRow base e size (K A n c) n xs)(d:(K A n c).ownBlock=some b)(a:Blk w g t cs)(f:t≠e):b≠g:=by
 rintro rfl;obtain⟨j,k,h1⟩:=Mg h d;unfold Blk at a;rw[h1] at a;injection a with a;injection a with _ h3 _;exact f h3.symm
def Cel(S:Nat->Prop)(a:Nat)(X:World)(v:Value)(f:Bool)(j:Value):Prop:=∃(g:Nat) (A:Option Addr) (n c:Nat) (d:Bool),v = aP (some ⟨g,0,none⟩)/\a<g/\S g/\Blk X g 168 #[K A n c,aB d]/\(f=true->j = aG #[K A n c,aB d])
end
section
open Go.Maps (Keyed IsMap Tidy)
variable {P:Program} {k:TypeId}
def litK(P:Program)(k:TypeId)(v:Value):Lit:=(keyOf P k v).getD (.bool false)
def U4(P:Program)(k:TypeId)(v:Value):Prop:=∃l,keyOf P k v=some l
theorem U4.lit(h:U4 P k v):keyOf P k v=some (litK P k v):=by
 obtain⟨l,h⟩:=h;unfold litK;rw[h];rfl
def Ztc(K:Keyed P k){u:Value}(a:U4 P k u)(b:U4 P k v)(h:u≠v):litK P k u≠litK P k v:=λe=>h (K.inj a.lit (by rw[e];exact b.lit))
end
section
open Go.Maps (Keyed IsMap Tidy)
open Go.Maps (Keyed IsMap Tidy)
def codeT:Value->Nat
 | aG cs=>Zp (intOf (cs.getD 0 undef))*1000+(intOf (cs.getD 1 undef)).toNat
 | _=>0
def codeF:Value->Nat
 | aG cs=>(intOf (cs.getD 0 undef)).toNat*1000000+(intOf (cs.getD 1 undef)).toNat*1000+(intOf (cs.getD 2 undef)).toNat
 | _=>0
def Zx1(s:Int)(n:Nat):codeT (kT s n)=Zp s*1000+n:=rfl
def Zy2(i d n:Nat):codeF (kF i d n)=i*1000000+d*1000+n:=rfl
structure CH where
 c:Nat
 n:Nat
 t:Nat
 f:Nat
def CH.maps(k:CH):Nat->Prop:=λb=>b=k.t\/b=k.f
end
section
variable {P:Program} {M:World->Prop} {R:World->World->Prop}
def atL(ds:List (Value->World->Prop))(i:Nat)(v:Value)(X:World):Prop:=(ds.getD i λ_ _=>True) v X
end
section
open Ieee
open Go.Maps (Keyed IsMap Tidy)
def forest_by_split(T:Int->Nat->Nat)(s:Int)(l:List Int)(n:Nat):Zx T (s::l) n=Jt T s l n 0 (n+1):=by
 simp only[Jt,BF];rfl
def N7(T:Int->Nat->Nat)(s:Int)(n:Nat):Zx T [s] n=T s n:=by
 have h0:∀d,d<=n->Jt T s [] n 0 d=0:=by
  intro d
  induction d with
  | zero=>intro _;rfl
  | succ d a =>
    intro hd;rw[Gm,a AA,BF];have h1:Zx T [] (n-(0+d))=0:=by unfold Zx;rw[if_neg AA]
    rw[h1,Nat.mul_zero]
 rw[forest_by_split,Gm,h0 n (AJ _),BF,BF,Nat.sub_self];show T s n*(if 0=0 then 1 else 0)=_;rw[if_pos rfl,Eh]
def F8(x:Nat):(x<big/\Xm x=(Zq3 x,0))\/(¬x<big/\Xm x=([],2)):=by
 by_cases h:x<big
 ·exact .inl ⟨h,by unfold Xm;rw[if_pos h]⟩
 exact .inr ⟨h,by unfold Xm;rw[if_neg h]⟩
end
def fsingle(T:Int->Nat->Nat)(s:Int)(n:Nat):Zx T [s] n=T s n:=N7 T s n
section
open Go.ChangeShapes Go.WideShapes Go.ChangeAt Go.RowKit
def Nj(k:IntKind)(w:World)(a:Option Addr)(len cap:Nat)(b:List Int):Prop :=
 (a=none/\len=0/\cap=0/\b=[]) \/
 ∃x,a=some x/\len<=cap/\cap<=maxLen/\b.length=cap/\(∀i,i<b.length->w.cell? (x.add i)=some (aI k (b.getD i 0)))/\∀n∈b,(Lit.int k n).wf=true
end
end
section
variable{a k j base' e size N i:Nat}{b:Nat->Bool}{l:List Oper}{α:Type}{v:Value}{xs:List Value}{A:Option Addr}{L:Array Bool->Act->Prop}{Q':Exit->Act->World->Prop}{u:Nat->Value}{tab:Nat->Nat->Nat}
def lenOf:Value->Nat
 | K _ n _=>n
 | _=>0
def hasN(s:Nat)(n:Int):Bool:=decide (0<=n/\n<32)&&s.testBit n.toNat
def Wy(s:Nat):List Nat:=(List.range 32).filter (λn=>s.testBit n)
def Ct{b:Nat}(c:a<4294967296)(d:b<4294967296):a ||| b<4294967296:=Nat.or_lt_two_pow (n:=32) c d
def and_pow(s k:Nat):s &&& 2 ^ k=if s.testBit k then 2 ^ k else 0:=by
 apply Nat.eq_of_testBit_eq;intro i;rw[Nat.testBit_and,Nat.testBit_two_pow];by_cases h:k=i
 ·subst h;cases a:s.testBit k <;> simp
 cases a:s.testBit k <;> simp[h,Nat.testBit_two_pow]
def Zx7(s:Nat)(a:s<4294967296)(i:Nat)(hi:32<=i):s.testBit i=false :=
 Nat.testBit_lt_two_pow (AK a (by simpa using CV (n:=2) AC hi))
def Zwo(s:Nat)(n:Nat):n∈Wy s↔n<32/\s.testBit n=true:=by simp[Wy]
def sub_low(k m:Nat):(2 ^ k*(2*m+1)) &&& (2 ^ k*(2*m+1)-1)=2 ^ k*(2*m):=by
 apply Nat.eq_of_testBit_eq;intro i;have e:2 ^ k*(2*m+1)-1=2 ^ k*(2*m)+(2 ^ k-1):=by
  have:=Nat.two_pow_pos k;rw[DK,Eh];omega
 rw[Nat.testBit_and,e,Nat.testBit_two_pow_mul,Nat.testBit_two_pow_mul,Nat.testBit_two_pow_mul_add _ (by have:=Nat.two_pow_pos k;omega)];by_cases h:i<k
 ·simp[h,Nat.not_le.2 h]
 have c:k<=i:=AA
 simp only[c,decide_true,Bool.true_and,h,if_false];obtain⟨j,rfl⟩:∃j,i=k+j:=⟨i-k,AA⟩;rw[Nat.add_sub_cancel_left];cases j with
 | zero=>simp[Nat.testBit_zero]
 | succ j =>
   rw[Nat.testBit_succ,Nat.testBit_succ];have a:(2*m+1) / 2=m:=AA
   have b:2*m / 2=m:=AA
   rw[a,b,Bool.and_self]
def filter_range_split(p:Nat->Bool)(k n:Nat)(f:k<n)(b:∀i,i<k->p i=false)(c:p k=true):
 (List.range n).filter p=k::((List.range n).filter (λi=>p i&&decide (i≠k))):=by
 obtain⟨d,rfl⟩:∃d,n=k+(d+1):=⟨n-k-1,AA⟩;have e:List.range (k+(d+1))=List.range k++k::(List.range d).map (λi=>k+1+i):=by
  rw[List.range_add,List.range_succ_eq_map];simp[Function.comp_def];intro a _;omega
 have a1:(List.range k).filter p=[]:=List.filter_eq_nil_iff.2 λi hi=>by simp[b i (BP.1 hi)]
 have a2:(List.range k).filter (λi=>p i&&decide (i≠k))=[]:=List.filter_eq_nil_iff.2 λi hi=>by simp[b i (BP.1 hi)]
 rw[e,List.filter_append,List.filter_append,a1,a2,List.filter_cons,List.filter_cons,if_pos c];simp only[DA,ne_eq,not_true_eq_false,decide_false,Bool.and_false];congr 1;apply List.filter_congr;intro i hi;obtain⟨j,_,rfl⟩:=CX.1 hi;have:k+1+j≠k:=AA
 simp[this]
def Zt1(s:Nat)(g:s≠0)(o:s<4294967296):
 Lib.ctz 32 s<32/\(∀i,i<Lib.ctz 32 s->s.testBit i=false)/\s.testBit (Lib.ctz 32 s)=true/\(∀i,(s &&& (s-1)).testBit i=(s.testBit i&&decide (i≠Lib.ctz 32 s)))/\s &&& (s-1)<s:=by
 obtain⟨m,a,l⟩:=Lib.ctzFrom_spec 32 s AA o;have e:Lib.ctz 32 s=Lib.ctzFrom 32 s:=by simp[Lib.ctz,g]
 rw[e];generalize Lib.ctzFrom 32 s=k at *;have b:=sub_low k m;rw[<-a] at b;have n:=Nat.two_pow_pos k;refine⟨l,λi hi=>?_,?_,λi=>?_,?_⟩
 ·rw[a,Nat.testBit_two_pow_mul];simp[Nat.not_le.2 hi]
 ·rw[a,Nat.testBit_two_pow_mul];simp[Nat.testBit_zero]
 ·rw[b,Nat.testBit_two_pow_mul,a,Nat.testBit_two_pow_mul];by_cases h:k<=i
  ·simp only[h,decide_true,Bool.true_and];obtain⟨j,rfl⟩:∃j,i=k+j:=⟨i-k,AA⟩;rw[Nat.add_sub_cancel_left];cases j with
   | zero=>simp[Nat.testBit_zero]
   | succ j =>
     rw[Nat.testBit_succ,Nat.testBit_succ];have c:(2*m+1) / 2=m:=AA
     have d:2*m / 2=m:=AA
     have f:k+(j+1)≠k:=AA
     simp[c,d,f]
  simp[h]
 rw[b];have:2 ^ k*(2*m)<2 ^ k*(2*m+1):=Nat.mul_lt_mul_of_pos_left AA n;omega
def mems_step(s:Nat)(a:s≠0)(g:s<4294967296):Wy s=Lib.ctz 32 s::Wy (s &&& (s-1)):=by
 obtain⟨f,b,c,d,_⟩:=Zt1 s a g;unfold Wy;rw[filter_range_split (λi=>s.testBit i) (Lib.ctz 32 s) 32 f b c];congr 1;apply List.filter_congr;intro i _;rw[d]
def mems_zero:Wy 0=[]:=by
 unfold Wy;exact List.filter_eq_nil_iff.2 λi _=>AE
def or32(a b:Nat)(f:a<4294967296)(g:b<4294967296):bits .or .u32 (a:Int) (b:Int)=((a ||| b:Nat):Int):=by
 have h:a ||| b<2 ^ 32:=Nat.or_lt_two_pow AA AA
 have c:(BitVec.ofInt 32 (a:Int)).toNat=a:=by rw[BitVec.ofInt_natCast,Er];exact Ec AA
 have d:(BitVec.ofInt 32 (b:Int)).toNat=b:=by rw[BitVec.ofInt_natCast,Er];exact Ec AA
 show IntKind.u32.wrap ((BitVec.ofInt 32 (a:Int) ||| BitVec.ofInt 32 (b:Int)).toNat:Int)=_;rw[BitVec.toNat_or,c,d,IntKind.wrap_u32];omega
def and32(a b:Nat)(f:a<4294967296)(g:b<4294967296):bits .and .u32 (a:Int) (b:Int)=((a &&& b:Nat):Int):=by
 have h:a &&& b<2 ^ 32:=Nat.and_lt_two_pow _ AA;have c:(BitVec.ofInt 32 (a:Int)).toNat=a:=by rw[BitVec.ofInt_natCast,Er];exact Ec AA
 have d:(BitVec.ofInt 32 (b:Int)).toNat=b:=by rw[BitVec.ofInt_natCast,Er];exact Ec AA
 show IntKind.u32.wrap ((BitVec.ofInt 32 (a:Int) &&& BitVec.ofInt 32 (b:Int)).toNat:Int)=_;rw[BitVec.toNat_and,c,d,IntKind.wrap_u32];omega
def tz32_key(s a:Nat)(d:s<4294967296)(f:s≠0)(c:s &&& (4294967296-s)=a):
 bits BinOp.and IntKind.u32 (s:Int) (-(s:Int) % 4294967296)*125613361 % 4294967296 / 134217728=((a*125613361 % 4294967296 / 134217728:Nat):Int):=by
 have b:-(s:Int) % 4294967296=((4294967296-s:Nat):Int):=AA
 rw[b,and32 s _ d AA,c];omega
def tz32_core(s k a:Nat)(w:World)(d:((s:Int)==0)=false)(key:bits BinOp.and IntKind.u32 (s:Int) (-(s:Int) % 4294967296)*125613361 % 4294967296 / 134217728=(a:Int))(hi:a<32)(c:k<32)(b:w.cell? ⟨0,a,aN⟩=some (aI .u8 (k:Int))):
 Calls prog 218 #[aI .u32 (s:Int)] w λe w'=>e = aR (aI aJ (k:Int))/\w=w':=by
 go_enter func218,ntmps218;go_wp2_with (simp only[key]);go_ret;exact⟨rfl,rfl⟩
def Zt7(s:Nat):(Wy s).length<=32:=by
 have:=List.length_filter_le (λn=>s.testBit n) (List.range 32);simpa [Wy] using this
def Yn{l:List Nat}{x d:Nat}(h:l[k]? = some x):l.getD k d=x:=by rw[AO,h];rfl
def all_get{p:α->Bool}{l:List α}(h:l.all p=true){y:α}(a:l[j]? = some y):p y=true:=(BG.1 h) y (AM a)
def Cv{p:α->Bool}{l:List α}(h:∀(j:Nat) y,l[j]? = some y->p y=true):l.all p=true:=by
 rw[BG];intro x b;obtain⟨j,a⟩:=BQ b;exact h j x a
def Jy{p:α->Bool}{l:List α}{y:α}(b:l[j]? = some y)(h:p y=false):l.all p=false:=by
 cases a:l.all p
 ·rfl
 rw[all_get a b] at h;cases h
def countP_full(q:Nat->Bool)(j:∀n,q n=true->1<=n):∀m,(List.range (m+1)).countP q<=m/\((List.range (m+1)).countP q=m↔∀n,1<=n->n<=m->q n=true):=by
 intro m
 induction m with
 | zero =>
   have:q 0=false:=by
    cases h:q 0
    ·rfl
    have:=j 0 h;omega
   simp[DP,this];intro n a c;omega
 | succ m d =>
   rw[DP,List.countP_append,List.countP_singleton];cases h:q (m+1)
   ·simp only[Bool.false_eq_true,if_false,DN];refine⟨AA,?_,?_⟩
    ·intro g;omega
    intro b;have:=b (m+1) AA (AJ _);rw[h] at this;cases this
   simp only[if_true];refine⟨AA,?_,?_⟩
   ·intro g n a c;rcases BD n (m+1) with f | f
    ·exact (d.2.1 AA) n a AA
    obtain rfl:n=m+1:=AA
    exact h
   intro b;have:=d.2.2 λn a c=>b n a AA;omega
def countP_cut(q:Nat->Bool)(T:Nat)(b:∀n,q n=true->n<=T):∀N,T<N->(List.range N).countP q=(List.range (T+1)).countP q:=by
 intro N d
 induction N with
 | zero=>omega
 | succ N c =>
   by_cases h:N=T
   ·subst h;rfl
   rw[DP,List.countP_append,c AA,List.countP_singleton];have:q N=false:=by
    cases a:q N
    ·rfl
    have:=b N a;omega
   rw[this];simp
def Zvh{a b:List Bool}(j:(Q a)=(Q b))(g:∀i:Nat,a[i]? = some true->b[i]? = some true)(h:∀i:Nat,b[i]? = some true->a[i]? = some true):a=b:=by
 refine List.ext_getElem? λi=>?_;cases c:a[i]? with
 | none =>
   rw[List.getElem?_eq_none_iff] at c;exact (BE AA).symm
 | some x =>
   have hi:=(AN.1 c).1;have d:b[i]? = some (b[i]' AA):=AL AA;cases x with
   | true=>exact (g i c).symm
   | false =>
     cases f:b[i]' AA with
     | false=>rw[d,f]
     | true =>
       rw[f] at d;have:=h i d;rw[c] at this;cases this
def Yb(n a b:Int):Bool:=decide (a<=n/\n<=b)
def Jx(n a b:Int)(w:World):
 Calls prog 82 #[aI aJ n,aI aJ a,aI aJ b] w λe w'=>e = aR (aB (Yb n a b))/\w=w':=by
 have c:Yb n a b=(decide (a<=n)&&decide (n<=b)):=by unfold Yb;rw[Bool.decide_and]
 rw[c];clear c;by_cases h:a<=n;all_goals
  go_enter func82,ntmps82;go_wp2_with fail;go_ret;exact⟨by first | rfl | (simp[h];done) | (simp[h];omega),rfl⟩
def enters_rule1:∀args w,(callFunc 147 args).run prog w = .ok (.enter 147 args) w:=λargs w=>AB
def enters_right1:∀args w,(callFunc 85 args).run prog w = .ok (.enter 85 args) w:=λargs w=>AB
def enters_bare1:∀args w,(callFunc 220 args).run prog w = .ok (.enter 220 args) w:=λargs w=>AB
def enters_within1:∀args w,(callFunc 151 args).run prog w = .ok (.enter 151 args) w:=λargs w=>AB
def tr_bare1(s:Int)(w:World):Calls prog 220 #[aI aJ s] w λe w'=>e = aR (aB (decide (0<=s)))/\w=w':=by
 go_enter func220,ntmps220;go_wp2_with fail;go_ret;exact⟨rfl,rfl⟩
def Apart(A:Option Addr)(g:Nat):Prop:=∀b a,A=some ⟨b,a,none⟩->b≠g
def L6(N a:List Bool):Bool:=!decide (a=N)
def Zwk(N:List Bool):L6 N N=false:=by simp[L6]
def enters_null1:∀args w,(callFunc 202 args).run prog w = .ok (.enter 202 args) w:=λargs w=>AB
def enters_prod1:∀args w,(callFunc 149 args).run prog w = .ok (.enter 149 args) w:=λargs w=>AB
def Le'(N M:List Bool):Prop:=N.length=M.length/\∀i,N.getD i false=true->M.getD i false=true
def Zyd{b:Nat}(h:∀t,a.testBit t=true->b.testBit t=true):a<=b:=by
 have:a &&& b=a:=by
  apply Nat.eq_of_testBit_eq;intro t;rw[Nat.testBit_and];cases c:a.testBit t
  ·rfl
  rw[h t c];rfl
 rw[<-this];exact Nat.and_le_right
def sets_ext{F a:List Nat}(d:(Q F)=(Q a))(h:∀i,i<(Q F)->∀t,(F.getD i 0).testBit t=(a.getD i 0).testBit t):F=a:=by
 refine List.ext_getElem d λi b c=>?_;have:=Nat.eq_of_testBit_eq (h i b);rw[AO,AO,AL b,AL c] at this;exact this
def Qd(S:List Nat)(R:Nat)(l:List Nat):Nat:=l.foldl (λm k=>m ||| S.getD k 0) R
def moreN_snoc(S:List Nat)(R:Nat)(l:List Nat)(k:Nat):Qd S R (l++[k])=Qd S R l ||| S.getD k 0:=by simp[Qd]
def Ma(S:List Nat)(t:Nat):∀(l:List Nat) (R:Nat),(Qd S R l).testBit t=(R.testBit t || l.any λk=>(S.getD k 0).testBit t)
 | [],R=>by simp[Qd]
 | k::l,R=>by
   show (Qd S (R ||| S.getD k 0) l).testBit t=_;rw[Ma S t l,DR,List.any_cons,Bool.or_assoc]
def moreN_le(S:List Nat)(l:List Nat)(R:Nat):R<=Qd S R l:=Zyd λt h=>by rw[Ma,h];rfl
def Ztx{s t:Nat}(b:s<4294967296)(h:s.testBit t=true):t<32:=by
 rcases BD t 32 with a | a
 ·exact a
 rw[Zx7 s b t a] at h;cases h
def Zvf{x:Nat}(h:x≠0):∃t,x.testBit t=true:=by
 apply DU;intro a;apply h;apply Nat.eq_of_testBit_eq;intro t;rw[Nat.zero_testBit];cases b:x.testBit t
 ·rfl
 exact absurd ⟨t,b⟩ a
structure OrdI (S:List Nat) (use n:Nat) (st:List Nat × Nat):Prop where
 lt:st.2<4294967296
 mem:∀t,st.2.testBit t=true↔t∈st.1
 use:∀t∈st.1,use.testBit t=true/\t<n
def Jv(x:Nat):Bool:=x==32 || x==9 || x==10 || x==13
def L0(x:Nat):Int:=if x=58 then 10 else if x=124 then 11 else if x=59 then 12 else 0
def rf_mark7(x:Nat)(w:World):Calls prog 183 #[aI .u8 (x:Int)] w λe w'=>e = aR (aI aJ (L0 x))/\w=w':=by
 have f:x=58\/x=124\/x=59\/(((x:Int)==58)=false/\((x:Int)==124)=false/\((x:Int)==59)=false/\L0 x=0):=by
  by_cases a:x=58
  ·exact .inl a
  by_cases b:x=124
  ·exact .inr (.inl b)
  by_cases c:x=59
  ·exact .inr (.inr (.inl c))
  refine .inr (.inr (.inr ⟨?_,?_,?_,by simp[L0,a,b,c]⟩)) <;> (rw[AR];omega)
 rcases f with rfl | rfl | rfl | ⟨a,b,c,d⟩;all_goals
  first
   | rw[d]
   | rw[show L0 58=10 from rfl]
   | rw[show L0 124=11 from rfl]
   | rw[show L0 59=12 from rfl]
  go_enter func183,ntmps183;go_wp2_with fail;go_ret;exact⟨rfl,rfl⟩
structure Af where
 kind:Int
 text:List Nat
 at_:Nat
def Fz(k:Int):Bool:=decide (k=1) || decide (k=2)
def errS:ByteArray:=⟨#[101,114,114,111,114]⟩
def tw_in(p:Nat->Bool)(l:List Nat):∀m,m<(l.takeWhile p).length->p (l.getD m 0)=true:=by
 induction l with
 | nil=>intro m h;simp at h
 | cons x l b =>
   intro m h;by_cases a:p x=true
   ·rw[List.takeWhile_cons_of_pos a] at h;cases m with
    | zero=>exact a
    | succ m=>exact b m (by simpa using h)
   rw[List.takeWhile_cons_of_neg a] at h;simp at h
def tw_out(p:Nat->Bool)(l:List Nat):(l.takeWhile p).length<(Q l)->p (l.getD (l.takeWhile p).length 0)=false:=by
 induction l with
 | nil=>intro h;simp at h
 | cons x l b =>
   intro h;by_cases a:p x=true
   ·rw[List.takeWhile_cons_of_pos a] at h ⊢;exact b (by simpa using h)
   rw[List.takeWhile_cons_of_neg a];simpa using a
def Zu3(p:Nat->Bool)(l:List Nat):(l.takeWhile p).length<=(Q l):=by
 induction l with
 | nil=>simp
 | cons x l b =>
   by_cases a:p x=true
   ·rw[List.takeWhile_cons_of_pos a];simp;exact b
   rw[List.takeWhile_cons_of_neg a];simp
def F0(xs:List Nat)(a m:Nat):(xs.drop a).getD m 0=xs.getD (a+m) 0:=by simp[AO,DX]
def Dd(ts:List Af):Nat:=(ts.filter λt=>decide (t.kind=9)).length
def Cw(a b:List Af):Dd (a++b)=Dd a+Dd b:=by simp[Dd]
def Zyp(w:World)(p:Nat):Nat:=match w.cell? ⟨p,0,none⟩ with
 | some (K _ n _)=>n
 | _=>0
def Zzw{w:World}{base:Nat}{n:Nat}(h:w.ownsRow base e size v n xs)(d:base'<=base):w.ownsRow base' e size v n xs:=by
 refine⟨h.1,?_⟩;rcases h.2 with b | ⟨g,cap,a,c,f,rest⟩
 ·exact .inl b
 exact .inr ⟨g,cap,a,c,AA,rest⟩
def enters_reach1:∀args w,(callFunc 150 args).run prog w = .ok (.enter 150 args) w:=λargs w=>AB
def hasN_nat{s:Nat}(a:s<4294967296)(k:Nat):hasN s (k:Int)=s.testBit k:=by
 unfold hasN;rw[DH];rcases BD k 32 with h | h
 ·rw[DV AA,Bool.true_and]
 rw[Zx7 s a k h,Bool.and_false]
def bne_cast(z:Nat):((z:Int) != 0)=(z != 0):=by
 rw[Cc,BK,BK];omega
def getD_lt{N:List Bool}(h:N.getD i false=true):i<(Q N):=by
 rcases BD i (Q N) with a | a
 ·exact a
 rw[AO,BE a] at h;cases h
def Zve(n i:Nat):(List.replicate n false).getD i false=false:=by
 rw[AO,List.getElem?_replicate];split <;> rfl
def K3{M:List α->Prop}(h0:M [])(h1:∀l x,M l->M (l++[x]))(l:List α):M l:=by
 have key:∀q:List α,M q.reverse:=by
  intro q
  induction q with
  | nil=>exact h0
  | cons x q a=>rw[List.reverse_cons];exact h1 _ x a
 have:=key l.reverse;rwa [List.reverse_reverse] at this
def Br:∀(n:Nat) (l:List Nat),l.Nodup->(∀i∈l,i<n)->(Q l)<=n
 | 0,l,_,h=>by
   cases l with
   | nil=>simp
   | cons x l=>exact absurd (h x (By ..)) AA
 | n+1,l,hn,h=>by
   by_cases a:n∈l
   ·have:=Br n (l.erase n) (hn.erase n) λi hi=>by
     rw[hn.mem_erase_iff] at hi;have:=h i hi.2;omega
    rw[List.length_erase_of_mem a] at this;omega
   have:=Br n l hn λi hi=>by
    have:=h i hi;have:i≠n:=λb=>a (b ▸ hi);omega
   omega
def N3(o:List Nat)(i:Nat):List Nat:=if i∈o then o else o++[i]
def putO_nodup{o:List Nat}(h:o.Nodup)(i:Nat):(N3 o i).Nodup:=by
 unfold N3;split
 ·exact h
 rename_i hi;rw[List.nodup_append];refine⟨h,AE,λa d b c=>?_⟩;rw[BO] at c;subst c;rintro rfl;exact hi d
def Zum[BEq α][LawfulBEq α]:∀{l m:List α},l.Nodup->(∀x∈l,x∈m)->(Q l)<=(Q m)
 | [],_,_,_=>AV _
 | x::l,m,h,hs=>by
   rw[List.nodup_cons] at h;have a:x∈m:=hs x AE;have:=Zum (l:=l) (m:=m.erase x) h.2 λy b=>by
    have c:y≠x:=λe=>h.1 (e ▸ b);exact (List.mem_erase_of_ne c).2 (hs y (by simp[b]))
   rw[List.length_erase_of_mem a] at this;have:0<(Q m):=List.length_pos_of_mem a;rw[AY];omega
def beq0_cast(z:Nat):((z:Int)==0)=(z==0):=by
 rw[Cc,BS,BS];omega
def Nb(n j:Nat):List Int:=List.replicate j (-1)++List.replicate (n-j) 0
def fill_end(n:Nat):Nb n n=List.replicate n (-1):=by simp[Nb]
def fill_start(n:Nat):Nb n 0=List.replicate n 0:=by simp[Nb]
def fill_len{n:Nat}(a:j<=n):(Nb n j).length=n:=by simp[Nb];omega
def Cx{w:World}{base:Nat}{n:Nat}{ys:List Value}(h:w.ownsRow base e size v n xs)(f:w.ownsRow base' j size v n ys):xs=ys:=by
 have b:=h.1;have c:=f.1;rcases h.2 with ⟨_,rfl⟩ | ⟨g,cap,q,o,_,k,_,_,_,l⟩
 ·simp at b c;rw[b,c]
 rcases f.2 with ⟨d,rfl⟩ | ⟨s,p,r,d,_,a,_,_,_,m⟩
 ·simp at b c;rw[b,c]
 rw[o] at d;injection d with h1 h2 h3;injection h1 with h1;injection h1 with h1;subst h1;rw[k] at a;injection a with a;injection a with hg1 hg2 hg3;rw[<-l,<-m,hg1]
abbrev Sb(n:Nat):Type:={s:Int // -(n:Int)<=s/\s<=1000}
instance (n:Nat):Inhabited (Sb n):=⟨⟨0,by omega,by omega⟩⟩
def encB(n:Nat):Sb n->Value:=λs => aI aJ s.1
def put_grown{n:Nat}(w:World)(q g b:Nat)(d:Array (Sb n)):w.grownBy (Sort.putRow (encB n) (Sort.ahead w q) g b d) (some g):=by
 refine⟨rfl,rfl,rfl,AE,λk c a=>?_⟩;have:g≠k:=λe=>a (by rw[e]);simp[Sort.putRow,Sort.mapBlock,Sort.ahead,Array.getElem?_modify,this]
def i64w{n:Int}(h0:0<=n)(h1:n<9223372036854775808):IntKind.i64.wrap n=n:=by rw[IntKind.wrap_i64];omega
def u64w{n:Int}(h0:0<=n)(h1:n<18446744073709551616):IntKind.u64.wrap n=n:=by rw[IntKind.wrap_u64];omega
def Ld(n:Int)(w:World):Calls prog 39 #[aI aJ n] w λe w'=>e = aR (aB (decide (0<=n)&&decide (n<=10)))/\w=w':=by
 go_enter func39,ntmps39;by_cases h0:0<=n
 ·by_cases h1:n<=10
  ·have a:Hid ((decide (0<=n)&&decide (n<=10))=true):=LH (by simp[h0,h1]);go_wp2_with fail;go_ret;exact⟨by first | (rw[a.out];rfl) | (rw[show decide (n<=10)=false by simp[h1]];rfl) | (rw[show decide (0<=n)=false by simp[h0]];rfl) | rfl,rfl⟩
  have a:Hid ((decide (0<=n)&&decide (n<=10))=false):=LH (by simp[h0,h1]);go_wp2_with fail;go_ret;exact⟨by first | (rw[a.out];rfl) | (rw[show decide (n<=10)=false by simp[h1]];rfl) | (rw[show decide (0<=n)=false by simp[h0]];rfl) | rfl,rfl⟩
 have a:Hid ((decide (0<=n)&&decide (n<=10))=false):=LH (by simp[h0]);go_wp2_with fail;go_ret;exact⟨by first | (rw[a.out];rfl) | (rw[show decide (n<=10)=false by simp[h1]];rfl) | (rw[show decide (0<=n)=false by simp[h0]];rfl) | rfl,rfl⟩
def enters_crule1:∀args w,(callFunc 238 args).run prog w = .ok (.enter 238 args) w:=λargs w=>AB
def L8:∀args w,(callFunc 160 args).run prog w = .ok (.enter 160 args) w:=λargs w=>AB
def Zx5{a b:ByteArray}:(a==b)=true↔a=b:=by
 obtain⟨⟨x⟩⟩:=a;obtain⟨⟨y⟩⟩:=b;show ((⟨x⟩:Array UInt8)==⟨y⟩)=true↔_;simp
def Tryz.structTerm:prog.underlying 140=some (.struct (prog.fieldsOf 140)):=AB
def Tryz.heldTerm:prog.stoodInHeld 140=false:=AB
def Tryz.guardTerm:prog.eqGuardType prog.depth 140=false:=AB
def enters_bare:∀args w,(callFunc 199 args).run prog w = .ok (.enter 199 args) w:=enters_of func199 AB rfl
def sb_list{n:Nat}:∀(ss:List Int),(∀s∈ss,-(n:Int)<=s/\s<=1000)->∃ds:List (Sb n),ds.map (λs=>s.1)=ss
 | [],_=>⟨[],rfl⟩
 | s::ss,h=>by
   obtain⟨ds,hd⟩:=sb_list ss λs a=>h s (BN _ a);exact⟨⟨s,h s (By ..)⟩::ds,by rw[CU,hd]⟩
def enters_cof1:∀args w,(callFunc 95 args).run prog w = .ok (.enter 95 args) w:=λargs w=>AB
def Zyh:List Nat:=[37,37,32,115,32,58,32,115,32,115,32,124,32,39,97,39,32,59]
def Vm(a b:Nat):Int:=if a<b then -1 else if b<a then 1 else 0
def bitLen(n:Nat):Nat:=if n=0 then 0 else n.log2+1
def Bo{k:IntKind}{a b:Int}(h:a=b):aR (aI k a) = aR (aI k b):=by rw[h]
def borrow_bit(x y c:Nat)(j:x<4294967296)(a:y<4294967296)(n:c<=1):
 (((4294967295 ^^^ x) &&& y) ||| ((4294967295 ^^^ (x ^^^ y)) &&& ((4294967296+x-y-c) % 4294967296))) / 2147483648=1-(4294967296+x-y-c) / 4294967296:=by
 have key:∀z:Nat,z<4294967296->z / 2147483648=(z.testBit 31).toNat:=λz p=>by
  rw[Nat.testBit_eq_decide_div_mod_eq];have:z / 2 ^ 31 % 2=z / 2147483648:=by
   have:z / 2 ^ 31=z / 2147483648:=rfl;omega
  rw[this];have:z / 2147483648=0\/z / 2147483648=1:=AA
  rcases this with h | h <;> simp[h]
 have hd:(4294967296+x-y-c) % 4294967296<4294967296:=Nat.mod_lt _ AC;generalize o:(4294967296+x-y-c) % 4294967296=d at *;have g:(((4294967295 ^^^ x) &&& y) ||| ((4294967295 ^^^ (x ^^^ y)) &&& d))<2 ^ 32 :=
  Nat.or_lt_two_pow (Nat.and_lt_two_pow _ a) (Nat.and_lt_two_pow _ hd)
 rw[key _ g];have t:Nat.testBit 4294967295 31=true:=AC
 simp only[DR,Nat.testBit_and,Nat.testBit_xor,t];have l:=key x j;have m:=key y a;have k:=key d hd;cases f:x.testBit 31 <;> cases by_:y.testBit 31 <;> cases b:d.testBit 31 <;> simp[f,by_,b] at l m k ⊢ <;> omega
def Wq(n:Int)(h0:0<=n)(h1:n<1000000):wrap64 n=n:=by unfold wrap64;omega
def Ztl(a b:Int)(w:World):
 Calls prog 106 #[aI aJ a,aI aJ b] w λe w'=>e = aR (aI aJ (if a<b then -1 else if b<a then 1 else 0))/\w=w':=by
 by_cases h1:a<b
 ·go_enter func106,ntmps106;go_wp2;go_ret;exact⟨AE,rfl⟩
 by_cases c:b<a
 ·go_enter func106,ntmps106;go_wp2;go_ret;exact⟨AE,rfl⟩
 go_enter func106,ntmps106;go_wp2;go_ret;exact⟨AE,rfl⟩
def Zto(a b:Int)(w:World):
 Calls prog 107 #[aI .u32 a,aI .u32 b] w λe w'=>e = aR (aI aJ (if a<b then -1 else if b<a then 1 else 0))/\w=w':=by
 by_cases h1:a<b
 ·go_enter func107,ntmps107;go_wp2;go_ret;exact⟨AE,rfl⟩
 by_cases c:b<a
 ·go_enter func107,ntmps107;go_wp2;go_ret;exact⟨AE,rfl⟩
 go_enter func107,ntmps107;go_wp2;go_ret;exact⟨AE,rfl⟩
def bitLen_lib:∀(f x:Nat),x<2 ^ f->Lib.bitLenAux f x=bitLen x:=by
 intro f
 induction f with
 | zero=>intro x h;simp at h;subst h;rfl
 | succ f b =>
   intro x h;unfold Lib.bitLenAux;by_cases h0:x=0
   ·subst h0;rfl
   rw[if_neg h0,b (x / 2) (by rw[Nat.pow_succ] at h;omega)];by_cases h1:x / 2=0
   ·have a:x=1:=AA
    subst a;rfl
   have:=Go.bitLen_shift x 1 (by simpa using h1);exact this.symm
def Bm(x:Nat)(h:x<4294967296):Lib.bitLen x=bitLen x:=bitLen_lib 64 x AA
def Zsy(a b i:Nat)(d:0<b):
 let r:=a / 2 ^ (i+1) % b
 let c:=2*r+a / 2 ^ i % 2
 (b<=c->a / 2 ^ i % b=c-b/\a / 2 ^ i / b=2*(a / 2 ^ (i+1) / b)+1) /\
 (c<b->a / 2 ^ i % b=c/\a / 2 ^ i / b=2*(a / 2 ^ (i+1) / b)):=by
 intro r c;have h:a / 2 ^ (i+1)=a / 2 ^ i / 2:=by rw[Nat.pow_succ,Nat.div_div_eq_div_mul]
 have p:r<b:=Nat.mod_lt _ d;have j:a / 2 ^ i=2*(a / 2 ^ (i+1))+a / 2 ^ i % 2:=by rw[h];omega
 have k:a / 2 ^ (i+1)=b*(a / 2 ^ (i+1) / b)+r:=(Nat.div_add_mod _ _).symm;have n:a / 2 ^ i % 2<2:=Nat.mod_lt _ AC;have m:c=2*r+a / 2 ^ i % 2:=rfl;generalize a / 2 ^ (i+1) / b=q at *
 clear_value r c
 have f:a / 2 ^ i=b*(2*q)+c:=by
  rw[j,k,DK,m,<-DT,Ef 2 b,DT];omega
 constructor
 ·intro o;have l:a / 2 ^ i=b*(2*q+1)+(c-b):=by rw[f,DK,Eh];omega
  rw[l];constructor
  ·rw[Nat.mul_add_mod,Ec AA]
  rw[Nat.mul_add_div d,Nat.div_eq_of_lt AA,DN]
 intro g;rw[f];constructor
 ·rw[Nat.mul_add_mod,Ec g]
 rw[Nat.mul_add_div d,Nat.div_eq_of_lt g,DN]
def Zv3{w:World}{base:Nat}{n c:Nat}(h:w.ownsRow base e 1 (K A n c) n xs)(b f:Nat)(a:A=some ⟨b,f,aN⟩):base<=b:=by
 rcases h.2 with ⟨d,rfl⟩ | ⟨g,cap,j,d,k,o,p,l,m,q⟩
 ·simp at d;rw[d.1] at a;cases a
 injection d with h1 h2 h3;rw[h1] at a;injection a with a;injection a with a;omega
def shl_or(x c:Nat)(b:x<4294967296)(a:c<=1):bits .or .u32 ((x:Int)*2 % 4294967296) (c:Int)=(((2*x+c) % 4294967296:Nat):Int):=by
 have e:(x:Int)*2 % 4294967296=((2*x % 4294967296:Nat):Int):=AA
 rw[e,u32_or_nat _ _ AA AA,nat_join 1 _ _ AA AA];congr 1;omega
def bitLen_lt(v:Nat):v<2 ^ bitLen v:=by
 unfold bitLen;split
 ·omega
 exact Nat.lt_log2_self
def bitLen_le(v k:Nat)(a:k<bitLen v):2 ^ k<=v:=by
 unfold bitLen at a;split at a
 ·omega
 rename_i h;exact BC (CV AC AA) (Nat.log2_self_le h)
def Q5{b:Nat}:Vm a b<0↔a<b:=by unfold Vm;split <;> (try split) <;> omega
def Do(b:Nat->Bool)(u:Nat->Value)(p:Nat)(a:Value):Prop:=b p=false->u p=a
def slLen:Value->Nat
 | K _ n _=>n
 | _=>0
def shl_hand(r:Nat)(b:r<32):Op.shift .shl .u32 1 .i64 (r:Int)=pure (aI .u32 ((2 ^ r:Nat):Int)):=by
 rw[shift_shl _ _ _ _ AA (by show (r:Int)<=32;omega)];have h:(2:Nat) ^ r<4294967296:=by
  have:=Nat.pow_lt_pow_right (a:=2) AC b;simpa using this
 have e:(1:Int)*2 ^ (r:Int).toNat=((2 ^ r:Nat):Int):=AE
 rw[e,IntKind.wrap_u32];generalize (2:Nat) ^ r=z at *;have:(z:Int) % 4294967296=(z:Int):=AA
 rw[this]
structure Qr where
 ia:Nat
 is:Nat
 ic:Nat
 ty:TypeId
 z:Array Value
def NdC(e:Nat)(b:Option Addr)(g d k:Nat)(a:Option Addr)(f c:Nat):Array Value:=#[aI aJ (e:Int),K b g d,aI aJ (k:Int),K a f c]
section
variable {P:Program} {w:World}
def Gz(base:Nat)(t ty e:TypeId)(i:TypeInfo)(b:P.underlying t=some (.slice e))(hi:P.info? e=some i)(A:Option Addr)(n c:Nat)(xs:List Value)(f:w.ownsRow base e 1 (K A n c) n xs)(c2:Nat):
 (Builtin.append_ #[t,t] ty #[K A n c,K aN 0 c2]).run P w = .ok (K A n c) w:=by
 rcases f.2 with ⟨a,rfl⟩ | ⟨g,cap,h,a,_,_,d,_⟩
 ·rw[a];simp[Builtin.append_,run_underlying b,sizeOf,typeInfo,hi,Builtin.lenOf,Builtin.firstCells]
 rw[a];simp[Builtin.append_,run_underlying b,sizeOf,typeInfo,hi,Builtin.lenOf,Builtin.firstCells,d,storeCells]
def M3{base:Nat}{n:Nat}(h:w.ownsRow base e 1 v n xs):∃A c,v = K A n c:=by
 rcases h.2 with ⟨rfl,rfl⟩ | ⟨g,cap,a,rfl,_⟩
 ·exact⟨_,_,rfl⟩
 exact⟨_,_,rfl⟩
def Lt{base:Nat}{g n c:Nat}(h:w.ownsRow base e 1 (K (some ⟨g,0,aN⟩) n c) n xs)(j:Nat)(u:Value):
 (w.setCell ⟨g,j,aN⟩ u).ownsRow base e 1 (K (some ⟨g,0,aN⟩) n c) n (xs.set j u):=(h.stored j u).1
def Bv{base:Nat}{n:Nat}(h:w.ownsRow base e 1 v n xs)(d:base'<=base):w.ownsRow base' e 1 v n xs:=by
 refine⟨h.1,?_⟩;rcases h.2 with b | ⟨g,cap,a,c,f,rest⟩
 ·exact .inl b
 exact .inr ⟨g,cap,a,c,AA,rest⟩
def Zuk{base:Nat}{n:Nat}(h:w.ownsRow base e size v n xs):∃A c,v = K A n c:=by
 rcases h.2 with ⟨rfl,rfl⟩ | ⟨g,cap,a,rfl,_⟩
 ·exact⟨_,_,rfl⟩
 exact⟨_,_,rfl⟩
def run_append_nilS(base size:Nat)(t ty e:TypeId)(i:TypeInfo)(b:P.underlying t=some (.slice e))(hi:P.info? e=some i)(A:Option Addr)(n c:Nat)(xs:List Value)(f:w.ownsRow base e size (K A n c) n xs)(c2:Nat):
 (Builtin.append_ #[t,t] ty #[K A n c,K aN 0 c2]).run P w = .ok (K A n c) w:=by
 rcases f.2 with ⟨a,rfl⟩ | ⟨g,cap,h,a,_,_,d,_⟩
 ·rw[a];simp[Builtin.append_,run_underlying b,sizeOf,typeInfo,hi,Builtin.lenOf,Builtin.firstCells]
 rw[a];simp[Builtin.append_,run_underlying b,sizeOf,typeInfo,hi,Builtin.lenOf,Builtin.firstCells,d,storeCells]
end
section
open Go.ChangeShapes Go.WideShapes Go.ChangeAt Go.RowKit
def Nn:List (String × DataW Unit):=[("math/bits.deBruijn32tab",Rows.laid_math_bits_deBruijn32tab)]
def gTab:prog.globalNamed "math/bits.deBruijn32tab"=some 0:=AB
def tTab:(prog.globals[0]?).map (·.type)=some 272:=AB
def Cb(os:Os)(args:Array Value):laidMetH prog Nn ((World.doorLaid prog 400 os).forCall (λ_ _=>0) ⟨#[],args,[]⟩).memory :=
 laidMetH_of_parts3 (fuel:=8) (laidMet_of_run' 8 AB AB) AB AB
theorem tab_lits:(Rows.laid_math_bits_deBruijn32tab:DataW Unit) = .agg (Lib.deBruijn32tab.map λ(n:Nat) => .lit (.int .u8 (n:Int))):=by rfl
end
section
open Go.ChangeShapes Go.WideShapes Go.ChangeAt Go.RowKit
open Ieee
def fN(n:Nat):Nat:=Ieee.double.nearest false n 0
def fN_zero:fN 0=0:=AC
def okN(n:Nat):Bool:=decide (1<=n/\n<=1073741824)
def okP(l c:Nat):Bool:=okN l&&okN c
def PV(l c:Nat):Value := .complex .f64 (fN l) (fN c)
def PV_zero:PV 0 0 = .complex .f64 0 0:=by unfold PV;rw[fN_zero]
def Fm(n:Nat):floatOfInt .f64 (n:Int)=fN n:=by
 unfold floatOfInt FloatKind.nearest;have a:decide ((n:Int)<0)=false:=AE
 rw[a,Int.natAbs_natCast];rfl
def ofP(a b:Int):Value:=if 1<=a/\a<=1073741824/\1<=b/\b<=1073741824 then PV a.toNat b.toNat else PV 0 0
def ref_of(a b:Int)(w:World):Calls prog 180 #[aI aJ a,aI aJ b] w λe w'=>e = aR (ofP a b)/\w=w':=by
 by_cases h:1<=a/\a<=1073741824/\1<=b/\b<=1073741824
 ·unfold ofP;rw[if_pos h];obtain⟨n,rfl⟩:∃n:Nat,a=(n:Int):=⟨a.toNat,AA⟩;obtain⟨m,rfl⟩:∃m:Nat,b=(m:Int):=⟨b.toNat,AA⟩;have g:=Fm n;have j:=Fm m;obtain⟨c,d,f,k⟩:=h;unfold PV;rw[DH,DH];generalize fN n=x at *;generalize fN m=y at *;go_enter func180,ntmps180;go_wp2;go_ret;exact⟨by simp[g,j],rfl⟩
 unfold ofP;rw[if_neg h,PV_zero];have l:a<1\/(1<=a/\1073741824<a)\/(1<=a/\a<=1073741824/\b<1)\/(1<=a/\a<=1073741824/\1<=b/\1073741824<b):=AA
 rcases l with c | ⟨c,d⟩ | ⟨c,d,f⟩ | ⟨c,d,f,k⟩;all_goals
  go_enter func180,ntmps180;go_wp2;go_ret;exact⟨rfl,rfl⟩
def H9(p:Nat × Nat)(b:Nat):Nat × Nat:=if b=10 then (p.1+1,1) else (p.1,p.2+1)
def atN(a:List Nat):Nat × Nat:=a.foldl H9 (1,1)
def atN_snoc(a:List Nat)(b:Nat):atN (a++[b])=H9 (atN a) b:=by simp[atN]
def atN_go(a:List Nat):∀p:Nat × Nat,1<=p.1->1<=p.2->1<=(a.foldl H9 p).1/\(a.foldl H9 p).1<=p.1+(Q a)/\1<=(a.foldl H9 p).2/\(a.foldl H9 p).2<=p.2+(Q a):=by
 induction a with
 | nil=>intro p d f;simp;omega
 | cons b a g =>
   intro p d f;have c:1<=(H9 p b).1/\(H9 p b).1<=p.1+1/\1<=(H9 p b).2/\(H9 p b).2<=p.2+1:=by
    unfold H9;split <;> simp <;> omega
   have:=g (H9 p b) c.1 c.2.2.1;rw[List.foldl_cons,AY];omega
def atN_bd(a:List Nat):1<=(atN a).1/\(atN a).1<=(Q a)+1/\1<=(atN a).2/\(atN a).2<=(Q a)+1:=by
 have:=atN_go a (1,1) AC AC;unfold atN;omega
def okP_of{l c:Nat}(a:1<=l)(b:l<=1073741824)(d:1<=c)(f:c<=1073741824):okP l c=true:=by simp[okP,okN,a,b,d,f]
def ofP_of(l c:Nat)(h:okP l c=true):ofP (l:Int) (c:Int)=PV l c:=by
 simp[okP,okN] at h;unfold ofP;rw[if_pos AA];simp
def str(l:List Nat):ByteArray:=⟨(l.map UInt8.ofNat).toArray⟩
end
section
open Go.RowKit Go.Shelf
attribute [local go_sem] Oper.semAt_some
open Go.RowKit Go.Shelf Go.Sort
def compact_len(l:List (List UInt8))(v:l.Pairwise (λx y=>x<=y)):(Lib.compact l).length=(Q l)↔l.Nodup:=by
 unfold Lib.compact Lib.compactUpTo;rw[BI];have s:(List.filter (Lib.keeps l.toArray) (List.range (Q l))).length=(Q l)↔∀j∈List.range (Q l),Lib.keeps l.toArray j=true:=by
  have:=List.length_filter_eq_length_iff (p:=Lib.keeps l.toArray) (l:=List.range (Q l));rwa [List.length_range] at this
 rw[s];have q:∀j,0<j->j<(Q l)->(Lib.keeps l.toArray j=true↔l[j]? ≠ l[j-1]?):=by
  intro j f c;have g:l.toArray[j]! = l[j]'c:=by simp[c]
  have k:l.toArray[j-1]! = l[j-1]' AA:=by simp[show j-1<(Q l) by omega]
  rw[AL c,AL (show j-1<(Q l) by omega)];constructor
  ·intro h d;injection d with d;rw[Lib.keeps_neg f (by rw[g,k];exact d)] at h;cases h
  intro h;exact Lib.keeps_pos (by rw[g,k];intro d;exact h (by rw[d]))
 constructor
 ·intro h;rw[List.nodup_iff_pairwise_ne,List.pairwise_iff_getElem];intro i j hi c A d;have r:∀a b (n:a<(Q l)) (o:b<(Q l)),a<=b->l[a]<=l[b]:=by
   intro a b n o z;rcases BD a b with h | h
   ·exact List.pairwise_iff_getElem.1 v a b n o h
   obtain rfl:a=b:=AA
   exact List.le_refl _
  have m:=r i (j-1) hi AA AA;have t:=r (j-1) j AA c AA;rw[d] at m;have:=List.le_antisymm t m;have u:=(q j AA c).1 (h j (by rw[BP];exact c));apply u;rw[AL c,AL (show j-1<(Q l) by omega),this]
 intro h j c;rw[BP] at c;rcases BW j with f | f
 ·subst f;simp[Lib.keeps]
 rw[q j f c,AL c,AL (show j-1<(Q l) by omega)];intro d;injection d with d;rw[List.nodup_iff_pairwise_ne,List.pairwise_iff_getElem] at h;exact h (j-1) j AA c AA d.symm
def sorted_len(ss:List (List UInt8)):(Lib.compact (ss.mergeSort λx y=>decide (x<=y))).length=(Q ss)↔ss.Nodup:=by
 have d:=List.mergeSort_perm ss (λx y=>decide (x<=y));have j:(ss.mergeSort λx y=>decide (x<=y)).Pairwise (λx y=>x<=y):=by
  have:=List.pairwise_mergeSort (le:=λx y:List UInt8=>decide (x<=y)) (λa b c f g=>by
   simp only[decide_eq_true_eq] at *;exact List.le_trans f g) (λa b=>by
   simp only[Cs,decide_eq_true_eq];exact List.le_total _ _) ss
  exact this.imp λh=>by simpa using h
 rw[<-d.nodup_iff,<-d.length_eq];exact compact_len _ j
def byL(a:List ByteArray):List (List UInt8):=a.map λz=>z.data.toList
def byL_nodup(f:List ByteArray):(byL f).Nodup↔f.Nodup:=by
 unfold byL;rw[List.nodup_iff_pairwise_ne,List.nodup_iff_pairwise_ne,List.pairwise_map];constructor
 ·intro h;exact h.imp λd c=>d (by rw[c])
 intro h;refine h.imp λ{a b} d c=>d ?_;cases a;cases b;simp only[ByteArray.mk.injEq];exact Array.toList_inj.1 c
def encStr_byL(a:List ByteArray):(byL a).map encStr=a.map aS:=by
 unfold byL;rw[List.map_map];refine List.map_congr_left λz _=>?_;cases z;simp[encStr]
def Ql(a b:ByteArray):(a.toList==b.toList)=decide (a=b):=by
 rw[Cc,BS,BA];constructor
 ·intro h;rw[ByteArray.toList_eq,ByteArray.toList_eq] at h;cases a;cases b;simp only[ByteArray.mk.injEq];exact Array.toList_inj.1 h
 intro h;rw[h]
def Vz{p:α->Bool}{l:List α}{x:α}(h:∀j,j<k->∀y,l[j]? = some y->p y=false)(d:l[k]? = some x)(c:p x=false):∀j,j<k+1->∀y,l[j]? = some y->p y=false:=by
 intro j g y a;rcases BD j k with b | f
 ·exact h j b y a
 obtain rfl:j=k:=AA
 rw[d] at a;injection a with a;rw[<-a];exact c
def Q8{l:List α}{x:α}(h:l[k]? = some x):l.drop k=x::l.drop (k+1):=by
 obtain⟨a,rfl⟩:=AN.1 h;exact Eb a
end
section
open Go.RowKit Go.Shelf Go.Sort
def grow_none(w:World):grow w #[]=w:=by unfold grow;simp
end
section
open Go.RowKit Go.Maps
def Ud{n a b:Int}(h:Yb n a b=true):a<=n/\n<=b:=by unfold Yb at h;simpa using h
def Jl(w:World)(r:Option Nat):w.grownBy w r:=⟨rfl,rfl,rfl,AJ _,λ_ _ _=>rfl⟩
def Zd(w:World)(g i:Nat)(v:Value):w.grownBy (w.setCell ⟨g,i,aN⟩ v) (some g) :=
 ⟨rfl,rfl,rfl,AE,λk _ a=>Ea w ⟨g,i,aN⟩ v k λh=>a (by rw[h])⟩
end
section
variable {P:Program} {ops:Array Oper} {md:Region.Mode} {C:World->Prop}
def headQ(P:Program)(md:Region.Mode)(ops:Array Oper)(C:World->Prop)(n:Nat)(L:Array Bool->Act->Prop):Nat->Array Bool->Act->Prop
 | 0,listed,a=>L listed a
 | f+1,listed,a=>Region.ready md ops listed≠[]/\∀i∈Region.ready md ops listed,i<n/\qOp P ops C i (headQ P md ops C n L f (listed.setIfInBounds i true)) a
def Bh{n g:Nat}(b:∀listed a w,C w->L listed a->wpAny P md ops Q' g listed a w):
 ∀(f:Nat) (listed:Array Bool) (a:Act) (w:World),C w->headQ P md ops C n L f listed a->wpAny P md ops Q' (f+g) listed a w
 | 0,listed,a,w,hw,h=>by rw[BF];exact b _ _ _ hw h
 | f+1,listed,a,w,hw,h=>by
   rw[show f+1+g=(f+g)+1 by omega];exact⟨λj=>absurd j h.1,λi hi=>wpOp_of_qOp hw (λc w' k d=>Bh b f _ c w' k d) (h.2 i hi).2⟩
end
abbrev TokV(a:Int)(b:List Nat)(at_:Value):Value := aG #[aI aJ a,aS (str b),at_]
section
open Go.Maps (Keyed IsMap Tidy)
def keyInt:Keyed prog 3:=Maps.int_keyed underlying3
def zeroInt(w:World):(zeroValue 3).run prog w = .ok (aI aJ 0) w:=AB
def Zst{k l:IntKind}{a b c d:Int}(h:a=b)(f:c=d):aR (.tuple #[aI k a,aI l c]) = aR (.tuple #[aI k b,aI l d]):=by rw[h,f]
def Dg(x y c:Nat)(w:World)(b:x<4294967296)(d:y<4294967296)(a:c<=1):
 Calls prog 239 #[aI .u32 (x:Int),aI .u32 (y:Int),aI .u32 (c:Int)] w λe w' =>
  e = aR (.tuple #[aI .u32 (((x+y+c) % 4294967296:Nat):Int),aI .u32 (((x+y+c) / 4294967296:Nat):Int)])/\w=w':=by
 go_enter func239,ntmps239;go_wp2;go_ret2;exact⟨Zst AA AA,rfl⟩
def L5(x c:Nat)(w:World)(b:x<4294967296)(a:c<=1):
 Calls prog 239 #[aI .u32 (x:Int),aI .u32 0,aI .u32 (c:Int)] w λe w' =>
  e = aR (.tuple #[aI .u32 (((x+0+c) % 4294967296:Nat):Int),aI .u32 (((x+0+c) / 4294967296:Nat):Int)])/\w=w' :=
 Dg x 0 c w b AA a
def Tryz.laidOut:laidOutB prog=true:=AB
def Tryz.wideKT:(match prog.underlying 257 with | some (.array _ _) | some (.struct _)=>true | _=>false)=true:=AB
def Tryz.wideKF:(match prog.underlying 261 with | some (.array _ _) | some (.struct _)=>true | _=>false)=true:=AB
def Mb{x:Int}(h1:-1000<=x)(a:x<=1000):(Lit.int .i64 x).wf=true:=WalkArith.wf_i64 AA
end
section
open Go.Maps (Keyed IsMap Tidy)
open Go.Maps (Keyed IsMap Tidy)
def Gq{l:List α}(f:α->Nat)(N:Nat)(c:l.Nodup)(hi:∀x∈l,∀y∈l,f x=f y->x=y)(a:∀x∈l,f x<N):(Q l)<=N:=by
 have h1:(l.map f).Nodup:=by
  unfold List.Nodup at c ⊢;rw[List.pairwise_map];have:l.Pairwise λx y=>x∈l/\y∈l/\x≠y:=List.Pairwise.imp_of_mem (λb a h=>⟨b,a,h⟩) c;exact this.imp λ⟨b,a,h⟩ e=>h (hi _ b _ a e)
 have d:=Zum (l:=l.map f) (m:=List.range N) h1 λx g=>by
  obtain⟨y,j,rfl⟩:=CX.1 g;exact BP.2 (a y j)
 simpa using d
end
section
variable {P:Program} {M:World->Prop} {R:World->World->Prop}
def upd(u:Nat->Value)(i:Nat)(v:Value):Nat->Value:=λj=>if j=i then v else u j
def onB(o:Oper)(p:Nat):Bool:=o.after.toList.any λe=>Region.binds .any e&&decide (e.on=p)
def ancF(l:List Oper):Nat->Nat->Nat->Bool
 | 0,_,_=>false
 | f+1,j,i=>match l[j]? with
   | none=>false
   | some o=>o.after.any λe=>Region.binds .any e&&(decide (e.on=i) || ancF l f e.on i)
def Zti(l:List Oper)(n:Nat):Bool:=decide (n=l.length) || (List.range n).all λi=>ancF l l.length n i
def Zyf{o:Oper}{p:Nat}:onB o p=true↔∃e∈o.after,Region.binds .any e=true/\e.on=p:=by
 unfold onB;rw[Eo];constructor
 ·rintro⟨e,a,h⟩;rw[AS,BA] at h;exact⟨e,Array.mem_def.2 a,h⟩
 rintro⟨e,a,h⟩;exact⟨e,Array.mem_def.1 a,by rw[AS,BA];exact h⟩
def Zwm(R:World->World->Prop):List (Value->World->Prop)->Prop
 | []=>True
 | d::ds=>(∀v X a,d v X->R X a->d v a)/\Zwm R ds
end
section
open Ieee
structure WSt where
 rest:List Int
 word:List Int
 posts:List Int
def Wt(f:WSt->Int->Option (WSt × Nat)):List Int->WSt->Nat->Option (WSt × Nat)
 | [],st,top=>some (st,top)
 | s::ss,st,top =>
   if 0<=s then Wt f ss { st with word:=st.word++[s] } top
   else match f st (-1-s) with
    | none=>none
    | some (st',n)=>Wt f ss st' (max top n)
end
section
open Ieee
open Go.Maps (Keyed IsMap Tidy)
def Tryz.wideKB:(match prog.underlying 220 with | some (.array _ _) | some (.struct _)=>true | _=>false)=true:=AB
def Vr(l:List Int):List Nat:=l.map λs=>(s+16).toNat
def kB(l:List Int)(n:Nat):Value := aG #[aS (str (Vr l)),aI aJ (n:Int)]
def Zwx(l:List Int):Prop:=∀s∈l,-16<=s/\s<40
def Dy{l:List Int}(h:Zwx l):∀c∈Vr l,c<56:=by
 intro c a;obtain⟨s,b,rfl⟩:=CX.1 a;have:=h s b;omega
def Zwi:∀{l m:List Int},Zwx l->Zwx m->Vr l=Vr m->l=m
 | [],[],_,_,_=>rfl
 | [],s::m,_,_,h=>by cases h
 | s::l,[],_,_,h=>by cases h
 | s::l,t::m,hl,hm,h=>by
   have h1:=hl s (By ..);have b:=hm t (By ..);unfold Vr at h;rw[CU,CU] at h;injection h with h3 h4;have e:s=t:=AA
   rw[e,Zwi (λq a=>hl q (BN _ a)) (λq a=>hm q (BN _ a)) h4]
def Ds:List Nat->Nat
 | []=>0
 | c::l=>(c+1)+64*Ds l
def Zsb:∀{l m:List Nat},(∀c∈l,c<60)->(∀c∈m,c<60)->Ds l=Ds m->l=m
 | [],[],_,_,_=>rfl
 | [],c::m,_,_,h=>by unfold Ds at h;omega
 | c::l,[],_,_,h=>by unfold Ds at h;omega
 | c::l,d::m,hl,hm,h=>by
   have h1:=hl c (By ..);have g:=hm d (By ..);unfold Ds at h;have b:c=d:=AA
   have f:Ds l=Ds m:=AA
   rw[b,Zsb (λq a=>hl q (BN _ a)) (λq a=>hm q (BN _ a)) f]
def encT_lt:∀{l:List Nat},(∀c∈l,c<60)->Ds l<64 ^ (Q l)
 | [],_=>by unfold Ds;simp
 | c::l,hl=>by
   have h1:=hl c (By ..);have b:=encT_lt (l:=l) λq a=>hl q (BN _ a);unfold Ds;rw[AY,Nat.pow_succ];omega
structure J1 (l:List Int) (n:Nat):Prop where
 sym:Zwx l
 len:l.length<=6
 n:n<=10
structure BkH where
 c:Nat
 t:Nat
abbrev BkH.map(k:BkH):Nat->Prop:=λb=>b=k.t
end
section
open Go.Maps (Keyed IsMap Tidy)
variable {P:Program} {Γ:Type} {R:World->World->Prop}
def Mz(b:Nat->Bool)(i:Nat):Nat->Bool:=λj=>if j=i then true else b j
def G9(l:List Oper)(b:Nat->Bool):Prop:=∀i o,l[i]? = some o->b i=true->∀p,onB o p=true->b p=true
def G9.anc(d:G9 l b):∀(f j i:Nat),ancF l f j i=true->b j=true->b i=true
 | 0,_,_,h,_=>by cases h
 | f+1,j,i,h,hj=>by
   unfold ancF at h;cases c:l[j]? with
   | none=>rw[c] at h;cases h
   | some o =>
     rw[c] at h;simp only[Array.any_eq_true] at h;obtain⟨k,m,h⟩:=h;rw[AS,Cs,BA] at h;have g:=d j o c hj _ (Zyf.2 ⟨_,Array.getElem_mem m,h.1,rfl⟩);rcases h.2 with a | a
     ·rw[<-a];exact g
     exact d.anc f _ i a g
def G9.no(d:G9 l b)(H:b i=false)(h:ancF l (Q l) j i=true):b j=false :=
 Bool.eq_false_iff.2 λa=>by
  have h1:=d.anc _ _ _ h a;rw[H] at h1;cases h1
end
section
open Go.Maps (Keyed IsMap Tidy)
def Ys(h:j≠i):Mz b i j=b j:=if_neg h
def Yj(h:j≠i):upd u i v j=u j:=if_neg h
def Ztw:Mz b i i=true:=if_pos rfl
def D1:upd u i v i=v:=if_pos rfl
end
def Dj(x y c:Nat)(w:World)(a:x<4294967296)(b:y<4294967296)(o:c<=1):
 Calls prog 161 #[aI .u32 (x:Int),aI .u32 (y:Int),aI .u32 (c:Int)] w λe w' =>
  e = aR (.tuple #[aI .u32 (((4294967296+x-y-c) % 4294967296:Nat):Int),aI .u32 ((1-(4294967296+x-y-c) / 4294967296:Nat):Int)])/\w=w':=by
 have hd:((x:Int)-(y:Int)-(c:Int)) % 4294967296=(((4294967296+x-y-c) % 4294967296:Nat):Int):=AA
 have k:=borrow_bit x y c a b o;have f:(4294967296+x-y-c) % 4294967296<4294967296:=Nat.mod_lt _ AC;have h1:(4294967295 ^^^ x)<2 ^ 32:=Nat.xor_lt_two_pow AC a;have d:(x ^^^ y)<2 ^ 32:=Nat.xor_lt_two_pow a b;have g:(4294967295 ^^^ (x ^^^ y))<2 ^ 32:=Nat.xor_lt_two_pow AC d;have h:((4294967295 ^^^ x) &&& y)<2 ^ 32:=Nat.and_lt_two_pow _ b;have j:((4294967295 ^^^ (x ^^^ y)) &&& ((4294967296+x-y-c) % 4294967296))<2 ^ 32:=Nat.and_lt_two_pow _ f;have l:IntKind.u32.max=((4294967295:Nat):Int):=rfl;have e:bits .or .u32 (bits .and .u32 (bits .xor .u32 IntKind.u32.max (x:Int)) (y:Int)) (bits .and .u32 (bits .xor .u32 IntKind.u32.max (bits .xor .u32 (x:Int) (y:Int))) (((x:Int)-(y:Int)-(c:Int)) % 4294967296)) / 2147483648=((1-(4294967296+x-y-c) / 4294967296:Nat):Int):=by
  rw[hd,l,u32_xor_nat _ _ AC a,u32_xor_nat _ _ a b,u32_xor_nat _ _ AC d,u32_and_nat _ _ h1 b,u32_and_nat _ _ g f,u32_or_nat _ _ h j,<-k];rfl
 have n:=LH e;have m:=LH hd;clear e hd l h1 d g h j f k;go_enter func161,ntmps161;go_wp2;go_ret2;exact⟨Zst m n,rfl⟩
def L7(x c:Nat)(w:World)(b:x<4294967296)(a:c<=1):
 Calls prog 161 #[aI .u32 (x:Int),aI .u32 0,aI .u32 (c:Int)] w λe w' =>
  e = aR (.tuple #[aI .u32 (((4294967296+x-0-c) % 4294967296:Nat):Int),aI .u32 ((1-(4294967296+x-0-c) / 4294967296:Nat):Int)])/\w=w' :=
 Dj x 0 c w b AA a
def Ba:∀{a b:List Nat},a.map (λi:Nat=>(i:Int))=b.map (λi:Nat=>(i:Int))->a=b
 | [],[],_=>rfl
 | [],_::_,h=>by cases h
 | _::_,[],h=>by cases h
 | x::a,y::b,h=>by
   rw[CU,CU] at h;injection h with h1 h2;have c:x=y:=AA
   rw[c,Ba h2]
abbrev Zrc(xs:List Nat):List Int:=xs.map λi:Nat=>(i:Int)
def zero_row(N m:Nat)(h:∀i,tab m i=0):List.replicate N 0=(List.range N).map (tab m):=by
 refine List.ext_getElem? λj=>?_;rw[List.getElem?_replicate,BB];by_cases a:j<N
 ·rw[List.getElem?_range a,if_pos a,Ei,h]
 rw[BE (by simpa using a),if_neg a];rfl
def slices_noInt{b:List Nat}:∀u∈b.map (λg=>K (some ⟨g,0,aN⟩) N N),∀k x,u≠aI k x:=by
 intro u a k x c;rw[CX] at a;obtain⟨g,_,rfl⟩:=a;cases c
def preS(w0 p0:List Int)(a:WSt):WSt:=⟨a.rest,w0++a.word,p0++a.posts⟩
def preR(w0 p0:List Int)(x:WSt × Nat):WSt × Nat:=(preS w0 p0 x.1,x.2)
def symsP_pre{f:WSt->Int->Option (WSt × Nat)}{w0 p0:List Int}(c:∀a non,f (preS w0 p0 a) non=(f a non).map (preR w0 p0)):
 ∀(ss:List Int) (a:WSt) (top:Nat),Wt f ss (preS w0 p0 a) top=(Wt f ss a top).map (preR w0 p0):=by
 intro ss
 induction ss with
 | nil=>intro a top;rfl
 | cons s ss b =>
   intro a top;unfold Wt;by_cases h0:0<=s
   ·rw[if_pos h0,if_pos h0,<-b];simp[preS]
   rw[if_neg h0,if_neg h0,c];cases f a (-1-s) with
   | none=>rfl
   | some x =>
     obtain⟨d,n⟩:=x;exact b d (max top n)
section
open Go.RowKit Go.Shelf
attribute [local go_sem] Oper.semAt_some
abbrev Zrl(L N:Nat):={ p:Nat × Nat // p.1+p.2<=L/\p.2<=N }
def Zre(L N j:Nat):Zrl L N:=⟨(min (N*j) L,min N (L-N*j)),by omega⟩
def Zrw(L N k:Nat):List (Zrl L N):=(List.range k).map (Zre L N)
def Zrb(L N k:Nat):Zrw L N (k+1)=Zrw L N k++[Zre L N k]:=by simp[Zrw,DP]
def Zr1(L N k:Nat):(Zrw L N k).length=k:=by simp[Zrw]
def encP(b a:Nat){L N:Nat}(x:Zrl L N):Array Value:=#[K (some ⟨b,a+x.1.1,none⟩) x.1.2 x.1.2]
def Zrq(a b:Nat)(W c:World):Prop:=c.heap[a]? = W.heap[a]? /\ c.heap[b]? = W.heap[b]?
def Zrg{W a:World}{b o:Nat}(h:a.heap[b]? = W.heap[b]?):a.cell? ⟨b,o,aN⟩=W.cell? ⟨b,o,aN⟩:=DG h
end
section
open Go.RowKit Go.Shelf
attribute [local go_sem] Oper.semAt_some
open Go.RowKit Go.Shelf
def Zqm{L:Nat}(b:0<N)(h:(Zre L N k).1.2=N):(Zre L N k).1=(N*k,N)/\N*(k+1)<=L:=by
 have a:min N (L-N*k)=N:=h;rw[DK,Eh];refine⟨?_,AA⟩;show (min (N*k) L,min N (L-N*k))=_;rw[Nat.min_eq_left AA,a]
def pieces_mem{L:Nat}(h:j<k):Zre L N j∈Zrw L N k:=CX.2 ⟨j,BP.2 h,rfl⟩
end
section
open Go.RowKit Go.Shelf
attribute [local go_sem] Oper.semAt_some
open Go.RowKit Go.Shelf
open Go.RowKit Go.Shelf
attribute [local go_sem] Oper.semAt_some
def keep2_far{b c:Nat}(W:World)(d:a≠c)(f:b≠c)(u:Value):Zrq a b W (W.setCell ⟨c,0,aN⟩ u):=⟨Ea _ _ _ _ d,Ea _ _ _ _ f⟩
end
section
open Go.ChangeShapes Go.WideShapes Go.ChangeAt Go.RowKit
open Go.ChangeShapes Go.WideShapes Go.ChangeAt Go.RowKit
open Go.ChangeShapes Go.WideShapes Go.ChangeAt Go.RowKit Go.Lib Go.Deep
variable {H:Type} {enc:TypeId × Value->H} {w:World} {base:Nat} {sp:Nat->Bool} {held:Bool}
def Bi(b a i:Nat):(⟨b,a,aN⟩:Addr).add i=⟨b,a+i,aN⟩:=by
 unfold Addr.add;split
 ·rename_i h;subst h;rfl
 rfl
end
end
end Go.Proofs.YtaagompdgiobeaaGreatDoor
