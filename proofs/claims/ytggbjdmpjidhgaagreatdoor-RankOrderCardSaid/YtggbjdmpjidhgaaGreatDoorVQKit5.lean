/- Words for slices that read as strings; a string's bytes appended. -/
import Derived.Test.YtggbjdmpjidhgaaGreatDoorVQKit
import Derived.Lib.AppendStr
import Derived.Lib.ConvBytes
import Derived.Laws.AppendOwn
set_option linter.unusedVariables false
set_option linter.unusedSimpArgs false
set_option maxHeartbeats 8000000
set_option maxRecDepth 100000
namespace Go.Proofs.YtggbjdmpjidhgaaGreatDoor
open Go.RowKit
def Strs (w:World) (A:Option Addr) (n c:Nat) (ss:List ByteArray):Prop:=Sl w A n c (ss.map Value.string)
theorem Strs.len {w:World} {A:Option Addr} {n c:Nat} {ss:List ByteArray} (h:Strs w A n c ss):ss.length=n:=by have:=h.1;simpa using this
theorem Strs.cap {w:World} {A:Option Addr} {n c:Nat} {ss:List ByteArray} (h:Strs w A n c ss):n≤c∧c≤9223372036854775807:=⟨h.2.1,h.2.2.1⟩
theorem Strs.below {w w':World} {A:Option Addr} {n c:Nat} {ss:List ByteArray} (h:Strs w A n c ss) (a:Below w.heap.size w w'):Strs w' A n c ss:=Sl.below h a
theorem Strs.get {w:World} {A:Option Addr} {n c:Nat} {ss:List ByteArray} (h:Strs w A n c ss) {j:Nat} (g:j < n) :
 ∃ b a s,A=some ⟨b,a,none⟩∧b < w.heap.size∧Hid (ss[j]? = some s)∧w.cell? ⟨b,a+j,none⟩=some (.string s):=by
 have k:=h.len
 obtain ⟨b,a,e,d,f⟩:=h.2.2.2 (by rw [List.length_map];omega)
 refine ⟨b,a,ss[j]'(by omega),e,d,LH (List.getElem?_eq_getElem (by omega)),?_⟩
 rw [f j (by rw [List.length_map];omega)]
 simp [List.getElem?_eq_getElem (show j < ss.length by omega)]
section
variable {P:Program} {w:World}
end
structure Trm where
 name:ByteArray
 level:Int
 assoc:Int
structure Rul where
 left:Int
 right:List Int
 prec:Int
structure Gr where
 terms:List Trm
 nons:List ByteArray
 rules:List Rul
 start:Int
def InI64 (x:Int):Prop:=-9223372036854775808≤x∧x≤9223372036854775807
def Trms (w:World) (A:Option Addr) (n c:Nat) (ts:List Trm):Prop :=
 ts.length=n∧n≤c∧c≤9223372036854775807∧(0 < n→∃ b a,A=some ⟨b,a,none⟩∧b < w.heap.size∧∀ j t,ts[j]? = some t →
  w.cell? ⟨b,a+j * 3,none⟩=some (.string t.name)∧w.cell? ⟨b,a+j * 3+1,none⟩=some (.int .i64 t.level)∧w.cell? ⟨b,a+j * 3+2,none⟩=some (.int .i64 t.assoc))
def Ruls (w:World) (A:Option Addr) (n c:Nat) (d:List Rul):Prop :=
 d.length=n∧n≤c∧c≤9223372036854775807∧(0 < n→∃ b a,A=some ⟨b,a,none⟩∧b < w.heap.size∧∀ j r,d[j]? = some r →
  ∃ Ar cr,w.cell? ⟨b,a+j * 3,none⟩=some (.int .i64 r.left)∧w.cell? ⟨b,a+j * 3+1,none⟩=some (.slice Ar r.right.length cr)∧w.cell? ⟨b,a+j * 3+2,none⟩=some (.int .i64 r.prec)∧Ints .i64 w Ar r.right.length cr r.right)
theorem Trms.len {w:World} {A:Option Addr} {n c:Nat} {ts:List Trm} (h:Trms w A n c ts):ts.length=n:=h.1
theorem Trms.cap {w:World} {A:Option Addr} {n c:Nat} {ts:List Trm} (h:Trms w A n c ts):n≤c∧c≤9223372036854775807:=⟨h.2.1,h.2.2.1⟩
theorem Trms.below {w w':World} {A:Option Addr} {n c:Nat} {ts:List Trm} (h:Trms w A n c ts) (a:Below w.heap.size w w'):Trms w' A n c ts:=by
 refine ⟨h.1,h.2.1,h.2.2.1,fun k=>?_⟩
 obtain ⟨b,f,e,d,g⟩:=h.2.2.2 k
 refine ⟨b,f,e,Nat.lt_of_lt_of_le d a.size,fun j t l=>?_⟩
 rw [a.cell (p:=⟨b,f+j * 3,none⟩) d,a.cell (p:=⟨b,f+j * 3+1,none⟩) d,a.cell (p:=⟨b,f+j * 3+2,none⟩) d]
 exact g j t l
theorem Trms.get {w:World} {A:Option Addr} {n c:Nat} {ts:List Trm} (h:Trms w A n c ts) {j:Nat} (o:j < n) :
 ∃ b a t,A=some ⟨b,a,none⟩∧b < w.heap.size∧Hid (ts[j]? = some t)∧w.cell? ⟨b,a+j * 3,none⟩=some (.string t.name)∧w.cell? ⟨b,a+j * 3+1,none⟩=some (.int .i64 t.level)∧w.cell? ⟨b,a+j * 3+2,none⟩=some (.int .i64 t.assoc):=by
 obtain ⟨b,a,e,m,l⟩:=h.2.2.2 (by omega)
 have p:=h.1
 have d:ts[j]? = some (ts[j]'(by omega)):=List.getElem?_eq_getElem (by omega)
 obtain ⟨f,g,k⟩:=l j _ d
 exact ⟨b,a,_,e,m,LH d,f,g,k⟩
theorem Ruls.len {w:World} {A:Option Addr} {n c:Nat} {a:List Rul} (h:Ruls w A n c a):a.length=n:=h.1
theorem Ruls.cap {w:World} {A:Option Addr} {n c:Nat} {a:List Rul} (h:Ruls w A n c a):n≤c∧c≤9223372036854775807:=⟨h.2.1,h.2.2.1⟩
theorem Ruls.below {w w':World} {A:Option Addr} {n c:Nat} {g:List Rul} (h:Ruls w A n c g) (a:Below w.heap.size w w'):Ruls w' A n c g:=by
 refine ⟨h.1,h.2.1,h.2.2.1,fun s=>?_⟩
 obtain ⟨b,f,e,d,q⟩:=h.2.2.2 s
 refine ⟨b,f,e,Nat.lt_of_lt_of_le d a.size,fun j r t=>?_⟩
 rw [a.cell (p:=⟨b,f+j * 3,none⟩) d,a.cell (p:=⟨b,f+j * 3+1,none⟩) d,a.cell (p:=⟨b,f+j * 3+2,none⟩) d]
 obtain ⟨Ar,cr,k,l,m,o⟩:=q j r t
 exact ⟨Ar,cr,k,l,m,o.below a⟩
theorem Ruls.get {w:World} {A:Option Addr} {n c:Nat} {d:List Rul} (h:Ruls w A n c d) {j:Nat} (q:j < n) :
 ∃ b a r Ar cr,A=some ⟨b,a,none⟩∧b < w.heap.size∧Hid (d[j]? = some r)∧w.cell? ⟨b,a+j * 3,none⟩=some (.int .i64 r.left)∧w.cell? ⟨b,a+j * 3+1,none⟩=some (.slice Ar r.right.length cr)∧w.cell? ⟨b,a+j * 3+2,none⟩=some (.int .i64 r.prec)∧Ints .i64 w Ar r.right.length cr r.right:=by
 obtain ⟨b,a,e,p,o⟩:=h.2.2.2 (by omega)
 have s:=h.1
 have f:d[j]? = some (d[j]'(by omega)):=List.getElem?_eq_getElem (by omega)
 obtain ⟨Ar,cr,g,k,l,m⟩:=o j _ f
 exact ⟨b,a,_,Ar,cr,e,p,LH f,g,k,l,m⟩
structure GH where
 a1:Option Addr
 n1:Nat
 c1:Nat
 a2:Option Addr
 n2:Nat
 c2:Nat
 a3:Option Addr
 n3:Nat
 c3:Nat
abbrev GV (h:GH) (a:Int):Value := .agg #[.slice h.a1 h.n1 h.c1, .slice h.a2 h.n2 h.c2, .slice h.a3 h.n3 h.c3, .int .i64 a]
structure GrAt (w:World) (h:GH) (G:Gr):Prop where
 terms:Trms w h.a1 h.n1 h.c1 G.terms
 nons:Strs w h.a2 h.n2 h.c2 G.nons
 rules:Ruls w h.a3 h.n3 h.c3 G.rules
 wf:∀ r ∈ G.rules,∀ s ∈ r.right,InI64 s
theorem GrAt.below {w w':World} {h:GH} {G:Gr} (g:GrAt w h G) (a:Below w.heap.size w w'):GrAt w' h G:=⟨g.terms.below a,g.nons.below a,g.rules.below a,g.wf⟩
theorem alloc_below (w:World) (o:Obj):Below w.heap.size w (w.alloc o):=(Below.refl _ _).alloc (Nat.le_refl _) _
def letterB (c:Nat):Bool:=decide (97≤c∧c≤122) || decide (65≤c∧c≤90) || decide (c=95)
def innerB (c:Nat):Bool:=letterB c || decide (48≤c∧c≤57) || decide (c=46)
theorem letter_fact:∀ c:Nat,c < 256→letterB c=(decide (c=95) || (decide (97≤c ||| 32) && decide (c ||| 32≤122))):=by decide +kernel
theorem bits_or (c:Nat):bits BinOp.or .u8 (c:Int) 32=((c ||| 32:Nat):Int)∨256≤c:=by
 rcases Nat.lt_or_ge c 256 with h | h
 · left
   have:∀ c:Nat,c < 256→bits BinOp.or .u8 (c:Int) 32=((c ||| 32:Nat):Int):=by decide +kernel
   exact this c h
 · exact .inr h
theorem ret_bool {a b:Bool} (h:a=b):Ending.returned (.bool a)=Ending.returned (.bool b):=by rw [h]
theorem lx_letter (c:Nat) (w:World) (j:c < 256) :
 Calls Tryz.prog 165 #[.int .u8 (c:Int)] w fun e w'=>e = .returned (.bool (letterB c))∧w=w':=by
 have a:=letter_fact c j
 have b:=(bits_or c).resolve_right (by omega)
 have k:∃ v:Nat,bits BinOp.or .u8 (c:Int) 32=(v:Int)∧letterB c=(decide (c=95) || (decide (97≤v) && decide (v≤122))):=⟨_,b,a⟩
 clear a b
 obtain ⟨v,m,a⟩:=k
 have d:=LH a
 clear a
 have l:c=95∨(c ≠ 95∧v < 97)∨(c ≠ 95∧97≤v∧v≤122)∨(c ≠ 95∧97≤v∧122 < v):=by omega
 rcases l with h | ⟨h,g⟩ | ⟨h,g,f⟩ | ⟨h,g,f⟩
 all_goals
  go_enter Tryz.func165,Tryz.ntmps165
  go_wp2
  go_ret
  refine ⟨ret_bool ?_,rfl⟩
  rw [d.out]
  rw [Bool.eq_iff_iff];simp only [Bool.or_eq_true,Bool.and_eq_true,beq_iff_eq,bne_iff_ne,ne_eq,Bool.not_eq_true',decide_eq_true_eq,decide_eq_false_iff_not,Bool.false_eq_true,true_iff,false_iff,iff_true,iff_false];omega
def plainB (c:Nat):Bool:=decide (32≤c∧c≤126∧c ≠ 39∧c ≠ 92)
def escapedB (c:Nat):Bool:=decide (c=110∨c=116∨c=92∨c=39)
theorem lx_first (c:Nat) (w:World) (d:c < 256) :
 Calls Tryz.prog 173 #[.int .u8 (c:Int)] w fun e w'=>e = .returned (.bool (letterB c))∧w=w':=by
 have b:c < 65∨(65≤c∧c≤90)∨(90 < c∧c < 95)∨c=95∨(95 < c∧c < 97)∨(97≤c∧c≤122)∨122 < c:=by omega
 rcases b with g0 | ⟨g0,a⟩ | ⟨g0,a⟩ | g0 | ⟨g0,a⟩ | ⟨g0,a⟩ | g0
 all_goals
  go_enter Tryz.func173,Tryz.ntmps173
  go_wp2
  all_goals
   go_ret
   refine ⟨ret_bool ?_,rfl⟩
   unfold letterB
   rw [Bool.eq_iff_iff];simp only [Bool.or_eq_true,Bool.and_eq_true,beq_iff_eq,bne_iff_ne,ne_eq,Bool.not_eq_true',decide_eq_true_eq,decide_eq_false_iff_not,Bool.false_eq_true,true_iff,false_iff,iff_true,iff_false];omega
theorem lx_plain (c:Nat) (w:World) (g:c < 256) :
 Calls Tryz.prog 235 #[.int .u8 (c:Int)] w fun e w'=>e = .returned (.bool (plainB c))∧w=w':=by
 have d:c < 32∨(32≤c∧c≤126∧c=39)∨(32≤c∧c≤126∧c=92)∨(32≤c∧c≤126∧c ≠ 39∧c ≠ 92)∨126 < c:=by omega
 rcases d with g0 | ⟨g0,a,b⟩ | ⟨g0,a,b⟩ | ⟨g0,a,b,f⟩ | g0
 all_goals
  go_enter Tryz.func235,Tryz.ntmps235
  go_wp2
  all_goals
   go_ret
   refine ⟨ret_bool ?_,rfl⟩
   unfold plainB
   rw [Bool.eq_iff_iff];simp only [Bool.or_eq_true,Bool.and_eq_true,beq_iff_eq,bne_iff_ne,ne_eq,Bool.not_eq_true',decide_eq_true_eq,decide_eq_false_iff_not,Bool.false_eq_true,true_iff,false_iff,iff_true,iff_false];omega
theorem lx_escaped (c:Nat) (w:World) (g:c < 256) :
 Calls Tryz.prog 236 #[.int .u8 (c:Int)] w fun e w'=>e = .returned (.bool (escapedB c))∧w=w':=by
 have a:c=110∨c=116∨c=92∨c=39∨(c ≠ 110∧c ≠ 116∧c ≠ 92∧c ≠ 39):=by omega
 rcases a with g0 | g0 | g0 | g0 | ⟨g0,b,d,f⟩
 all_goals
  go_enter Tryz.func236,Tryz.ntmps236
  go_wp2
  all_goals
   go_ret
   refine ⟨ret_bool ?_,rfl⟩
   unfold escapedB
   rw [Bool.eq_iff_iff];simp only [Bool.or_eq_true,Bool.and_eq_true,beq_iff_eq,bne_iff_ne,ne_eq,Bool.not_eq_true',decide_eq_true_eq,decide_eq_false_iff_not,Bool.false_eq_true,true_iff,false_iff,iff_true,iff_false];omega
theorem lx_inner (c:Nat) (w:World) (j:c < 256) :
 Calls Tryz.prog 166 #[.int .u8 (c:Int)] w fun e w'=>e = .returned (.bool (innerB c))∧w=w':=by
 have a:=lx_letter c w j
 cases b:letterB c
 all_goals
  rw [b] at a
  have d:=LH a
  have f:=LH b
  clear a b
  have k:(c < 46∧((c:Int) == 46)=false)∨((c:Int) == 46)=true∨(46 < c∧c < 48∧((c:Int) == 46)=false)∨(48≤c∧c≤57∧((c:Int) == 46)=false)∨(57 < c∧((c:Int) == 46)=false):=by
   simp only [beq_iff_eq,beq_eq_false_iff_ne,ne_eq]
   omega
  rcases k with ⟨g,g0⟩ | g0 | ⟨g,h,g0⟩ | ⟨g,h,g0⟩ | ⟨g,g0⟩
  all_goals
   go_enter Tryz.func166,Tryz.ntmps166
   go_wp2_with (go_at_call 165;(with_reducible refine d.out.mono ?_);rintro e w' ⟨rfl,rfl⟩)
   all_goals
    go_ret
    refine ⟨ret_bool ?_,rfl⟩
    unfold innerB
    rw [f.out]
    try simp only [beq_iff_eq,beq_eq_false_iff_ne,ne_eq] at g0
    try simp only [Bool.true_or,Bool.false_or]
    all_goals first
    | rfl
    | (rw [Bool.eq_iff_iff];simp only [Bool.or_eq_true,Bool.and_eq_true,beq_iff_eq,bne_iff_ne,ne_eq,Bool.not_eq_true',decide_eq_true_eq,decide_eq_false_iff_not,Bool.false_eq_true,true_iff,false_iff,iff_true,iff_false];omega)
theorem lx_later (c:Nat) (w:World) (j:c < 256) :
 Calls Tryz.prog 174 #[.int .u8 (c:Int)] w fun e w'=>e = .returned (.bool (innerB c))∧w=w':=by
 have a:=lx_first c w j
 cases b:letterB c
 all_goals
  rw [b] at a
  have d:=LH a
  have f:=LH b
  clear a b
  have k:(c < 46∧((c:Int) == 46)=false)∨((c:Int) == 46)=true∨(46 < c∧c < 48∧((c:Int) == 46)=false)∨(48≤c∧c≤57∧((c:Int) == 46)=false)∨(57 < c∧((c:Int) == 46)=false):=by
   simp only [beq_iff_eq,beq_eq_false_iff_ne,ne_eq]
   omega
  rcases k with ⟨g,g0⟩ | g0 | ⟨g,h,g0⟩ | ⟨g,h,g0⟩ | ⟨g,g0⟩
  all_goals
   go_enter Tryz.func174,Tryz.ntmps174
   go_wp2_with (go_at_call 173;(with_reducible refine d.out.mono ?_);rintro e w' ⟨rfl,rfl⟩)
   all_goals
    go_ret
    refine ⟨ret_bool ?_,rfl⟩
    unfold innerB
    rw [f.out]
    try simp only [beq_iff_eq,beq_eq_false_iff_ne,ne_eq] at g0
    try simp only [Bool.true_or,Bool.false_or]
    all_goals first
    | rfl
    | (rw [Bool.eq_iff_iff];simp only [Bool.or_eq_true,Bool.and_eq_true,beq_iff_eq,bne_iff_ne,ne_eq,Bool.not_eq_true',decide_eq_true_eq,decide_eq_false_iff_not,Bool.false_eq_true,true_iff,false_iff,iff_true,iff_false];omega)
theorem bytesWorld_below (w:World) (e:TypeId) (s:ByteArray):Below w.heap.size w (Lib.bytesWorld w e s):=by
 refine ⟨rfl,rfl,rfl,?_,fun k a=>Lib.bytesWorld_at_old w e s k a⟩
 rw [Lib.bytesWorld_size];omega
theorem bytesWorld_nums (w:World) (e:TypeId) (s:ByteArray) (d:s.size≤maxLen) :
 Nums .u8 (Lib.bytesWorld w e s) (some ⟨w.heap.size,0,none⟩) s.size (grownCap w s.size 0 e) (bytesOf s):=by
 refine ⟨by simp [nums,bytesOf_len],grownCap_ge w _ _ _,by simpa [maxLen] using grownCap_le_maxLen w s.size 0 e d,fun _=>⟨_,_,rfl,by rw [Lib.bytesWorld_size];omega,fun j c=>?_⟩⟩
 have a:j < s.size:=by simpa [nums,bytesOf_len] using c
 rw [Nat.zero_add,Lib.bytesWorld_cell w e s j a]
 have b:=bytesOf_get s j a
 simp only [nums,List.getElem?_map,b,Option.map_some]
 congr 2
 rw [List.getD_eq_getElem?_getD,List.getElem?_eq_getElem (by simpa using a)]
 rfl
theorem getD_of_get {l:List Nat} {k x d:Nat} (h:l[k]? = some x):l.getD k d=x:=by rw [List.getD_eq_getElem?_getD,h];rfl
def nameB (l:List Nat):Bool:=!(l.length == 0) && decide (l.length≤20) && letterB (l.getD 0 0) && l.all innerB
theorem nameB_no {l:List Nat} (k:Nat) (h:k < l.length) (hd:innerB (l.getD k 0)=false):nameB l=false:=by
 have:l.all innerB=false:=by
  rw [List.all_eq_false]
  refine ⟨l[k],List.getElem_mem h,?_⟩
  simpa [List.getElem?_eq_getElem h] using hd
 simp [nameB,this]
theorem nameB_yes {l:List Nat} (b:l.length ≠ 0) (d:l.length≤20) (f:letterB (l.getD 0 0)=true) (hd:∀ j,j < l.length→innerB (l.getD j 0)=true):nameB l=true:=by
 have:l.all innerB=true:=by
  rw [List.all_eq_true]
  intro c g
  obtain ⟨j,a,rfl⟩:=List.getElem_of_mem g
  simpa [List.getElem?_eq_getElem a] using hd j a
 unfold nameB
 rw [this,f]
 simp [b,d]
theorem lx_name (s:ByteArray) (w:World):Calls Tryz.prog 103 #[.string s] w fun e w'=>e = .returned (.bool (nameB (bytesOf s)))∧w=w':=by
 have g:=bytesOf_len s
 by_cases v:s.size=0
 · have a:nameB (bytesOf s)=false:=by simp [nameB,g,v]
   rw [a]
   have C:=isEmpty_str0 s v
   clear a g
   go_enter Tryz.func103,Tryz.ntmps103
   go_wp2
   go_ret
   exact ⟨rfl,rfl⟩
 have c:0 < s.size:=by omega
 obtain ⟨D,E⟩:=isEmpty_str s c
 by_cases m:s.size≤20
 case neg =>
  have a:nameB (bytesOf s)=false:=by simp [nameB,g,m]
  rw [a]
  have B:(20:Int) < (s.size:Int):=by omega
  clear a g m
  go_enter Tryz.func103,Tryz.ntmps103
  go_wp2
  go_ret
  exact ⟨rfl,rfl⟩
 have G:¬ (20:Int) < (s.size:Int):=by omega
 have q:Hid (∀ k (h:k < s.size),(bytesOf s).getD k 0=(s[k]'h).toNat):=LH fun k h=>getD_of_get (bytesOf_get s k h)
 have l:=LH g
 have d:=lx_letter (s[0]'c).toNat w ((s[0]'c).toNat_lt)
 have A:=LH m
 clear g m
 cases b:letterB (s[0]'c).toNat
 · have a:nameB (bytesOf s)=false:=by unfold nameB;rw [q.out 0 c,b];simp
   rw [a]
   rw [b] at d
   have o:=LH d
   clear a d b
   go_enter Tryz.func103,Tryz.ntmps103
   go_wp2_with (go_at_call 165;(with_reducible refine o.out.mono ?_);rintro e w' ⟨rfl,rfl⟩)
   go_ret
   exact ⟨rfl,rfl⟩
 rw [b] at d
 have o:=LH d
 have y:Hid (letterB ((bytesOf s).getD 0 0)=true):=LH (by rw [q.out 0 c];exact b)
 clear d b
 go_enter Tryz.func103,Tryz.ntmps103
 go_wp2_with (go_at_call 165;(with_reducible refine o.out.mono ?_);rintro e w' ⟨rfl,rfl⟩)
 go_loop [3,19] (fun _ i=>∃ k:Nat,k≤s.size∧i = .int .i64 (k:Int)∧∀ j,j < k→innerB ((bytesOf s).getD j 0)=true) (fun _ i=>s.size - (intOf i).toNat)
 case atStart=>exact ⟨0,Nat.zero_le _,rfl,fun j t=>by omega⟩
 case round =>
  obtain ⟨k,F,rfl,x⟩:=hrel
  have u:=LH x
  clear x
  by_cases b:k < s.size
  · have f:=lx_inner (s[k]'b).toNat w ((s[k]'b).toNat_lt)
    have n:=q.out k b
    cases hd:innerB (s[k]'b).toNat
    · have a:nameB (bytesOf s)=false:=nameB_no k (by rw [l.out];exact b) (by rw [n];exact hd)
      have p:=LH a
      rw [hd] at f
      have r:=LH f
      clear f hd n a
      go_wp2_with (go_at_call 166;(with_reducible refine r.out.mono ?_);rintro e w' ⟨rfl,rfl⟩)
      go_ret
      exact ⟨by rw [p.out];rfl,rfl⟩
    · rw [hd] at f
      have r:=LH f
      have z:Hid (innerB ((bytesOf s).getD k 0)=true):=LH (by rw [n];exact hd)
      clear f hd n
      go_wp2_with (go_at_call 166;(with_reducible refine r.out.mono ?_);rintro e w' ⟨rfl,rfl⟩)
      go_round
      case rel =>
       refine ⟨k+1,by omega,by go_num,fun j t=>?_⟩
       rcases Nat.lt_or_ge j k with h | h
       · exact u.out j h
       · obtain rfl:j=k:=by omega
         exact z.out
      case measure=>simp [intOf];omega
  · have a:nameB (bytesOf s)=true:=nameB_yes (by rw [l.out];omega) (by rw [l.out];exact A.out) y.out (fun j t=>u.out j (by rw [l.out] at t;omega))
    have p:=LH a
    clear a
    go_wp2
    go_ret
    exact ⟨by rw [p.out];rfl,rfl⟩
theorem ref_name (s:ByteArray) (w:World):Calls Tryz.prog 119 #[.string s] w fun e w'=>e = .returned (.bool (nameB (bytesOf s)))∧w=w':=by
 have f:=bytesOf_len s
 by_cases t:s.size=0
 · have a:nameB (bytesOf s)=false:=by simp [nameB,f,t]
   rw [a]
   have B:((s.size:Int) == 0)=true:=by rw [beq_iff_eq];omega
   clear a f
   go_enter Tryz.func119,Tryz.ntmps119
   go_wp2
   go_ret
   exact ⟨rfl,rfl⟩
 have g:0 < s.size:=by omega
 have B:((s.size:Int) == 0)=false:=by rw [beq_eq_false_iff_ne];omega
 have C:=LH t
 clear t
 by_cases m:s.size≤20
 case neg =>
  have a:nameB (bytesOf s)=false:=by simp [nameB,f,m]
  rw [a]
  have D:(20:Int) < (s.size:Int):=by omega
  clear a f m
  go_enter Tryz.func119,Tryz.ntmps119
  go_wp2
  go_ret
  exact ⟨rfl,rfl⟩
 have F:¬ (20:Int) < (s.size:Int):=by omega
 have q:Hid (∀ k (h:k < s.size),(bytesOf s).getD k 0=(s[k]'h).toNat):=LH fun k h=>getD_of_get (bytesOf_get s k h)
 have l:=LH f
 have c:=lx_first (s[0]'g).toNat w ((s[0]'g).toNat_lt)
 have A:=LH m
 clear f m
 cases b:letterB (s[0]'g).toNat
 · have a:nameB (bytesOf s)=false:=by unfold nameB;rw [q.out 0 g,b];simp
   rw [a]
   rw [b] at c
   have o:=LH c
   clear a c b
   go_enter Tryz.func119,Tryz.ntmps119
   go_wp2_with (go_at_call 173;(with_reducible refine o.out.mono ?_);rintro e w' ⟨rfl,rfl⟩)
   go_ret
   exact ⟨rfl,rfl⟩
 rw [b] at c
 have o:=LH c
 have y:Hid (letterB ((bytesOf s).getD 0 0)=true):=LH (by rw [q.out 0 g];exact b)
 clear c b
 go_enter Tryz.func119,Tryz.ntmps119
 go_wp2_with (go_at_call 173;(with_reducible refine o.out.mono ?_);rintro e w' ⟨rfl,rfl⟩)
 go_loop [3] (fun i=>∃ k:Nat,k≤s.size∧i = .int .i64 (k:Int)∧∀ j,j < k→innerB ((bytesOf s).getD j 0)=true) (fun i=>s.size - (intOf i).toNat)
 case atStart=>exact ⟨0,Nat.zero_le _,rfl,fun j u=>by omega⟩
 case round =>
  obtain ⟨k,E,rfl,x⟩:=hrel
  have v:=LH x
  clear x
  by_cases b:k < s.size
  · have d:=lx_later (s[k]'b).toNat w ((s[k]'b).toNat_lt)
    have n:=q.out k b
    cases hd:innerB (s[k]'b).toNat
    · have a:nameB (bytesOf s)=false:=nameB_no k (by rw [l.out];exact b) (by rw [n];exact hd)
      have p:=LH a
      rw [hd] at d
      have r:=LH d
      clear d hd n a
      go_wp2_with (go_at_call 174;(with_reducible refine r.out.mono ?_);rintro e w' ⟨rfl,rfl⟩)
      go_ret
      exact ⟨by rw [p.out];rfl,rfl⟩
    · rw [hd] at d
      have r:=LH d
      have z:Hid (innerB ((bytesOf s).getD k 0)=true):=LH (by rw [n];exact hd)
      clear d hd n
      go_wp2_with (go_at_call 174;(with_reducible refine r.out.mono ?_);rintro e w' ⟨rfl,rfl⟩)
      go_round
      case rel =>
       refine ⟨k+1,by omega,by go_num,fun j u=>?_⟩
       rcases Nat.lt_or_ge j k with h | h
       · exact v.out j h
       · obtain rfl:j=k:=by omega
         exact z.out
      case measure=>simp [intOf];omega
  · have a:nameB (bytesOf s)=true:=nameB_yes (by rw [l.out];omega) (by rw [l.out];exact A.out) y.out (fun j u=>v.out j (by rw [l.out] at u;omega))
    have p:=LH a
    clear a
    go_wp2
    go_ret
    exact ⟨by rw [p.out];rfl,rfl⟩
def litN (l:List Nat):Nat × Nat :=
 if l.length < 2 then (0,4)
 else if plainB (l.getD 1 0) then (if l.length≤2 then (0,4) else if l.getD 2 0=39 then (3,0) else (0,3))
 else if l.getD 1 0 ≠ 92 then (0,3)
 else if l.length < 3 then (0,4)
 else if !escapedB (l.getD 2 0) then (0,3)
 else if l.length≤3 then (0,4) else if l.getD 3 0=39 then (4,0) else (0,3)
theorem lt256 {l:List Nat} (h:∀ x ∈ l,x < 256) (j:Nat):l.getD j 0 < 256:=by
 rw [List.getD_eq_getElem?_getD]
 rcases Nat.lt_or_ge j l.length with a | a
 · rw [List.getElem?_eq_getElem a];exact h _ (List.getElem_mem a)
 · rw [List.getElem?_eq_none a];exact by decide
theorem lx_literal (A:Option Addr) (n c:Nat) (d:List Nat) (w:World) (h:Nums .u8 w A n c d) (q:∀ x ∈ d,x < 256) :
 Calls Tryz.prog 229 #[.slice A n c] w fun e w'=>e = .returned (.tuple #[.int .i64 ((litN d).1:Int), .int .i64 ((litN d).2:Int)])∧w=w':=by
 obtain rfl:=h.len
 have I:=h.cap
 by_cases B:d.length < 2
 · have D:litN d=(0,4):=by simp [litN,B]
   rw [D]
   clear D
   go_enter Tryz.func229,Tryz.ntmps229
   go_wp2
   go_ret2
   exact ⟨rfl,rfl⟩
 obtain ⟨b,L,rfl,H,s⟩:=h.at_ (by omega)
 have F:=lt256 q 1
 have G:=lt256 q 2
 have J:=lt256 q 3
 have c1:=s 1 (by omega)
 have c2:=fun h=>s 2 h
 have c3:=fun h=>s 3 h
 have a:litN d=if plainB (d.getD 1 0) then (if d.length≤2 then (0,4) else if d.getD 2 0=39 then (3,0) else (0,3))
  else if d.getD 1 0 ≠ 92 then (0,3) else if d.length < 3 then (0,4) else if !escapedB (d.getD 2 0) then (0,3)
  else if d.length≤3 then (0,4) else if d.getD 3 0=39 then (4,0) else (0,3):=by
  unfold litN;rw [if_neg B]
 generalize d.getD 1 0=o at *
 generalize d.getD 2 0=p at *
 generalize d.getD 3 0=z at *
 generalize litN d=r at *
 have k:=lx_plain o w F
 have g:=lx_escaped p w G
 clear s q
 cases u:plainB o
 · rw [u] at k a
   have f:=LH k
   clear k u
   simp only [Bool.false_eq_true,if_false] at a
   by_cases v:o=92
   · have E:((o:Int) == 92)=true:=by rw [beq_iff_eq];omega
     simp only [v,ne_eq,not_true,if_false] at a
     clear v
     by_cases m:d.length < 3
     · rw [if_pos m] at a
       subst a
       clear c2 c3 g
       go_enter Tryz.func229,Tryz.ntmps229
       go_wp2_with (go_at_call 235;(with_reducible refine f.out.mono ?_);rintro e w' ⟨rfl,rfl⟩)
       go_ret2
       exact ⟨rfl,rfl⟩
     · rw [if_neg m] at a
       have c2:=c2 (by omega)
       cases t:escapedB p
       · rw [t] at g a
         have l:=LH g
         clear g t c3
         simp only [Bool.not_false,if_true] at a
         subst a
         go_enter Tryz.func229,Tryz.ntmps229
         go_wp2_with (first
          | (go_at_call 235;(with_reducible refine f.out.mono ?_);rintro e w' ⟨rfl,rfl⟩)
          | (go_at_call 236;(with_reducible refine l.out.mono ?_);rintro e w' ⟨rfl,rfl⟩))
         go_ret2
         exact ⟨rfl,rfl⟩
       · rw [t] at g a
         have l:=LH g
         clear g t
         simp only [Bool.not_true,Bool.false_eq_true,if_false] at a
         by_cases C:d.length≤3
         · rw [if_pos C] at a
           subst a
           clear c3
           go_enter Tryz.func229,Tryz.ntmps229
           go_wp2_with (first
            | (go_at_call 235;(with_reducible refine f.out.mono ?_);rintro e w' ⟨rfl,rfl⟩)
            | (go_at_call 236;(with_reducible refine l.out.mono ?_);rintro e w' ⟨rfl,rfl⟩))
           go_ret2
           exact ⟨rfl,rfl⟩
         · rw [if_neg C] at a
           have c3:=c3 (by omega)
           by_cases j:z=39
           · have y:((z:Int) == 39)=true:=by rw [beq_iff_eq];omega
             rw [if_pos j] at a
             subst a
             clear j
             go_enter Tryz.func229,Tryz.ntmps229
             go_wp2_with (first
              | (go_at_call 235;(with_reducible refine f.out.mono ?_);rintro e w' ⟨rfl,rfl⟩)
              | (go_at_call 236;(with_reducible refine l.out.mono ?_);rintro e w' ⟨rfl,rfl⟩))
             go_ret2
             exact ⟨rfl,rfl⟩
           · have y:((z:Int) == 39)=false:=by rw [beq_eq_false_iff_ne];omega
             rw [if_neg j] at a
             subst a
             clear j
             go_enter Tryz.func229,Tryz.ntmps229
             go_wp2_with (first
              | (go_at_call 235;(with_reducible refine f.out.mono ?_);rintro e w' ⟨rfl,rfl⟩)
              | (go_at_call 236;(with_reducible refine l.out.mono ?_);rintro e w' ⟨rfl,rfl⟩))
             go_ret2
             exact ⟨rfl,rfl⟩
   · have E:((o:Int) == 92)=false:=by rw [beq_eq_false_iff_ne];omega
     rw [if_pos v] at a
     subst a
     clear v c2 c3 g
     go_enter Tryz.func229,Tryz.ntmps229
     go_wp2_with (go_at_call 235;(with_reducible refine f.out.mono ?_);rintro e w' ⟨rfl,rfl⟩)
     go_ret2
     exact ⟨rfl,rfl⟩
 · rw [u] at k a
   have f:=LH k
   clear k u g c3
   simp only [if_true] at a
   by_cases m:d.length≤2
   · rw [if_pos m] at a
     subst a
     clear c2
     go_enter Tryz.func229,Tryz.ntmps229
     go_wp2_with (go_at_call 235;(with_reducible refine f.out.mono ?_);rintro e w' ⟨rfl,rfl⟩)
     go_ret2
     exact ⟨rfl,rfl⟩
   · rw [if_neg m] at a
     have c2:=c2 (by omega)
     by_cases j:p=39
     · have y:((p:Int) == 39)=true:=by rw [beq_iff_eq];omega
       rw [if_pos j] at a
       subst a
       clear j
       go_enter Tryz.func229,Tryz.ntmps229
       go_wp2_with (go_at_call 235;(with_reducible refine f.out.mono ?_);rintro e w' ⟨rfl,rfl⟩)
       go_ret2
       exact ⟨rfl,rfl⟩
     · have y:((p:Int) == 39)=false:=by rw [beq_eq_false_iff_ne];omega
       rw [if_neg j] at a
       subst a
       clear j
       go_enter Tryz.func229,Tryz.ntmps229
       go_wp2_with (go_at_call 235;(with_reducible refine f.out.mono ?_);rintro e w' ⟨rfl,rfl⟩)
       go_ret2
       exact ⟨rfl,rfl⟩
def litB (l:List Nat):Bool :=
 (decide (l.length=3) && decide (l.getD 0 0=39) && decide (l.getD 2 0=39) && plainB (l.getD 1 0)) ||
 (decide (l.length=4) && decide (l.getD 0 0=39) && decide (l.getD 3 0=39) && decide (l.getD 1 0=92) && escapedB (l.getD 2 0))
theorem plain92:plainB 92=false:=by decide
theorem litB_lit (l:List Nat):litB l=(decide (l.getD 0 0=39) && (decide ((litN l).2=0) && decide ((litN l).1=l.length))):=by
 unfold litB litN
 generalize l.getD 0 0=f
 generalize d:l.getD 1 0=a
 generalize l.getD 2 0=c
 generalize l.getD 3 0=g
 generalize l.length=n
 by_cases b:a=92
 · subst b
   rw [plain92]
   cases escapedB c <;> grind
 · cases plainB a <;> grind
theorem lx_Literal (s:ByteArray) (w:World) (y:s.size≤maxLen) :
 Calls Tryz.prog 203 #[.string s] w fun e w'=>e = .returned (.bool (litB (bytesOf s)))∧Below w.heap.size w w':=by
 have h:=bytesOf_len s
 have a:=litB_lit (bytesOf s)
 by_cases l:s.size=0
 · have g:litB (bytesOf s)=false:=by unfold litB;rw [h,l];simp
   rw [g]
   have C:=isEmpty_str0 s l
   clear g h a
   go_enter Tryz.func203,Tryz.ntmps203
   go_wp2
   go_ret
   exact ⟨rfl,Below.refl _ _⟩
 have f:0 < s.size:=by omega
 obtain ⟨D,E⟩:=isEmpty_str s f
 have v:=getD_of_get (d:=0) (bytesOf_get s 0 f)
 rw [v,h] at a
 have B:=LH l
 clear l
 by_cases m:(s[0]'f).toNat=39
 case neg =>
  have g:litB (bytesOf s)=false:=by rw [a];simp [m]
  rw [g]
  have x:(((s[0]'f).toNat:Int) == 39)=false:=by rw [beq_eq_false_iff_ne];omega
  clear g h a v m
  go_enter Tryz.func203,Tryz.ntmps203
  go_wp2
  go_ret
  exact ⟨rfl,Below.refl _ _⟩
 have x:(((s[0]'f).toNat:Int) == 39)=true:=by rw [beq_iff_eq];omega
 rw [m] at a
 simp only [decide_true,Bool.true_and] at a
 have F:=fun w=>Lib.run_convert_string_bytes (P:=Tryz.prog) w 9 72 5 s Tryz.underlying9 Tryz.underlying72 Tryz.underlying5
 have t:=bytesWorld_below w 5 s
 have u:=lx_literal _ _ _ (bytesOf s) _ (bytesWorld_nums w 5 s y) (bytesOf_lt s)
 generalize litB (bytesOf s)=r at *
 generalize litN (bytesOf s)=p at *
 obtain ⟨j,k⟩:=p
 simp only [] at u a
 have q:=LH u
 clear u h v m
 by_cases n:k=0
 · have z:((k:Int) == 0)=true:=by rw [beq_iff_eq];omega
   have b:decide (k=0)=true:=by simp [n]
   rw [b] at a
   clear b n
   by_cases o:j=s.size
   · have A:((j:Int) == (s.size:Int))=true:=by rw [beq_iff_eq];omega
     have c:decide (j=s.size)=true:=by simp [o]
     rw [c] at a
     subst a
     clear c o
     go_enter Tryz.func203,Tryz.ntmps203
     go_wp2_with (go_at_call 229;(with_reducible refine q.out.mono ?_);rintro e w' ⟨rfl,rfl⟩)
     go_ret
     exact ⟨rfl,t⟩
   · have A:((j:Int) == (s.size:Int))=false:=by rw [beq_eq_false_iff_ne];omega
     have c:decide (j=s.size)=false:=by simp [o]
     rw [c] at a
     subst a
     clear c o
     go_enter Tryz.func203,Tryz.ntmps203
     go_wp2_with (go_at_call 229;(with_reducible refine q.out.mono ?_);rintro e w' ⟨rfl,rfl⟩)
     go_ret
     exact ⟨rfl,t⟩
 · have z:((k:Int) == 0)=false:=by rw [beq_eq_false_iff_ne];omega
   have b:decide (k=0)=false:=by simp [n]
   rw [b] at a
   subst a
   clear b n
   go_enter Tryz.func203,Tryz.ntmps203
   go_wp2_with (go_at_call 229;(with_reducible refine q.out.mono ?_);rintro e w' ⟨rfl,rfl⟩)
   go_ret
   exact ⟨rfl,t⟩
theorem ref_Literal (s:ByteArray) (w:World) :
 Calls Tryz.prog 172 #[.string s] w fun e w'=>e = .returned (.bool (litB (bytesOf s)))∧w=w':=by
 have n:=bytesOf_len s
 have c:Hid (∀ k (h:k < s.size),(bytesOf s).getD k 0=(s[k]'h).toNat):=LH fun k h=>getD_of_get (bytesOf_get s k h)
 have d:Hid (litB (bytesOf s)=((decide (s.size=3) && decide ((bytesOf s).getD 0 0=39) && decide ((bytesOf s).getD 2 0=39) && plainB ((bytesOf s).getD 1 0)) ||
  (decide (s.size=4) && decide ((bytesOf s).getD 0 0=39) && decide ((bytesOf s).getD 3 0=39) && decide ((bytesOf s).getD 1 0=92) && escapedB ((bytesOf s).getD 2 0)))):=LH (by unfold litB;rw [n])
 clear n
 by_cases f:s.size=3
 · have p:((s.size:Int) == 3)=true:=by rw [beq_iff_eq];omega
   have g:0 < s.size:=by omega
   have a:1 < s.size:=by omega
   have b:2 < s.size:=by omega
   have l:Hid (litB (bytesOf s)=(decide ((s[0]'g).toNat=39) && decide ((s[2]'b).toNat=39) && decide (32≤(s[1]'a).toNat∧(s[1]'a).toNat≤126∧(s[1]'a).toNat ≠ 39∧(s[1]'a).toNat ≠ 92))):=LH (by
    rw [d.out,c.out 0 g,c.out 1 a,c.out 2 b,f]
    simp [plainB])
   clear f d
   go_enter Tryz.func172,Tryz.ntmps172
   go_wp2
   all_goals
    go_ret
    refine ⟨ret_bool ?_,rfl⟩
    rw [l.out]
    rw [Bool.eq_iff_iff];simp only [Bool.or_eq_true,Bool.and_eq_true,beq_iff_eq,bne_iff_ne,ne_eq,Bool.not_eq_true',decide_eq_true_eq,decide_eq_false_iff_not,Bool.false_eq_true,true_iff,false_iff,iff_true,iff_false];omega
 have p:((s.size:Int) == 3)=false:=by rw [beq_eq_false_iff_ne];omega
 by_cases j:s.size=4
 · have q:((s.size:Int) == 4)=true:=by rw [beq_iff_eq];omega
   have g:0 < s.size:=by omega
   have a:1 < s.size:=by omega
   have b:2 < s.size:=by omega
   have o:3 < s.size:=by omega
   have l:Hid (litB (bytesOf s)=(decide ((s[0]'g).toNat=39) && decide ((s[3]'o).toNat=39) && decide ((s[1]'a).toNat=92) && decide ((s[2]'b).toNat=110∨(s[2]'b).toNat=116∨(s[2]'b).toNat=92∨(s[2]'b).toNat=39))):=LH (by
    rw [d.out,c.out 0 g,c.out 1 a,c.out 2 b,c.out 3 o,j]
    simp [escapedB])
   clear f j d
   go_enter Tryz.func172,Tryz.ntmps172
   go_wp2
   all_goals
    go_ret
    refine ⟨ret_bool ?_,rfl⟩
    rw [l.out]
    rw [Bool.eq_iff_iff];simp only [Bool.or_eq_true,Bool.and_eq_true,beq_iff_eq,bne_iff_ne,ne_eq,Bool.not_eq_true',decide_eq_true_eq,decide_eq_false_iff_not,Bool.false_eq_true,true_iff,false_iff,iff_true,iff_false];omega
 · have q:((s.size:Int) == 4)=false:=by rw [beq_eq_false_iff_ne];omega
   have m:litB (bytesOf s)=false:=by rw [d.out];simp [f,j]
   rw [m]
   clear m f j d
   go_enter Tryz.func172,Tryz.ntmps172
   go_wp2
   go_ret
   exact ⟨rfl,rfl⟩
def findI {α:Type} (p:α→Bool) (l:List α):Int:=match l.findIdx? p with | some i=>(i:Int) | none=>-1
theorem findI_at {α:Type} {p:α→Bool} {l:List α} {k:Nat} {x:α} (a:l[k]? = some x) (d:p x=true) (h:∀ j,j < k→∀ y,l[j]? = some y→p y=false):findI p l=(k:Int):=by
 have b:k < l.length:=(List.getElem?_eq_some_iff.1 a).1
 have:l.findIdx? p=some k:=by
  rw [List.findIdx?_eq_some_iff_getElem]
  refine ⟨b,?_,fun j c=>?_⟩
  · have:l[k]=x:=by rw [List.getElem?_eq_getElem b] at a;injection a
    rw [this];exact d
  · have:=h j c l[j] (List.getElem?_eq_getElem (by omega))
    simp [this]
 unfold findI
 rw [this]
theorem findI_none {α:Type} {p:α→Bool} {l:List α} (h:∀ (j:Nat) y,l[j]? = some y→p y=false):findI p l=-1:=by
 have:l.findIdx? p=none:=by
  rw [List.findIdx?_eq_none_iff]
  intro x b
  obtain ⟨j,a⟩:=List.getElem?_of_mem b
  exact h j x a
 unfold findI
 rw [this]
theorem findI_lo {α:Type} (p:α→Bool) (l:List α):-1≤findI p l∧findI p l < l.length:=by
 unfold findI
 split
 · rename_i i h
   have:=(List.findIdx?_eq_some_iff_getElem.1 h).1
   omega
 · omega
theorem findI_neg {α:Type} {p:α→Bool} {l:List α} (h:findI p l < 0):∀ (j:Nat) y,l[j]? = some y→p y=false:=by
 intro j y b
 unfold findI at h
 split at h
 · omega
 · rename_i a
   rw [List.findIdx?_eq_none_iff] at a
   exact a y (List.mem_of_getElem? b)
theorem findI_pos {α:Type} {p:α→Bool} {l:List α} {k:Nat} (h:findI p l=(k:Int)):∃ x,l[k]? = some x∧p x=true∧∀ j,j < k→∀ y,l[j]? = some y→p y=false:=by
 unfold findI at h
 split at h
 · rename_i i hi
   have:i=k:=by omega
   subst this
   obtain ⟨b,c,d⟩:=List.findIdx?_eq_some_iff_getElem.1 hi
   refine ⟨_,List.getElem?_eq_getElem b,c,fun j f y a=>?_⟩
   have:=d j f
   rw [List.getElem?_eq_getElem (by omega)] at a
   injection a with a
   subst a
   simpa using this
 · omega
def allI {α:Type} (p:Nat→α→Bool) (l:List α):Bool:=(List.range l.length).all fun j=>match l[j]? with | some y=>p j y | none=>true
theorem allI_true {α:Type} {p:Nat→α→Bool} {l:List α} (h:∀ (j:Nat) y,l[j]? = some y→p j y=true):allI p l=true:=by
 unfold allI
 rw [List.all_eq_true]
 intro j _
 cases a:l[j]? with
 | none=>rfl
 | some y=>exact h j y a
theorem allI_get {α:Type} {p:Nat→α→Bool} {l:List α} (h:allI p l=true) {j:Nat} {y:α} (a:l[j]? = some y):p j y=true:=by
 unfold allI at h
 rw [List.all_eq_true] at h
 have:=h j (by rw [List.mem_range];exact (List.getElem?_eq_some_iff.1 a).1)
 rw [a] at this
 exact this
theorem allI_false {α:Type} {p:Nat→α→Bool} {l:List α} {j:Nat} {y:α} (b:l[j]? = some y) (h:p j y=false):allI p l=false:=by
 cases a:allI p l
 · rfl
 · rw [allI_get a b] at h;cases h
theorem all_get {α:Type} {p:α→Bool} {l:List α} (h:l.all p=true) {j:Nat} {y:α} (a:l[j]? = some y):p y=true:=(List.all_eq_true.1 h) y (List.mem_of_getElem? a)
theorem all_true {α:Type} {p:α→Bool} {l:List α} (h:∀ (j:Nat) y,l[j]? = some y→p y=true):l.all p=true:=by
 rw [List.all_eq_true]
 intro x b
 obtain ⟨j,a⟩:=List.getElem?_of_mem b
 exact h j x a
theorem all_false {α:Type} {p:α→Bool} {l:List α} {j:Nat} {y:α} (b:l[j]? = some y) (h:p y=false):l.all p=false:=by
 cases a:l.all p
 · rfl
 · rw [all_get a b] at h;cases h
def Gr.has (G:Gr) (s:Int):Bool:=if 0≤s then decide (s < (G.terms.length:Int)) else decide (-1 - s < (G.nons.length:Int))
def Gr.term (G:Gr) (s:ByteArray):Int:=findI (fun t=>decide (t.name=s)) G.terms
def Gr.non (G:Gr) (s:ByteArray):Int:=findI (fun t=>decide (t=s)) G.nons
def namedB (s:ByteArray):Bool:=nameB (bytesOf s) || litB (bytesOf s)
def levelGo (n:Int):List Trm→Int→Bool
 | [],way=>decide (way ≠ 0)
 | t::ts,way=>if t.level=n then (if way ≠ 0∧way ≠ t.assoc then false else levelGo n ts t.assoc) else levelGo n ts way
def levelB (l:List Trm) (n:Int):Bool:=levelGo n l 0
def basicT (t:Trm):Bool:=namedB t.name && decide (0≤t.level∧t.level≤24) && decide (0≤t.assoc∧t.assoc≤3) && (decide (t.level=0) == decide (t.assoc=0))
def levelsT (l:List Trm) (t:Trm):Bool:=(List.range t.level.toNat).all fun n=>levelB l ((n:Int)+1)
def Gr.termOK (G:Gr) (i:Nat) (t:Trm):Bool:=decide (G.term t.name=(i:Int)) && basicT t && levelsT G.terms t
def Gr.termsOK (G:Gr):Bool:=decide (G.terms.length≤24) && allI G.termOK G.terms
def Gr.nonOK (G:Gr) (i:Nat) (s:ByteArray):Bool:=nameB (bytesOf s) && decide (G.non s=(i:Int)) && decide (G.term s < 0)
def Gr.nonsOK (G:Gr):Bool:=decide (1≤G.nons.length∧G.nons.length≤16) && allI G.nonOK G.nons
def Gr.symOK (G:Gr) (a:Int) (s:Int):Bool:=G.has s && !(decide (0≤s) && decide (a=-1))
def Gr.ruleOK (G:Gr) (r:Rul):Bool:=decide (r.right.length≤6) && decide (-1≤r.prec∧r.prec < (G.terms.length:Int)) && r.right.all (G.symOK r.prec)
def Gr.leftsGo (G:Gr):List Rul→Int→Option Int
 | [],top=>some top
 | r::rs,top=>if 0≤r.left∧r.left≤top+1∧G.ruleOK r=true then G.leftsGo rs (max top r.left) else none
def Gr.right (G:Gr):Bool :=
 G.termsOK && G.nonsOK && decide (1≤G.rules.length∧G.rules.length≤40) && decide (0≤G.start∧G.start < (G.nons.length:Int)) && decide (G.leftsGo G.rules (-1)=some ((G.nons.length:Int) - 1))
def Gr.great (G:Gr):Bool:=decide (40 < G.terms.length) || decide (40 < G.nons.length) || decide (60 < G.rules.length) || G.rules.any fun r=>decide (20 < r.right.length)
theorem Gr.leftsGo_snoc (G:Gr):∀ (a:List Rul) (r:Rul) (top:Int),G.leftsGo (a++[r]) top=(G.leftsGo a top).bind fun t=>if 0≤r.left∧r.left≤t+1∧G.ruleOK r=true then some (max t r.left) else none
 | [],r,top=>by simp [Gr.leftsGo]
 | q::a,r,top=>by
   rw [List.cons_append,Gr.leftsGo,Gr.leftsGo]
   split
   · exact Gr.leftsGo_snoc G a r _
   · rfl
theorem Gr.leftsGo_none (G:Gr) (a d:List Rul) (top:Int) (h:G.leftsGo a top=none):G.leftsGo (a++d) top=none:=by
 induction a generalizing top with
 | nil=>simp [Gr.leftsGo] at h
 | cons r a c =>
   rw [List.cons_append,Gr.leftsGo]
   rw [Gr.leftsGo] at h
   split
   · rename_i b
     rw [if_pos b] at h
     exact c _ h
   · rfl
theorem Gr.leftsGo_bd (G:Gr):∀ (a:List Rul) (top t:Int),-1≤top→G.leftsGo a top=some t→top≤t∧t≤top+a.length
 | [],top,t,h0,h=>by simp [Gr.leftsGo] at h;subst h;simp
 | r::a,top,t,h0,h=>by
   rw [Gr.leftsGo] at h
   split at h
   · rename_i b
     have:=Gr.leftsGo_bd G a _ t (by omega) h
     simp only [List.length_cons]
     omega
   · cases h
end Go.Proofs.YtggbjdmpjidhgaaGreatDoor
