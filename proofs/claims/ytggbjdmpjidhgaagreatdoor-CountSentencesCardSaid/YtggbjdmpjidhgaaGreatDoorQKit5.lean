/- Words for slices that read as strings; a string's bytes appended. -/
import Derived.Test.YtggbjdmpjidhgaaGreatDoorQKit
import Derived.Lib.AppendStr
import Derived.Lib.ConvBytes
import Derived.Laws.AppendOwn
set_option linter.unusedVariables false
set_option linter.unusedSimpArgs false
set_option maxHeartbeats 8000000
set_option maxRecDepth 100000
namespace Go.Proofs.YtggbjdmpjidhgaaGreatDoor
open Go.RowKit
def Strs (w:World) (A:Option Addr) (n c:Nat) (ss:List ByteArray):Prop:=Sl w A n c (ss.map Value.string)
theorem Strs.len {w:World} {A:Option Addr} {n c:Nat} {ss:List ByteArray} (h:Strs w A n c ss):ss.length=n:=by have:=h.1;simpa using this
theorem Strs.cap {w:World} {A:Option Addr} {n c:Nat} {ss:List ByteArray} (h:Strs w A n c ss):n≤c∧c≤9223372036854775807:=⟨h.2.1,h.2.2.1⟩
theorem Strs.below {w w':World} {A:Option Addr} {n c:Nat} {ss:List ByteArray} (h:Strs w A n c ss) (hb:Below w.heap.size w w'):Strs w' A n c ss:=Sl.below h hb
theorem Strs.get {w:World} {A:Option Addr} {n c:Nat} {ss:List ByteArray} (h:Strs w A n c ss) {j:Nat} (hj:j < n) :
 ∃ b off s,A=some ⟨b,off,none⟩∧b < w.heap.size∧Hid (ss[j]? = some s)∧w.cell? ⟨b,off+j,none⟩=some (.string s):=by
 have hl:=h.len
 obtain ⟨b,off,e,hb,hc⟩:=h.2.2.2 (by rw [List.length_map];omega)
 refine ⟨b,off,ss[j]'(by omega),e,hb,LH (List.getElem?_eq_getElem (by omega)),?_⟩
 rw [hc j (by rw [List.length_map];omega)]
 simp [List.getElem?_eq_getElem (show j < ss.length by omega)]
section
variable {P:Program} {w:World}
end
structure Trm where
 name:ByteArray
 level:Int
 assoc:Int
structure Rul where
 left:Int
 right:List Int
 prec:Int
structure Gr where
 terms:List Trm
 nons:List ByteArray
 rules:List Rul
 start:Int
def InI64 (x:Int):Prop:=-9223372036854775808≤x∧x≤9223372036854775807
def Trms (w:World) (A:Option Addr) (n c:Nat) (ts:List Trm):Prop :=
 ts.length=n∧n≤c∧c≤9223372036854775807∧(0 < n→∃ b off,A=some ⟨b,off,none⟩∧b < w.heap.size∧∀ j t,ts[j]? = some t →
  w.cell? ⟨b,off+j * 3,none⟩=some (.string t.name)∧w.cell? ⟨b,off+j * 3+1,none⟩=some (.int .i64 t.level)∧w.cell? ⟨b,off+j * 3+2,none⟩=some (.int .i64 t.assoc))
def Ruls (w:World) (A:Option Addr) (n c:Nat) (rs:List Rul):Prop :=
 rs.length=n∧n≤c∧c≤9223372036854775807∧(0 < n→∃ b off,A=some ⟨b,off,none⟩∧b < w.heap.size∧∀ j r,rs[j]? = some r →
  ∃ Ar cr,w.cell? ⟨b,off+j * 3,none⟩=some (.int .i64 r.left)∧w.cell? ⟨b,off+j * 3+1,none⟩=some (.slice Ar r.right.length cr)∧w.cell? ⟨b,off+j * 3+2,none⟩=some (.int .i64 r.prec)∧Ints .i64 w Ar r.right.length cr r.right)
theorem Trms.len {w:World} {A:Option Addr} {n c:Nat} {ts:List Trm} (h:Trms w A n c ts):ts.length=n:=h.1
theorem Trms.cap {w:World} {A:Option Addr} {n c:Nat} {ts:List Trm} (h:Trms w A n c ts):n≤c∧c≤9223372036854775807:=⟨h.2.1,h.2.2.1⟩
theorem Trms.below {w w':World} {A:Option Addr} {n c:Nat} {ts:List Trm} (h:Trms w A n c ts) (hb:Below w.heap.size w w'):Trms w' A n c ts:=by
 refine ⟨h.1,h.2.1,h.2.2.1,fun hn=>?_⟩
 obtain ⟨b,off,e,hlt,hc⟩:=h.2.2.2 hn
 refine ⟨b,off,e,Nat.lt_of_lt_of_le hlt hb.size,fun j t ht=>?_⟩
 rw [hb.cell (p:=⟨b,off+j * 3,none⟩) hlt,hb.cell (p:=⟨b,off+j * 3+1,none⟩) hlt,hb.cell (p:=⟨b,off+j * 3+2,none⟩) hlt]
 exact hc j t ht
theorem Trms.get {w:World} {A:Option Addr} {n c:Nat} {ts:List Trm} (h:Trms w A n c ts) {j:Nat} (hj:j < n) :
 ∃ b off t,A=some ⟨b,off,none⟩∧b < w.heap.size∧Hid (ts[j]? = some t)∧w.cell? ⟨b,off+j * 3,none⟩=some (.string t.name)∧w.cell? ⟨b,off+j * 3+1,none⟩=some (.int .i64 t.level)∧w.cell? ⟨b,off+j * 3+2,none⟩=some (.int .i64 t.assoc):=by
 obtain ⟨b,off,e,hlt,hc⟩:=h.2.2.2 (by omega)
 have hl:=h.1
 have ht:ts[j]? = some (ts[j]'(by omega)):=List.getElem?_eq_getElem (by omega)
 obtain ⟨h1,h2,h3⟩:=hc j _ ht
 exact ⟨b,off,_,e,hlt,LH ht,h1,h2,h3⟩
theorem Ruls.len {w:World} {A:Option Addr} {n c:Nat} {rs:List Rul} (h:Ruls w A n c rs):rs.length=n:=h.1
theorem Ruls.cap {w:World} {A:Option Addr} {n c:Nat} {rs:List Rul} (h:Ruls w A n c rs):n≤c∧c≤9223372036854775807:=⟨h.2.1,h.2.2.1⟩
theorem Ruls.below {w w':World} {A:Option Addr} {n c:Nat} {rs:List Rul} (h:Ruls w A n c rs) (hb:Below w.heap.size w w'):Ruls w' A n c rs:=by
 refine ⟨h.1,h.2.1,h.2.2.1,fun hn=>?_⟩
 obtain ⟨b,off,e,hlt,hc⟩:=h.2.2.2 hn
 refine ⟨b,off,e,Nat.lt_of_lt_of_le hlt hb.size,fun j r hr=>?_⟩
 rw [hb.cell (p:=⟨b,off+j * 3,none⟩) hlt,hb.cell (p:=⟨b,off+j * 3+1,none⟩) hlt,hb.cell (p:=⟨b,off+j * 3+2,none⟩) hlt]
 obtain ⟨Ar,cr,h1,h2,h3,h4⟩:=hc j r hr
 exact ⟨Ar,cr,h1,h2,h3,h4.below hb⟩
theorem Ruls.get {w:World} {A:Option Addr} {n c:Nat} {rs:List Rul} (h:Ruls w A n c rs) {j:Nat} (hj:j < n) :
 ∃ b off r Ar cr,A=some ⟨b,off,none⟩∧b < w.heap.size∧Hid (rs[j]? = some r)∧w.cell? ⟨b,off+j * 3,none⟩=some (.int .i64 r.left)∧w.cell? ⟨b,off+j * 3+1,none⟩=some (.slice Ar r.right.length cr)∧w.cell? ⟨b,off+j * 3+2,none⟩=some (.int .i64 r.prec)∧Ints .i64 w Ar r.right.length cr r.right:=by
 obtain ⟨b,off,e,hlt,hc⟩:=h.2.2.2 (by omega)
 have hl:=h.1
 have hr:rs[j]? = some (rs[j]'(by omega)):=List.getElem?_eq_getElem (by omega)
 obtain ⟨Ar,cr,h1,h2,h3,h4⟩:=hc j _ hr
 exact ⟨b,off,_,Ar,cr,e,hlt,LH hr,h1,h2,h3,h4⟩
structure GH where
 a1:Option Addr
 n1:Nat
 c1:Nat
 a2:Option Addr
 n2:Nat
 c2:Nat
 a3:Option Addr
 n3:Nat
 c3:Nat
abbrev GV (h:GH) (st:Int):Value := .agg #[.slice h.a1 h.n1 h.c1, .slice h.a2 h.n2 h.c2, .slice h.a3 h.n3 h.c3, .int .i64 st]
structure GrAt (w:World) (h:GH) (G:Gr):Prop where
 terms:Trms w h.a1 h.n1 h.c1 G.terms
 nons:Strs w h.a2 h.n2 h.c2 G.nons
 rules:Ruls w h.a3 h.n3 h.c3 G.rules
 wf:∀ r ∈ G.rules,∀ s ∈ r.right,InI64 s
theorem GrAt.below {w w':World} {h:GH} {G:Gr} (g:GrAt w h G) (hb:Below w.heap.size w w'):GrAt w' h G:=⟨g.terms.below hb,g.nons.below hb,g.rules.below hb,g.wf⟩
theorem alloc_below (w:World) (o:Obj):Below w.heap.size w (w.alloc o):=(Below.refl _ _).alloc (Nat.le_refl _) _
def letterB (c:Nat):Bool:=decide (97≤c∧c≤122) || decide (65≤c∧c≤90) || decide (c=95)
def innerB (c:Nat):Bool:=letterB c || decide (48≤c∧c≤57) || decide (c=46)
theorem letter_fact:∀ c:Nat,c < 256→letterB c=(decide (c=95) || (decide (97≤c ||| 32) && decide (c ||| 32≤122))):=by decide +kernel
theorem bits_or (c:Nat):bits BinOp.or .u8 (c:Int) 32=((c ||| 32:Nat):Int)∨256≤c:=by
 rcases Nat.lt_or_ge c 256 with h | h
 · left
   have:∀ c:Nat,c < 256→bits BinOp.or .u8 (c:Int) 32=((c ||| 32:Nat):Int):=by decide +kernel
   exact this c h
 · exact .inr h
theorem ret_bool {a b:Bool} (h:a=b):Ending.returned (.bool a)=Ending.returned (.bool b):=by rw [h]
theorem lx_letter (c:Nat) (w:World) (hc:c < 256) :
 Calls Tryz.prog 165 #[.int .u8 (c:Int)] w fun e w'=>e = .returned (.bool (letterB c))∧w=w':=by
 have hf:=letter_fact c hc
 have hb:=(bits_or c).resolve_right (by omega)
 have hp:∃ v:Nat,bits BinOp.or .u8 (c:Int) 32=(v:Int)∧letterB c=(decide (c=95) || (decide (97≤v) && decide (v≤122))):=⟨_,hb,hf⟩
 clear hf hb
 obtain ⟨v,hv,hf⟩:=hp
 have Hf:=LH hf
 clear hf
 have hways:c=95∨(c ≠ 95∧v < 97)∨(c ≠ 95∧97≤v∧v≤122)∨(c ≠ 95∧97≤v∧122 < v):=by omega
 rcases hways with h | ⟨h,g⟩ | ⟨h,g,g2⟩ | ⟨h,g,g2⟩
 all_goals
  go_enter Tryz.func165,Tryz.ntmps165
  go_wp2
  go_ret
  refine ⟨ret_bool ?_,rfl⟩
  rw [Hf.out]
  rw [Bool.eq_iff_iff];simp only [Bool.or_eq_true,Bool.and_eq_true,beq_iff_eq,bne_iff_ne,ne_eq,Bool.not_eq_true',decide_eq_true_eq,decide_eq_false_iff_not,Bool.false_eq_true,true_iff,false_iff,iff_true,iff_false];omega
def plainB (c:Nat):Bool:=decide (32≤c∧c≤126∧c ≠ 39∧c ≠ 92)
def escapedB (c:Nat):Bool:=decide (c=110∨c=116∨c=92∨c=39)
theorem lx_first (c:Nat) (w:World) (hc:c < 256) :
 Calls Tryz.prog 173 #[.int .u8 (c:Int)] w fun e w'=>e = .returned (.bool (letterB c))∧w=w':=by
 have hways:c < 65∨(65≤c∧c≤90)∨(90 < c∧c < 95)∨c=95∨(95 < c∧c < 97)∨(97≤c∧c≤122)∨122 < c:=by omega
 rcases hways with g0 | ⟨g0,g1⟩ | ⟨g0,g1⟩ | g0 | ⟨g0,g1⟩ | ⟨g0,g1⟩ | g0
 all_goals
  go_enter Tryz.func173,Tryz.ntmps173
  go_wp2
  all_goals
   go_ret
   refine ⟨ret_bool ?_,rfl⟩
   unfold letterB
   rw [Bool.eq_iff_iff];simp only [Bool.or_eq_true,Bool.and_eq_true,beq_iff_eq,bne_iff_ne,ne_eq,Bool.not_eq_true',decide_eq_true_eq,decide_eq_false_iff_not,Bool.false_eq_true,true_iff,false_iff,iff_true,iff_false];omega
theorem lx_plain (c:Nat) (w:World) (hc:c < 256) :
 Calls Tryz.prog 235 #[.int .u8 (c:Int)] w fun e w'=>e = .returned (.bool (plainB c))∧w=w':=by
 have hways:c < 32∨(32≤c∧c≤126∧c=39)∨(32≤c∧c≤126∧c=92)∨(32≤c∧c≤126∧c ≠ 39∧c ≠ 92)∨126 < c:=by omega
 rcases hways with g0 | ⟨g0,g1,g2⟩ | ⟨g0,g1,g2⟩ | ⟨g0,g1,g2,g3⟩ | g0
 all_goals
  go_enter Tryz.func235,Tryz.ntmps235
  go_wp2
  all_goals
   go_ret
   refine ⟨ret_bool ?_,rfl⟩
   unfold plainB
   rw [Bool.eq_iff_iff];simp only [Bool.or_eq_true,Bool.and_eq_true,beq_iff_eq,bne_iff_ne,ne_eq,Bool.not_eq_true',decide_eq_true_eq,decide_eq_false_iff_not,Bool.false_eq_true,true_iff,false_iff,iff_true,iff_false];omega
theorem lx_escaped (c:Nat) (w:World) (hc:c < 256) :
 Calls Tryz.prog 236 #[.int .u8 (c:Int)] w fun e w'=>e = .returned (.bool (escapedB c))∧w=w':=by
 have hways:c=110∨c=116∨c=92∨c=39∨(c ≠ 110∧c ≠ 116∧c ≠ 92∧c ≠ 39):=by omega
 rcases hways with g0 | g0 | g0 | g0 | ⟨g0,g1,g2,g3⟩
 all_goals
  go_enter Tryz.func236,Tryz.ntmps236
  go_wp2
  all_goals
   go_ret
   refine ⟨ret_bool ?_,rfl⟩
   unfold escapedB
   rw [Bool.eq_iff_iff];simp only [Bool.or_eq_true,Bool.and_eq_true,beq_iff_eq,bne_iff_ne,ne_eq,Bool.not_eq_true',decide_eq_true_eq,decide_eq_false_iff_not,Bool.false_eq_true,true_iff,false_iff,iff_true,iff_false];omega
theorem lx_inner (c:Nat) (w:World) (hc:c < 256) :
 Calls Tryz.prog 166 #[.int .u8 (c:Int)] w fun e w'=>e = .returned (.bool (innerB c))∧w=w':=by
 have h1:=lx_letter c w hc
 cases hl:letterB c
 all_goals
  rw [hl] at h1
  have H1:=LH h1
  have Hl:=LH hl
  clear h1 hl
  have hways:(c < 46∧((c:Int) == 46)=false)∨((c:Int) == 46)=true∨(46 < c∧c < 48∧((c:Int) == 46)=false)∨(48≤c∧c≤57∧((c:Int) == 46)=false)∨(57 < c∧((c:Int) == 46)=false):=by
   simp only [beq_iff_eq,beq_eq_false_iff_ne,ne_eq]
   omega
  rcases hways with ⟨g,g0⟩ | g0 | ⟨g,g1,g0⟩ | ⟨g,g1,g0⟩ | ⟨g,g0⟩
  all_goals
   go_enter Tryz.func166,Tryz.ntmps166
   go_wp2_with (go_at_call 165;(with_reducible refine H1.out.mono ?_);rintro e w' ⟨rfl,rfl⟩)
   all_goals
    go_ret
    refine ⟨ret_bool ?_,rfl⟩
    unfold innerB
    rw [Hl.out]
    try simp only [beq_iff_eq,beq_eq_false_iff_ne,ne_eq] at g0
    try simp only [Bool.true_or,Bool.false_or]
    all_goals first
    | rfl
    | (rw [Bool.eq_iff_iff];simp only [Bool.or_eq_true,Bool.and_eq_true,beq_iff_eq,bne_iff_ne,ne_eq,Bool.not_eq_true',decide_eq_true_eq,decide_eq_false_iff_not,Bool.false_eq_true,true_iff,false_iff,iff_true,iff_false];omega)
theorem lx_later (c:Nat) (w:World) (hc:c < 256) :
 Calls Tryz.prog 174 #[.int .u8 (c:Int)] w fun e w'=>e = .returned (.bool (innerB c))∧w=w':=by
 have h1:=lx_first c w hc
 cases hl:letterB c
 all_goals
  rw [hl] at h1
  have H1:=LH h1
  have Hl:=LH hl
  clear h1 hl
  have hways:(c < 46∧((c:Int) == 46)=false)∨((c:Int) == 46)=true∨(46 < c∧c < 48∧((c:Int) == 46)=false)∨(48≤c∧c≤57∧((c:Int) == 46)=false)∨(57 < c∧((c:Int) == 46)=false):=by
   simp only [beq_iff_eq,beq_eq_false_iff_ne,ne_eq]
   omega
  rcases hways with ⟨g,g0⟩ | g0 | ⟨g,g1,g0⟩ | ⟨g,g1,g0⟩ | ⟨g,g0⟩
  all_goals
   go_enter Tryz.func174,Tryz.ntmps174
   go_wp2_with (go_at_call 173;(with_reducible refine H1.out.mono ?_);rintro e w' ⟨rfl,rfl⟩)
   all_goals
    go_ret
    refine ⟨ret_bool ?_,rfl⟩
    unfold innerB
    rw [Hl.out]
    try simp only [beq_iff_eq,beq_eq_false_iff_ne,ne_eq] at g0
    try simp only [Bool.true_or,Bool.false_or]
    all_goals first
    | rfl
    | (rw [Bool.eq_iff_iff];simp only [Bool.or_eq_true,Bool.and_eq_true,beq_iff_eq,bne_iff_ne,ne_eq,Bool.not_eq_true',decide_eq_true_eq,decide_eq_false_iff_not,Bool.false_eq_true,true_iff,false_iff,iff_true,iff_false];omega)
theorem bytesWorld_below (w:World) (e:TypeId) (s:ByteArray):Below w.heap.size w (Lib.bytesWorld w e s):=by
 refine ⟨rfl,rfl,rfl,?_,fun k hk=>Lib.bytesWorld_at_old w e s k hk⟩
 rw [Lib.bytesWorld_size];omega
theorem bytesWorld_nums (w:World) (e:TypeId) (s:ByteArray) (hs:s.size≤maxLen) :
 Nums .u8 (Lib.bytesWorld w e s) (some ⟨w.heap.size,0,none⟩) s.size (grownCap w s.size 0 e) (bytesOf s):=by
 refine ⟨by simp [nums,bytesOf_len],grownCap_ge w _ _ _,by simpa [maxLen] using grownCap_le_maxLen w s.size 0 e hs,fun _=>⟨_,_,rfl,by rw [Lib.bytesWorld_size];omega,fun j hj=>?_⟩⟩
 have hj':j < s.size:=by simpa [nums,bytesOf_len] using hj
 rw [Nat.zero_add,Lib.bytesWorld_cell w e s j hj']
 have hg:=bytesOf_get s j hj'
 simp only [nums,List.getElem?_map,hg,Option.map_some]
 congr 2
 rw [List.getD_eq_getElem?_getD,List.getElem?_eq_getElem (by simpa using hj')]
 rfl
theorem getD_of_get {l:List Nat} {k x d:Nat} (h:l[k]? = some x):l.getD k d=x:=by rw [List.getD_eq_getElem?_getD,h];rfl
def nameB (l:List Nat):Bool:=!(l.length == 0) && decide (l.length≤20) && letterB (l.getD 0 0) && l.all innerB
theorem nameB_no {l:List Nat} (k:Nat) (h:k < l.length) (hd:innerB (l.getD k 0)=false):nameB l=false:=by
 have:l.all innerB=false:=by
  rw [List.all_eq_false]
  refine ⟨l[k],List.getElem_mem h,?_⟩
  simpa [List.getElem?_eq_getElem h] using hd
 simp [nameB,this]
theorem nameB_yes {l:List Nat} (h0:l.length ≠ 0) (h1:l.length≤20) (h2:letterB (l.getD 0 0)=true) (hd:∀ j,j < l.length→innerB (l.getD j 0)=true):nameB l=true:=by
 have:l.all innerB=true:=by
  rw [List.all_eq_true]
  intro c hc
  obtain ⟨j,hj,rfl⟩:=List.getElem_of_mem hc
  simpa [List.getElem?_eq_getElem hj] using hd j hj
 unfold nameB
 rw [this,h2]
 simp [h0,h1]
theorem lx_name (s:ByteArray) (w:World):Calls Tryz.prog 103 #[.string s] w fun e w'=>e = .returned (.bool (nameB (bytesOf s)))∧w=w':=by
 have hl:=bytesOf_len s
 by_cases h0:s.size=0
 · have hfin:nameB (bytesOf s)=false:=by simp [nameB,hl,h0]
   rw [hfin]
   have he:=isEmpty_str0 s h0
   clear hfin hl
   go_enter Tryz.func103,Tryz.ntmps103
   go_wp2
   go_ret
   exact ⟨rfl,rfl⟩
 have h1:0 < s.size:=by omega
 obtain ⟨he1,he2⟩:=isEmpty_str s h1
 by_cases h20:s.size≤20
 case neg =>
  have hfin:nameB (bytesOf s)=false:=by simp [nameB,hl,h20]
  rw [hfin]
  have hbig:(20:Int) < (s.size:Int):=by omega
  clear hfin hl h20
  go_enter Tryz.func103,Tryz.ntmps103
  go_wp2
  go_ret
  exact ⟨rfl,rfl⟩
 have hsm:¬ (20:Int) < (s.size:Int):=by omega
 have Hg:Hid (∀ k (h:k < s.size),(bytesOf s).getD k 0=(s[k]'h).toNat):=LH fun k h=>getD_of_get (bytesOf_get s k h)
 have Hl:=LH hl
 have hc:=lx_letter (s[0]'h1).toNat w ((s[0]'h1).toNat_lt)
 have h20':=LH h20
 clear hl h20
 cases hlt:letterB (s[0]'h1).toNat
 · have hfin:nameB (bytesOf s)=false:=by unfold nameB;rw [Hg.out 0 h1,hlt];simp
   rw [hfin]
   rw [hlt] at hc
   have Hc:=LH hc
   clear hfin hc hlt
   go_enter Tryz.func103,Tryz.ntmps103
   go_wp2_with (go_at_call 165;(with_reducible refine Hc.out.mono ?_);rintro e w' ⟨rfl,rfl⟩)
   go_ret
   exact ⟨rfl,rfl⟩
 rw [hlt] at hc
 have Hc:=LH hc
 have Hlt:Hid (letterB ((bytesOf s).getD 0 0)=true):=LH (by rw [Hg.out 0 h1];exact hlt)
 clear hc hlt
 go_enter Tryz.func103,Tryz.ntmps103
 go_wp2_with (go_at_call 165;(with_reducible refine Hc.out.mono ?_);rintro e w' ⟨rfl,rfl⟩)
 go_loop [3,19] (fun _ i=>∃ k:Nat,k≤s.size∧i = .int .i64 (k:Int)∧∀ j,j < k→innerB ((bytesOf s).getD j 0)=true) (fun _ i=>s.size - (intOf i).toNat)
 case atStart=>exact ⟨0,Nat.zero_le _,rfl,fun j hj=>by omega⟩
 case round =>
  obtain ⟨k,hk,rfl,hdig⟩:=hrel
  have Hdig:=LH hdig
  clear hdig
  by_cases hlt:k < s.size
  · have hin:=lx_inner (s[k]'hlt).toNat w ((s[k]'hlt).toNat_lt)
    have hg:=Hg.out k hlt
    cases hd:innerB (s[k]'hlt).toNat
    · have hfin:nameB (bytesOf s)=false:=nameB_no k (by rw [Hl.out];exact hlt) (by rw [hg];exact hd)
      have Hfin:=LH hfin
      rw [hd] at hin
      have Hin:=LH hin
      clear hin hd hg hfin
      go_wp2_with (go_at_call 166;(with_reducible refine Hin.out.mono ?_);rintro e w' ⟨rfl,rfl⟩)
      go_ret
      exact ⟨by rw [Hfin.out];rfl,rfl⟩
    · rw [hd] at hin
      have Hin:=LH hin
      have Hnew:Hid (innerB ((bytesOf s).getD k 0)=true):=LH (by rw [hg];exact hd)
      clear hin hd hg
      go_wp2_with (go_at_call 166;(with_reducible refine Hin.out.mono ?_);rintro e w' ⟨rfl,rfl⟩)
      go_round
      case rel =>
       refine ⟨k+1,by omega,by go_num,fun j hj=>?_⟩
       rcases Nat.lt_or_ge j k with h | h
       · exact Hdig.out j h
       · obtain rfl:j=k:=by omega
         exact Hnew.out
      case measure=>simp [intOf];omega
  · have hfin:nameB (bytesOf s)=true:=nameB_yes (by rw [Hl.out];omega) (by rw [Hl.out];exact h20'.out) Hlt.out (fun j hj=>Hdig.out j (by rw [Hl.out] at hj;omega))
    have Hfin:=LH hfin
    clear hfin
    go_wp2
    go_ret
    exact ⟨by rw [Hfin.out];rfl,rfl⟩
theorem ref_name (s:ByteArray) (w:World):Calls Tryz.prog 119 #[.string s] w fun e w'=>e = .returned (.bool (nameB (bytesOf s)))∧w=w':=by
 have hl:=bytesOf_len s
 by_cases h0:s.size=0
 · have hfin:nameB (bytesOf s)=false:=by simp [nameB,hl,h0]
   rw [hfin]
   have he:((s.size:Int) == 0)=true:=by rw [beq_iff_eq];omega
   clear hfin hl
   go_enter Tryz.func119,Tryz.ntmps119
   go_wp2
   go_ret
   exact ⟨rfl,rfl⟩
 have h1:0 < s.size:=by omega
 have he:((s.size:Int) == 0)=false:=by rw [beq_eq_false_iff_ne];omega
 have H0:=LH h0
 clear h0
 by_cases h20:s.size≤20
 case neg =>
  have hfin:nameB (bytesOf s)=false:=by simp [nameB,hl,h20]
  rw [hfin]
  have hbig:(20:Int) < (s.size:Int):=by omega
  clear hfin hl h20
  go_enter Tryz.func119,Tryz.ntmps119
  go_wp2
  go_ret
  exact ⟨rfl,rfl⟩
 have hsm:¬ (20:Int) < (s.size:Int):=by omega
 have Hg:Hid (∀ k (h:k < s.size),(bytesOf s).getD k 0=(s[k]'h).toNat):=LH fun k h=>getD_of_get (bytesOf_get s k h)
 have Hl:=LH hl
 have hc:=lx_first (s[0]'h1).toNat w ((s[0]'h1).toNat_lt)
 have h20':=LH h20
 clear hl h20
 cases hlt:letterB (s[0]'h1).toNat
 · have hfin:nameB (bytesOf s)=false:=by unfold nameB;rw [Hg.out 0 h1,hlt];simp
   rw [hfin]
   rw [hlt] at hc
   have Hc:=LH hc
   clear hfin hc hlt
   go_enter Tryz.func119,Tryz.ntmps119
   go_wp2_with (go_at_call 173;(with_reducible refine Hc.out.mono ?_);rintro e w' ⟨rfl,rfl⟩)
   go_ret
   exact ⟨rfl,rfl⟩
 rw [hlt] at hc
 have Hc:=LH hc
 have Hlt:Hid (letterB ((bytesOf s).getD 0 0)=true):=LH (by rw [Hg.out 0 h1];exact hlt)
 clear hc hlt
 go_enter Tryz.func119,Tryz.ntmps119
 go_wp2_with (go_at_call 173;(with_reducible refine Hc.out.mono ?_);rintro e w' ⟨rfl,rfl⟩)
 go_loop [3] (fun i=>∃ k:Nat,k≤s.size∧i = .int .i64 (k:Int)∧∀ j,j < k→innerB ((bytesOf s).getD j 0)=true) (fun i=>s.size - (intOf i).toNat)
 case atStart=>exact ⟨0,Nat.zero_le _,rfl,fun j hj=>by omega⟩
 case round =>
  obtain ⟨k,hk,rfl,hdig⟩:=hrel
  have Hdig:=LH hdig
  clear hdig
  by_cases hlt:k < s.size
  · have hin:=lx_later (s[k]'hlt).toNat w ((s[k]'hlt).toNat_lt)
    have hg:=Hg.out k hlt
    cases hd:innerB (s[k]'hlt).toNat
    · have hfin:nameB (bytesOf s)=false:=nameB_no k (by rw [Hl.out];exact hlt) (by rw [hg];exact hd)
      have Hfin:=LH hfin
      rw [hd] at hin
      have Hin:=LH hin
      clear hin hd hg hfin
      go_wp2_with (go_at_call 174;(with_reducible refine Hin.out.mono ?_);rintro e w' ⟨rfl,rfl⟩)
      go_ret
      exact ⟨by rw [Hfin.out];rfl,rfl⟩
    · rw [hd] at hin
      have Hin:=LH hin
      have Hnew:Hid (innerB ((bytesOf s).getD k 0)=true):=LH (by rw [hg];exact hd)
      clear hin hd hg
      go_wp2_with (go_at_call 174;(with_reducible refine Hin.out.mono ?_);rintro e w' ⟨rfl,rfl⟩)
      go_round
      case rel =>
       refine ⟨k+1,by omega,by go_num,fun j hj=>?_⟩
       rcases Nat.lt_or_ge j k with h | h
       · exact Hdig.out j h
       · obtain rfl:j=k:=by omega
         exact Hnew.out
      case measure=>simp [intOf];omega
  · have hfin:nameB (bytesOf s)=true:=nameB_yes (by rw [Hl.out];omega) (by rw [Hl.out];exact h20'.out) Hlt.out (fun j hj=>Hdig.out j (by rw [Hl.out] at hj;omega))
    have Hfin:=LH hfin
    clear hfin
    go_wp2
    go_ret
    exact ⟨by rw [Hfin.out];rfl,rfl⟩
def litN (l:List Nat):Nat × Nat :=
 if l.length < 2 then (0,4)
 else if plainB (l.getD 1 0) then (if l.length≤2 then (0,4) else if l.getD 2 0=39 then (3,0) else (0,3))
 else if l.getD 1 0 ≠ 92 then (0,3)
 else if l.length < 3 then (0,4)
 else if !escapedB (l.getD 2 0) then (0,3)
 else if l.length≤3 then (0,4) else if l.getD 3 0=39 then (4,0) else (0,3)
theorem lt256 {l:List Nat} (h:∀ x ∈ l,x < 256) (j:Nat):l.getD j 0 < 256:=by
 rw [List.getD_eq_getElem?_getD]
 rcases Nat.lt_or_ge j l.length with h' | h'
 · rw [List.getElem?_eq_getElem h'];exact h _ (List.getElem_mem h')
 · rw [List.getElem?_eq_none h'];exact by decide
theorem lx_literal (A:Option Addr) (n c:Nat) (bs:List Nat) (w:World) (h:Nums .u8 w A n c bs) (hb:∀ x ∈ bs,x < 256) :
 Calls Tryz.prog 229 #[.slice A n c] w fun e w'=>e = .returned (.tuple #[.int .i64 ((litN bs).1:Int), .int .i64 ((litN bs).2:Int)])∧w=w':=by
 obtain rfl:=h.len
 have hcap:=h.cap
 by_cases h2:bs.length < 2
 · have hf:litN bs=(0,4):=by simp [litN,h2]
   rw [hf]
   clear hf
   go_enter Tryz.func229,Tryz.ntmps229
   go_wp2
   go_ret2
   exact ⟨rfl,rfl⟩
 obtain ⟨b,off,rfl,hbl,hcell⟩:=h.at_ (by omega)
 have l1:=lt256 hb 1
 have l2:=lt256 hb 2
 have l3:=lt256 hb 3
 have c1:=hcell 1 (by omega)
 have c2:=fun h=>hcell 2 h
 have c3:=fun h=>hcell 3 h
 have hlit:litN bs=if plainB (bs.getD 1 0) then (if bs.length≤2 then (0,4) else if bs.getD 2 0=39 then (3,0) else (0,3))
  else if bs.getD 1 0 ≠ 92 then (0,3) else if bs.length < 3 then (0,4) else if !escapedB (bs.getD 2 0) then (0,3)
  else if bs.length≤3 then (0,4) else if bs.getD 3 0=39 then (4,0) else (0,3):=by
  unfold litN;rw [if_neg h2]
 generalize bs.getD 1 0=x1 at *
 generalize bs.getD 2 0=x2 at *
 generalize bs.getD 3 0=x3 at *
 generalize litN bs=r at *
 have p1:=lx_plain x1 w l1
 have e2:=lx_escaped x2 w l2
 clear hcell hb
 cases hp:plainB x1
 · rw [hp] at p1 hlit
   have P1:=LH p1
   clear p1 hp
   simp only [Bool.false_eq_true,if_false] at hlit
   by_cases hx:x1=92
   · have hxx:((x1:Int) == 92)=true:=by rw [beq_iff_eq];omega
     simp only [hx,ne_eq,not_true,if_false] at hlit
     clear hx
     by_cases h3:bs.length < 3
     · rw [if_pos h3] at hlit
       subst hlit
       clear c2 c3 e2
       go_enter Tryz.func229,Tryz.ntmps229
       go_wp2_with (go_at_call 235;(with_reducible refine P1.out.mono ?_);rintro e w' ⟨rfl,rfl⟩)
       go_ret2
       exact ⟨rfl,rfl⟩
     · rw [if_neg h3] at hlit
       have c2:=c2 (by omega)
       cases he:escapedB x2
       · rw [he] at e2 hlit
         have E2:=LH e2
         clear e2 he c3
         simp only [Bool.not_false,if_true] at hlit
         subst hlit
         go_enter Tryz.func229,Tryz.ntmps229
         go_wp2_with (first
          | (go_at_call 235;(with_reducible refine P1.out.mono ?_);rintro e w' ⟨rfl,rfl⟩)
          | (go_at_call 236;(with_reducible refine E2.out.mono ?_);rintro e w' ⟨rfl,rfl⟩))
         go_ret2
         exact ⟨rfl,rfl⟩
       · rw [he] at e2 hlit
         have E2:=LH e2
         clear e2 he
         simp only [Bool.not_true,Bool.false_eq_true,if_false] at hlit
         by_cases h4:bs.length≤3
         · rw [if_pos h4] at hlit
           subst hlit
           clear c3
           go_enter Tryz.func229,Tryz.ntmps229
           go_wp2_with (first
            | (go_at_call 235;(with_reducible refine P1.out.mono ?_);rintro e w' ⟨rfl,rfl⟩)
            | (go_at_call 236;(with_reducible refine E2.out.mono ?_);rintro e w' ⟨rfl,rfl⟩))
           go_ret2
           exact ⟨rfl,rfl⟩
         · rw [if_neg h4] at hlit
           have c3:=c3 (by omega)
           by_cases hq:x3=39
           · have hqq:((x3:Int) == 39)=true:=by rw [beq_iff_eq];omega
             rw [if_pos hq] at hlit
             subst hlit
             clear hq
             go_enter Tryz.func229,Tryz.ntmps229
             go_wp2_with (first
              | (go_at_call 235;(with_reducible refine P1.out.mono ?_);rintro e w' ⟨rfl,rfl⟩)
              | (go_at_call 236;(with_reducible refine E2.out.mono ?_);rintro e w' ⟨rfl,rfl⟩))
             go_ret2
             exact ⟨rfl,rfl⟩
           · have hqq:((x3:Int) == 39)=false:=by rw [beq_eq_false_iff_ne];omega
             rw [if_neg hq] at hlit
             subst hlit
             clear hq
             go_enter Tryz.func229,Tryz.ntmps229
             go_wp2_with (first
              | (go_at_call 235;(with_reducible refine P1.out.mono ?_);rintro e w' ⟨rfl,rfl⟩)
              | (go_at_call 236;(with_reducible refine E2.out.mono ?_);rintro e w' ⟨rfl,rfl⟩))
             go_ret2
             exact ⟨rfl,rfl⟩
   · have hxx:((x1:Int) == 92)=false:=by rw [beq_eq_false_iff_ne];omega
     rw [if_pos hx] at hlit
     subst hlit
     clear hx c2 c3 e2
     go_enter Tryz.func229,Tryz.ntmps229
     go_wp2_with (go_at_call 235;(with_reducible refine P1.out.mono ?_);rintro e w' ⟨rfl,rfl⟩)
     go_ret2
     exact ⟨rfl,rfl⟩
 · rw [hp] at p1 hlit
   have P1:=LH p1
   clear p1 hp e2 c3
   simp only [if_true] at hlit
   by_cases h3:bs.length≤2
   · rw [if_pos h3] at hlit
     subst hlit
     clear c2
     go_enter Tryz.func229,Tryz.ntmps229
     go_wp2_with (go_at_call 235;(with_reducible refine P1.out.mono ?_);rintro e w' ⟨rfl,rfl⟩)
     go_ret2
     exact ⟨rfl,rfl⟩
   · rw [if_neg h3] at hlit
     have c2:=c2 (by omega)
     by_cases hq:x2=39
     · have hqq:((x2:Int) == 39)=true:=by rw [beq_iff_eq];omega
       rw [if_pos hq] at hlit
       subst hlit
       clear hq
       go_enter Tryz.func229,Tryz.ntmps229
       go_wp2_with (go_at_call 235;(with_reducible refine P1.out.mono ?_);rintro e w' ⟨rfl,rfl⟩)
       go_ret2
       exact ⟨rfl,rfl⟩
     · have hqq:((x2:Int) == 39)=false:=by rw [beq_eq_false_iff_ne];omega
       rw [if_neg hq] at hlit
       subst hlit
       clear hq
       go_enter Tryz.func229,Tryz.ntmps229
       go_wp2_with (go_at_call 235;(with_reducible refine P1.out.mono ?_);rintro e w' ⟨rfl,rfl⟩)
       go_ret2
       exact ⟨rfl,rfl⟩
def litB (l:List Nat):Bool :=
 (decide (l.length=3) && decide (l.getD 0 0=39) && decide (l.getD 2 0=39) && plainB (l.getD 1 0)) ||
 (decide (l.length=4) && decide (l.getD 0 0=39) && decide (l.getD 3 0=39) && decide (l.getD 1 0=92) && escapedB (l.getD 2 0))
theorem plain92:plainB 92=false:=by decide
theorem litB_lit (l:List Nat):litB l=(decide (l.getD 0 0=39) && (decide ((litN l).2=0) && decide ((litN l).1=l.length))):=by
 unfold litB litN
 generalize l.getD 0 0=x0
 generalize hx1:l.getD 1 0=x1
 generalize l.getD 2 0=x2
 generalize l.getD 3 0=x3
 generalize l.length=n
 by_cases h92:x1=92
 · subst h92
   rw [plain92]
   cases escapedB x2 <;> grind
 · cases plainB x1 <;> grind
theorem lx_Literal (s:ByteArray) (w:World) (hs:s.size≤maxLen) :
 Calls Tryz.prog 203 #[.string s] w fun e w'=>e = .returned (.bool (litB (bytesOf s)))∧Below w.heap.size w w':=by
 have hl:=bytesOf_len s
 have hf:=litB_lit (bytesOf s)
 by_cases h0:s.size=0
 · have hfin:litB (bytesOf s)=false:=by unfold litB;rw [hl,h0];simp
   rw [hfin]
   have he:=isEmpty_str0 s h0
   clear hfin hl hf
   go_enter Tryz.func203,Tryz.ntmps203
   go_wp2
   go_ret
   exact ⟨rfl,Below.refl _ _⟩
 have h1:0 < s.size:=by omega
 obtain ⟨he1,he2⟩:=isEmpty_str s h1
 have hg0:=getD_of_get (d:=0) (bytesOf_get s 0 h1)
 rw [hg0,hl] at hf
 have H0:=LH h0
 clear h0
 by_cases hq:(s[0]'h1).toNat=39
 case neg =>
  have hfin:litB (bytesOf s)=false:=by rw [hf];simp [hq]
  rw [hfin]
  have hqq:(((s[0]'h1).toNat:Int) == 39)=false:=by rw [beq_eq_false_iff_ne];omega
  clear hfin hl hf hg0 hq
  go_enter Tryz.func203,Tryz.ntmps203
  go_wp2
  go_ret
  exact ⟨rfl,Below.refl _ _⟩
 have hqq:(((s[0]'h1).toNat:Int) == 39)=true:=by rw [beq_iff_eq];omega
 rw [hq] at hf
 simp only [decide_true,Bool.true_and] at hf
 have kc:=fun w=>Lib.run_convert_string_bytes (P:=Tryz.prog) w 9 72 5 s Tryz.underlying9 Tryz.underlying72 Tryz.underlying5
 have hB:=bytesWorld_below w 5 s
 have hc:=lx_literal _ _ _ (bytesOf s) _ (bytesWorld_nums w 5 s hs) (bytesOf_lt s)
 generalize litB (bytesOf s)=r at *
 generalize litN (bytesOf s)=p at *
 obtain ⟨p1,p2⟩:=p
 simp only [] at hc hf
 have Hc:=LH hc
 clear hc hl hg0 hq
 by_cases z1:p2=0
 · have y1:((p2:Int) == 0)=true:=by rw [beq_iff_eq];omega
   have d1:decide (p2=0)=true:=by simp [z1]
   rw [d1] at hf
   clear d1 z1
   by_cases z2:p1=s.size
   · have y2:((p1:Int) == (s.size:Int))=true:=by rw [beq_iff_eq];omega
     have d2:decide (p1=s.size)=true:=by simp [z2]
     rw [d2] at hf
     subst hf
     clear d2 z2
     go_enter Tryz.func203,Tryz.ntmps203
     go_wp2_with (go_at_call 229;(with_reducible refine Hc.out.mono ?_);rintro e w' ⟨rfl,rfl⟩)
     go_ret
     exact ⟨rfl,hB⟩
   · have y2:((p1:Int) == (s.size:Int))=false:=by rw [beq_eq_false_iff_ne];omega
     have d2:decide (p1=s.size)=false:=by simp [z2]
     rw [d2] at hf
     subst hf
     clear d2 z2
     go_enter Tryz.func203,Tryz.ntmps203
     go_wp2_with (go_at_call 229;(with_reducible refine Hc.out.mono ?_);rintro e w' ⟨rfl,rfl⟩)
     go_ret
     exact ⟨rfl,hB⟩
 · have y1:((p2:Int) == 0)=false:=by rw [beq_eq_false_iff_ne];omega
   have d1:decide (p2=0)=false:=by simp [z1]
   rw [d1] at hf
   subst hf
   clear d1 z1
   go_enter Tryz.func203,Tryz.ntmps203
   go_wp2_with (go_at_call 229;(with_reducible refine Hc.out.mono ?_);rintro e w' ⟨rfl,rfl⟩)
   go_ret
   exact ⟨rfl,hB⟩
theorem ref_Literal (s:ByteArray) (w:World) :
 Calls Tryz.prog 172 #[.string s] w fun e w'=>e = .returned (.bool (litB (bytesOf s)))∧w=w':=by
 have hl:=bytesOf_len s
 have Hg:Hid (∀ k (h:k < s.size),(bytesOf s).getD k 0=(s[k]'h).toNat):=LH fun k h=>getD_of_get (bytesOf_get s k h)
 have Hf:Hid (litB (bytesOf s)=((decide (s.size=3) && decide ((bytesOf s).getD 0 0=39) && decide ((bytesOf s).getD 2 0=39) && plainB ((bytesOf s).getD 1 0)) ||
  (decide (s.size=4) && decide ((bytesOf s).getD 0 0=39) && decide ((bytesOf s).getD 3 0=39) && decide ((bytesOf s).getD 1 0=92) && escapedB ((bytesOf s).getD 2 0)))):=LH (by unfold litB;rw [hl])
 clear hl
 by_cases h3:s.size=3
 · have e3:((s.size:Int) == 3)=true:=by rw [beq_iff_eq];omega
   have k0:0 < s.size:=by omega
   have k1:1 < s.size:=by omega
   have k2:2 < s.size:=by omega
   have Hf2:Hid (litB (bytesOf s)=(decide ((s[0]'k0).toNat=39) && decide ((s[2]'k2).toNat=39) && decide (32≤(s[1]'k1).toNat∧(s[1]'k1).toNat≤126∧(s[1]'k1).toNat ≠ 39∧(s[1]'k1).toNat ≠ 92))):=LH (by
    rw [Hf.out,Hg.out 0 k0,Hg.out 1 k1,Hg.out 2 k2,h3]
    simp [plainB])
   clear h3 Hf
   go_enter Tryz.func172,Tryz.ntmps172
   go_wp2
   all_goals
    go_ret
    refine ⟨ret_bool ?_,rfl⟩
    rw [Hf2.out]
    rw [Bool.eq_iff_iff];simp only [Bool.or_eq_true,Bool.and_eq_true,beq_iff_eq,bne_iff_ne,ne_eq,Bool.not_eq_true',decide_eq_true_eq,decide_eq_false_iff_not,Bool.false_eq_true,true_iff,false_iff,iff_true,iff_false];omega
 have e3:((s.size:Int) == 3)=false:=by rw [beq_eq_false_iff_ne];omega
 by_cases h4:s.size=4
 · have e4:((s.size:Int) == 4)=true:=by rw [beq_iff_eq];omega
   have k0:0 < s.size:=by omega
   have k1:1 < s.size:=by omega
   have k2:2 < s.size:=by omega
   have k3:3 < s.size:=by omega
   have Hf2:Hid (litB (bytesOf s)=(decide ((s[0]'k0).toNat=39) && decide ((s[3]'k3).toNat=39) && decide ((s[1]'k1).toNat=92) && decide ((s[2]'k2).toNat=110∨(s[2]'k2).toNat=116∨(s[2]'k2).toNat=92∨(s[2]'k2).toNat=39))):=LH (by
    rw [Hf.out,Hg.out 0 k0,Hg.out 1 k1,Hg.out 2 k2,Hg.out 3 k3,h4]
    simp [escapedB])
   clear h3 h4 Hf
   go_enter Tryz.func172,Tryz.ntmps172
   go_wp2
   all_goals
    go_ret
    refine ⟨ret_bool ?_,rfl⟩
    rw [Hf2.out]
    rw [Bool.eq_iff_iff];simp only [Bool.or_eq_true,Bool.and_eq_true,beq_iff_eq,bne_iff_ne,ne_eq,Bool.not_eq_true',decide_eq_true_eq,decide_eq_false_iff_not,Bool.false_eq_true,true_iff,false_iff,iff_true,iff_false];omega
 · have e4:((s.size:Int) == 4)=false:=by rw [beq_eq_false_iff_ne];omega
   have hfin:litB (bytesOf s)=false:=by rw [Hf.out];simp [h3,h4]
   rw [hfin]
   clear hfin h3 h4 Hf
   go_enter Tryz.func172,Tryz.ntmps172
   go_wp2
   go_ret
   exact ⟨rfl,rfl⟩
def findI {α:Type} (p:α→Bool) (l:List α):Int:=match l.findIdx? p with | some i=>(i:Int) | none=>-1
theorem findI_at {α:Type} {p:α→Bool} {l:List α} {k:Nat} {x:α} (hx:l[k]? = some x) (hp:p x=true) (h:∀ j,j < k→∀ y,l[j]? = some y→p y=false):findI p l=(k:Int):=by
 have hk:k < l.length:=(List.getElem?_eq_some_iff.1 hx).1
 have:l.findIdx? p=some k:=by
  rw [List.findIdx?_eq_some_iff_getElem]
  refine ⟨hk,?_,fun j hj=>?_⟩
  · have:l[k]=x:=by rw [List.getElem?_eq_getElem hk] at hx;injection hx
    rw [this];exact hp
  · have:=h j hj l[j] (List.getElem?_eq_getElem (by omega))
    simp [this]
 unfold findI
 rw [this]
theorem findI_none {α:Type} {p:α→Bool} {l:List α} (h:∀ (j:Nat) y,l[j]? = some y→p y=false):findI p l=-1:=by
 have:l.findIdx? p=none:=by
  rw [List.findIdx?_eq_none_iff]
  intro x hx
  obtain ⟨j,hj⟩:=List.getElem?_of_mem hx
  exact h j x hj
 unfold findI
 rw [this]
theorem findI_lo {α:Type} (p:α→Bool) (l:List α):-1≤findI p l∧findI p l < l.length:=by
 unfold findI
 split
 · rename_i i h
   have:=(List.findIdx?_eq_some_iff_getElem.1 h).1
   omega
 · omega
theorem findI_neg {α:Type} {p:α→Bool} {l:List α} (h:findI p l < 0):∀ (j:Nat) y,l[j]? = some y→p y=false:=by
 intro j y hy
 unfold findI at h
 split at h
 · omega
 · rename_i hn
   rw [List.findIdx?_eq_none_iff] at hn
   exact hn y (List.mem_of_getElem? hy)
theorem findI_pos {α:Type} {p:α→Bool} {l:List α} {k:Nat} (h:findI p l=(k:Int)):∃ x,l[k]? = some x∧p x=true∧∀ j,j < k→∀ y,l[j]? = some y→p y=false:=by
 unfold findI at h
 split at h
 · rename_i i hi
   have:i=k:=by omega
   subst this
   obtain ⟨h1,h2,h3⟩:=List.findIdx?_eq_some_iff_getElem.1 hi
   refine ⟨_,List.getElem?_eq_getElem h1,h2,fun j hj y hy=>?_⟩
   have:=h3 j hj
   rw [List.getElem?_eq_getElem (by omega)] at hy
   injection hy with hy
   subst hy
   simpa using this
 · omega
def allI {α:Type} (p:Nat→α→Bool) (l:List α):Bool:=(List.range l.length).all fun j=>match l[j]? with | some y=>p j y | none=>true
theorem allI_true {α:Type} {p:Nat→α→Bool} {l:List α} (h:∀ (j:Nat) y,l[j]? = some y→p j y=true):allI p l=true:=by
 unfold allI
 rw [List.all_eq_true]
 intro j _
 cases hy:l[j]? with
 | none=>rfl
 | some y=>exact h j y hy
theorem allI_get {α:Type} {p:Nat→α→Bool} {l:List α} (h:allI p l=true) {j:Nat} {y:α} (hy:l[j]? = some y):p j y=true:=by
 unfold allI at h
 rw [List.all_eq_true] at h
 have:=h j (by rw [List.mem_range];exact (List.getElem?_eq_some_iff.1 hy).1)
 rw [hy] at this
 exact this
theorem allI_false {α:Type} {p:Nat→α→Bool} {l:List α} {j:Nat} {y:α} (hy:l[j]? = some y) (h:p j y=false):allI p l=false:=by
 cases ha:allI p l
 · rfl
 · rw [allI_get ha hy] at h;cases h
theorem all_get {α:Type} {p:α→Bool} {l:List α} (h:l.all p=true) {j:Nat} {y:α} (hy:l[j]? = some y):p y=true:=(List.all_eq_true.1 h) y (List.mem_of_getElem? hy)
theorem all_true {α:Type} {p:α→Bool} {l:List α} (h:∀ (j:Nat) y,l[j]? = some y→p y=true):l.all p=true:=by
 rw [List.all_eq_true]
 intro x hx
 obtain ⟨j,hj⟩:=List.getElem?_of_mem hx
 exact h j x hj
theorem all_false {α:Type} {p:α→Bool} {l:List α} {j:Nat} {y:α} (hy:l[j]? = some y) (h:p y=false):l.all p=false:=by
 cases ha:l.all p
 · rfl
 · rw [all_get ha hy] at h;cases h
def Gr.has (G:Gr) (s:Int):Bool:=if 0≤s then decide (s < (G.terms.length:Int)) else decide (-1 - s < (G.nons.length:Int))
def Gr.term (G:Gr) (s:ByteArray):Int:=findI (fun t=>decide (t.name=s)) G.terms
def Gr.non (G:Gr) (s:ByteArray):Int:=findI (fun t=>decide (t=s)) G.nons
def namedB (s:ByteArray):Bool:=nameB (bytesOf s) || litB (bytesOf s)
def levelGo (n:Int):List Trm→Int→Bool
 | [],way=>decide (way ≠ 0)
 | t::ts,way=>if t.level=n then (if way ≠ 0∧way ≠ t.assoc then false else levelGo n ts t.assoc) else levelGo n ts way
def levelB (l:List Trm) (n:Int):Bool:=levelGo n l 0
def basicT (t:Trm):Bool:=namedB t.name && decide (0≤t.level∧t.level≤24) && decide (0≤t.assoc∧t.assoc≤3) && (decide (t.level=0) == decide (t.assoc=0))
def levelsT (l:List Trm) (t:Trm):Bool:=(List.range t.level.toNat).all fun n=>levelB l ((n:Int)+1)
def Gr.termOK (G:Gr) (i:Nat) (t:Trm):Bool:=decide (G.term t.name=(i:Int)) && basicT t && levelsT G.terms t
def Gr.termsOK (G:Gr):Bool:=decide (G.terms.length≤24) && allI G.termOK G.terms
def Gr.nonOK (G:Gr) (i:Nat) (s:ByteArray):Bool:=nameB (bytesOf s) && decide (G.non s=(i:Int)) && decide (G.term s < 0)
def Gr.nonsOK (G:Gr):Bool:=decide (1≤G.nons.length∧G.nons.length≤16) && allI G.nonOK G.nons
def Gr.symOK (G:Gr) (prec:Int) (s:Int):Bool:=G.has s && !(decide (0≤s) && decide (prec=-1))
def Gr.ruleOK (G:Gr) (r:Rul):Bool:=decide (r.right.length≤6) && decide (-1≤r.prec∧r.prec < (G.terms.length:Int)) && r.right.all (G.symOK r.prec)
def Gr.leftsGo (G:Gr):List Rul→Int→Option Int
 | [],top=>some top
 | r::rs,top=>if 0≤r.left∧r.left≤top+1∧G.ruleOK r=true then G.leftsGo rs (max top r.left) else none
def Gr.right (G:Gr):Bool :=
 G.termsOK && G.nonsOK && decide (1≤G.rules.length∧G.rules.length≤40) && decide (0≤G.start∧G.start < (G.nons.length:Int)) && decide (G.leftsGo G.rules (-1)=some ((G.nons.length:Int) - 1))
def Gr.great (G:Gr):Bool:=decide (40 < G.terms.length) || decide (40 < G.nons.length) || decide (60 < G.rules.length) || G.rules.any fun r=>decide (20 < r.right.length)
theorem Gr.leftsGo_snoc (G:Gr):∀ (rs:List Rul) (r:Rul) (top:Int),G.leftsGo (rs++[r]) top=(G.leftsGo rs top).bind fun t=>if 0≤r.left∧r.left≤t+1∧G.ruleOK r=true then some (max t r.left) else none
 | [],r,top=>by simp [Gr.leftsGo]
 | q::rs,r,top=>by
   rw [List.cons_append,Gr.leftsGo,Gr.leftsGo]
   split
   · exact Gr.leftsGo_snoc G rs r _
   · rfl
theorem Gr.leftsGo_none (G:Gr) (rs qs:List Rul) (top:Int) (h:G.leftsGo rs top=none):G.leftsGo (rs++qs) top=none:=by
 induction rs generalizing top with
 | nil=>simp [Gr.leftsGo] at h
 | cons r rs ih =>
   rw [List.cons_append,Gr.leftsGo]
   rw [Gr.leftsGo] at h
   split
   · rename_i hc
     rw [if_pos hc] at h
     exact ih _ h
   · rfl
theorem Gr.leftsGo_bd (G:Gr):∀ (rs:List Rul) (top t:Int),-1≤top→G.leftsGo rs top=some t→top≤t∧t≤top+rs.length
 | [],top,t,h0,h=>by simp [Gr.leftsGo] at h;subst h;simp
 | r::rs,top,t,h0,h=>by
   rw [Gr.leftsGo] at h
   split at h
   · rename_i hc
     have:=Gr.leftsGo_bd G rs _ t (by omega) h
     simp only [List.length_cons]
     omega
   · cases h
end Go.Proofs.YtggbjdmpjidhgaaGreatDoor
