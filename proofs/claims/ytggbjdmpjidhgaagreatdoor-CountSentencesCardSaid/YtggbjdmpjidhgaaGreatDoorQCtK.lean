/- numbers that may be too great, in memory: one; a row of them in a block of its own. -/
import Derived.Test.YtggbjdmpjidhgaaGreatDoorQCyP9
import Derived.Test.YtggbjdmpjidhgaaGreatDoorQCyR1
import Derived.Test.YtggbjdmpjidhgaaGreatDoorProg
import Derived.Test.YtggbjdmpjidhgaaGreatDoorQKit
import Derived.Lib.BitFns
import Derived.Lib.Strings
import Derived.Lib.Slices
import Derived.Lib.Small
import Derived.Lib.Walk
import Derived.Deep.QuietTactic
import Derived.BigQuiet
set_option linter.unusedVariables false
set_option linter.unusedSimpArgs false
set_option maxHeartbeats 8000000
set_option maxRecDepth 100000
namespace Go.Proofs.YtggbjdmpjidhgaaGreatDoor
open Go.RowKit
def IntKeep (w w':World):Prop:=w.heap.size≤w'.heap.size∧∀ b,b < w.heap.size→(∃ o k z,w.cell? ⟨b,o,none⟩=some (Value.int k z))→w'.heap[b]? = w.heap[b]?
def NoInt (w:World) (g:Nat):Prop:=∀ o k z,w.cell? ⟨g,o,none⟩ ≠ some (Value.int k z)
theorem IntKeep.trans {a b c:World} (h:IntKeep a b) (k:IntKeep b c):IntKeep a c:=by
 refine ⟨Nat.le_trans h.1 k.1,fun g hg hi=>?_⟩
 have e:=h.2 g hg hi
 refine (k.2 g (Nat.lt_of_lt_of_le hg h.1) ?_).trans e
 obtain ⟨o,q,z,hc⟩:=hi
 exact ⟨o,q,z,(World.cell?_of_block (a:=⟨g,o,none⟩) e).trans hc⟩
theorem IntKeep.of_below {w w':World} (h:Below w.heap.size w w'):IntKeep w w':=⟨h.size,fun b hb _=>h.block b hb⟩
theorem IntKeep.of_off {S:Nat→Prop} {w w':World} (h:Off S w w') (hS:∀ g,S g→NoInt w g):IntKeep w w':=⟨h.size,fun b hb ⟨o,k,z,hc⟩=>h.keep b hb fun hs=>hS b hs o k z hc⟩
theorem Nums.kept {k:IntKind} {w w':World} {A:Option Addr} {n c:Nat} {xs:List Nat} (h:Nums k w A n c xs) (hk:IntKeep w w'):Nums k w' A n c xs:=by
 refine ⟨h.1,h.2.1,h.2.2.1,fun hn=>?_⟩
 obtain ⟨b,off,e,hb,hc⟩:=h.2.2.2 hn
 have h0:=hc 0 hn
 have hi:∃ o q z,w.cell? ⟨b,o,none⟩=some (Value.int q z):=by
  have hl:0 < xs.length:=by simpa [nums] using hn
  refine ⟨off+0,k,((xs[0]:Nat):Int),?_⟩
  rw [h0]
  simp [nums,hl]
 have hblk:=hk.2 b hb hi
 exact ⟨b,off,e,Nat.lt_of_lt_of_le hb hk.1,fun j hj=>(World.cell?_of_block (a:=⟨b,off+j,none⟩) hblk).trans (hc j hj)⟩
def ValN (w:World) (A:Option Addr) (n c:Nat) (b:Bool) (x:Nat):Prop:=b=(capV x).2∧Nums .u32 w A n c (capV x).1
theorem ValN.kept {w w':World} {A:Option Addr} {n c:Nat} {b:Bool} {x:Nat} (h:ValN w A n c b x) (hk:IntKeep w w'):ValN w' A n c b x:=⟨h.1,h.2.kept hk⟩
theorem ValN.below {w w':World} {A:Option Addr} {n c:Nat} {b:Bool} {x:Nat} (h:ValN w A n c b x) (hk:Below w.heap.size w w'):ValN w' A n c b x:=⟨h.1,h.2.below hk⟩
theorem ValN.zero (w:World) (A:Option Addr) (c:Nat) (hc:c≤9223372036854775807):ValN w A 0 c false 0:=by
 have hbig:0 < big:=by unfold big;generalize 1024=k;exact Nat.two_pow_pos k
 have h00:capV 0=([],false):=by rw [capV_small hbig];rfl
 unfold ValN
 rw [h00]
 exact ⟨rfl,Nums.nil _ _ _ _ hc⟩
theorem ValN.none_iff {w:World} {A:Option Addr} {n c:Nat} {b:Bool} {x:Nat} (h:ValN w A n c b x):(b=false∧n=0) ↔ x=0:=by
 obtain ⟨rfl,h2⟩:=h
 have hl:=h2.len
 by_cases hx:x < big
 · rw [capV_small hx] at hl ⊢
   simp only [true_and] at hl ⊢
   rw [← hl]
   exact limbs_none
 · rw [capV_big hx]
   have hbig:0 < big:=by unfold big;generalize 1024=k;exact Nat.two_pow_pos k
   constructor
   · rintro ⟨h,_⟩;cases h
   · rintro rfl;exact absurd hbig hx
def VRow (w:World) (g:Nat) (t:TypeId) (xs:List Nat):Prop:=∃ cs:Array Value,Blk w g t cs∧cs.size=xs.length * 2∧∀ (j:Nat) x,xs[j]? = some x→∃ A n c b,cs[j * 2]? = some (.slice A n c)∧cs[j * 2+1]? = some (.bool b)∧ValN w A n c b x
theorem VRow.lt {w:World} {g:Nat} {t:TypeId} {xs:List Nat} (h:VRow w g t xs):g < w.heap.size:=by
 obtain ⟨cs,hb,_⟩:=h
 exact hb.lt
theorem VRow.noInt {w:World} {g:Nat} {t:TypeId} {xs:List Nat} (h:VRow w g t xs):NoInt w g:=by
 obtain ⟨cs,hb,hs,hc⟩:=h
 intro o k z hcell
 rw [hb.cell o] at hcell
 have ho:o < xs.length * 2:=by rw [← hs];exact (Array.getElem?_eq_some_iff.1 hcell).1
 obtain ⟨A,n,c,b,h1,h2,_⟩:=hc (o / 2) _ (List.getElem?_eq_getElem (show o / 2 < xs.length by omega))
 rcases (by omega:o=o / 2 * 2∨o=o / 2 * 2+1) with e | e
 · rw [e,h1] at hcell;cases hcell
 · rw [e,h2] at hcell;cases hcell
theorem VRow.get {w:World} {g:Nat} {t:TypeId} {xs:List Nat} (h:VRow w g t xs) {j:Nat} (hj:j < xs.length):∃ A n c b,w.cell? ⟨g,j * 2,none⟩=some (.slice A n c)∧w.cell? ⟨g,j * 2+1,none⟩=some (.bool b)∧ValN w A n c b (xs.getD j 0):=by
 obtain ⟨cs,hb,hs,hc⟩:=h
 obtain ⟨A,n,c,b,h1,h2,h3⟩:=hc j _ (List.getElem?_eq_getElem hj)
 refine ⟨A,n,c,b,(hb.cell _).trans h1,(hb.cell _).trans h2,?_⟩
 rw [List.getD_eq_getElem?_getD,List.getElem?_eq_getElem hj]
 exact h3
theorem VRow.frozen {w:World} {g:Nat} {t:TypeId} {xs:List Nat} (h:VRow w g t xs) (i:Nat):w.frozen? ⟨g,i,none⟩=false:=by
 obtain ⟨cs,hb,_⟩:=h
 exact hb.frozen i
theorem VRow.kept {w w':World} {g:Nat} {t:TypeId} {xs:List Nat} (h:VRow w g t xs) (hk:IntKeep w w') (hg:w'.heap[g]? = w.heap[g]?):VRow w' g t xs:=by
 obtain ⟨cs,hb,hs,hc⟩:=h
 refine ⟨cs,hg.trans hb,hs,fun j x hx=>?_⟩
 obtain ⟨A,n,c,b,h1,h2,h3⟩:=hc j x hx
 exact ⟨A,n,c,b,h1,h2,h3.kept hk⟩
theorem VRow.below {w w':World} {g:Nat} {t:TypeId} {xs:List Nat} (h:VRow w g t xs) (hb:Below w.heap.size w w'):VRow w' g t xs:=h.kept (.of_below hb) (hb.block g h.lt)
theorem VRow.put {w:World} {g:Nat} {t:TypeId} {xs:List Nat} (h:VRow w g t xs) {j:Nat} (hj:j < xs.length) {A:Option Addr} {n c:Nat} {b:Bool} {x:Nat} (hv:ValN w A n c b x) :
 VRow ((w.setCell ⟨g,j * 2,none⟩ (.slice A n c)).setCell ⟨g,j * 2+1,none⟩ (.bool b)) g t (xs.set j x)∧IntKeep w ((w.setCell ⟨g,j * 2,none⟩ (.slice A n c)).setCell ⟨g,j * 2+1,none⟩ (.bool b)):=by
 have hno:=h.noInt
 have hk:IntKeep w ((w.setCell ⟨g,j * 2,none⟩ (.slice A n c)).setCell ⟨g,j * 2+1,none⟩ (.bool b)) :=
  IntKeep.of_off ((Off.of_set w g (j * 2) (.slice A n c)).trans (Off.of_set _ g (j * 2+1) (.bool b)) fun _ _ h=>h) fun q hq=>by rw [hq];exact hno
 refine ⟨?_,hk⟩
 obtain ⟨cs,hb,hs,hc⟩:=h
 refine ⟨(cs.setIfInBounds (j * 2) (.slice A n c)).setIfInBounds (j * 2+1) (.bool b),(hb.set _ _).set _ _,by simp [hs],fun i y hy=>?_⟩
 have hi:i < xs.length:=by have:=(List.getElem?_eq_some_iff.1 hy).1;simpa using this
 by_cases hij:i=j
 · subst hij
   rw [List.getElem?_set_self hj] at hy
   obtain rfl:x=y:=by simpa using hy
   refine ⟨A,n,c,b,?_,?_,hv.kept hk⟩
   · rw [Array.getElem?_setIfInBounds_ne (by omega),Array.getElem?_setIfInBounds_self_of_lt (by omega)]
   · rw [Array.getElem?_setIfInBounds_self_of_lt (by simp;omega)]
 · rw [List.getElem?_set_ne (fun e=>hij e.symm)] at hy
   obtain ⟨A',n',c',b',h1,h2,h3⟩:=hc i y hy
   refine ⟨A',n',c',b',?_,?_,h3.kept hk⟩
   · rw [Array.getElem?_setIfInBounds_ne (by omega),Array.getElem?_setIfInBounds_ne (by omega)];exact h1
   · rw [Array.getElem?_setIfInBounds_ne (by omega),Array.getElem?_setIfInBounds_ne (by omega)];exact h2
def zeroCells (n:Nat):Array Value:=((List.range n).flatMap fun _=>[Value.slice none 0 0,Value.bool false]).toArray
theorem zeroCells_at:∀ (n j:Nat),j < n→(zeroCells n)[j * 2]? = some (.slice none 0 0)∧(zeroCells n)[j * 2+1]? = some (.bool false):=by
 intro n
 have hl:∀ m,((List.range m).flatMap fun _=>[Value.slice none 0 0,Value.bool false]).length=m * 2:=by
  intro m
  induction m with
  | zero=>rfl
  | succ m ih=>rw [List.range_succ,List.flatMap_append,List.length_append,ih];simp;omega
 induction n with
 | zero=>intro j hj;omega
 | succ n ih =>
   intro j hj
   unfold zeroCells at ih ⊢
   simp only [List.getElem?_toArray] at ih ⊢
   rw [List.range_succ,List.flatMap_append]
   rcases (by omega:j < n∨j=n) with h | rfl
   · rw [List.getElem?_append_left (by rw [hl];omega),List.getElem?_append_left (by rw [hl];omega)]
     exact ih j h
   · rw [List.getElem?_append_right (by rw [hl];omega),List.getElem?_append_right (by rw [hl];omega),hl]
     simp [Nat.add_sub_cancel_left]
theorem zeroCells_size (n:Nat):(zeroCells n).size=n * 2:=by
 unfold zeroCells
 simp only [List.size_toArray]
 induction n with
 | zero=>rfl
 | succ n ih=>rw [List.range_succ,List.flatMap_append,List.length_append,ih];simp;omega
theorem VRow.new (w:World) (t:TypeId) (n:Nat):VRow (w.alloc (.cells (zeroCells n) t)) w.heap.size t (List.replicate n 0):=by
 refine ⟨zeroCells n,Blk.new w t _,by rw [zeroCells_size,List.length_replicate],fun j x hx=>?_⟩
 have hj:j < n:=by have:=(List.getElem?_eq_some_iff.1 hx).1;simpa using this
 obtain rfl:0=x:=by rw [List.getElem?_replicate,if_pos hj] at hx;exact Option.some.inj hx
 obtain ⟨h1,h2⟩:=zeroCells_at n j hj
 exact ⟨none,0,0,false,h1,h2,ValN.zero _ _ _ (by omega)⟩
theorem quiet_left {P:Program} {f:FuncId} {args:Array Value} {w:World} {n:Nat} {v:Value}
 (h:Calls P f args (w.drewN n) fun e w'=>e = .returned v∧w.drewN n=w'):Calls P f args (w.drewN n) fun e w''=>e = .returned v∧∃ m,w''=w.drewN m :=
 h.mono fun _ _ ⟨he,hm⟩=>⟨he,n,hm.symm⟩
theorem ret_num2 {k l:IntKind} {a b c d:Int} (h:a=b) (h':c=d):Ending.returned (.tuple #[.int k a, .int l c]) = .returned (.tuple #[.int k b, .int l d]):=by rw [h,h']
theorem bits_add32 (x y c:Nat) (w:World) (hx:x < 4294967296) (hy:y < 4294967296) (hc:c≤1) :
 Calls Tryz.prog 208 #[.int .u32 (x:Int), .int .u32 (y:Int), .int .u32 (c:Int)] w fun e w' =>
  e = .returned (.tuple #[.int .u32 (((x+y+c) % 4294967296:Nat):Int), .int .u32 (((x+y+c) / 4294967296:Nat):Int)])∧w=w':=by
 go_enter Tryz.func208,Tryz.ntmps208
 go_wp2
 go_ret2
 exact ⟨ret_num2 (by omega) (by omega),rfl⟩
def RetNat (w:World) (p:List Nat × Nat) (e:Ending) (w':World):Prop :=
 ∃ A c,e = .returned (.tuple #[.slice A p.1.length c, .int .i64 (p.2:Int)])∧Nums .u32 w' A p.1.length c p.1∧Below w.heap.size w w'
def RetLimbs (w:World) (zs:List Nat) (e:Ending) (w':World):Prop :=
 ∃ A c,e = .returned (.slice A zs.length c)∧Nums .u32 w' A zs.length c zs∧Below w.heap.size w w'
def Quiet (w:World) (v:Value) (e:Ending) (w':World):Prop:=e = .returned v∧Same w w'
theorem Tryz.info34:(Tryz.prog.info? 49).map (fun i=>(i.zero,i.size,i.bytes))=some (some (.int .u32 0),1,4):=by kernel_rfl
theorem nat_right (A:Option Addr) (n c:Nat) (xs:List Nat) (w:World) (h:Nums .u32 w A n c xs) :
 Calls Tryz.prog 75 #[.slice A n c] w fun e w'=>e = .returned (.bool (rightB xs))∧w=w':=by
 have hl:=h.len
 have hcap:=h.cap
 by_cases h0:n=0
 · subst h0
   go_enter Tryz.func75,Tryz.ntmps75
   go_wp2
   go_ret
   exact ⟨by simp [rightB,hl],rfl⟩
 · obtain ⟨b,off,x,rfl,hb,Hx,hc⟩:=h.get (j:=n - 1) (by omega)
   have hx:=Hx.out
   by_cases h32:n≤32
   · have he:((n:Int) == 0)=false:=by simp;omega
     have hfin:rightB xs=((x:Int) != 0):=by
      simp [rightB,hl,h32,h0,hx,cast_bne0]
     have Hf:=LH hfin
     clear hfin hx
     go_enter Tryz.func75,Tryz.ntmps75
     go_wp2
     go_ret
     rw [Hf.out]
     exact ⟨rfl,rfl⟩
   · go_enter Tryz.func75,Tryz.ntmps75
     go_wp2
     go_ret
     exact ⟨by simp [rightB,hl,h32],rfl⟩
theorem ref_right (A:Option Addr) (n c:Nat) (xs:List Nat) (w:World) (h:Nums .u32 w A n c xs) :
 Calls Tryz.prog 78 #[.slice A n c] w fun e w'=>e = .returned (.bool (rightB xs))∧w=w':=by
 have hl:=h.len
 have hcap:=h.cap
 by_cases h0:n=0
 · subst h0
   go_enter Tryz.func78,Tryz.ntmps78
   go_wp2
   go_ret
   exact ⟨by simp [rightB,hl],rfl⟩
 · obtain ⟨b,off,x,rfl,hb,Hx,hc⟩:=h.get (j:=n - 1) (by omega)
   have hx:=Hx.out
   by_cases h32:n≤32
   · have he:((n:Int) == 0)=false:=by simp;omega
     have hfin:rightB xs=((x:Int) != 0):=by
      simp [rightB,hl,h32,h0,hx,cast_bne0]
     have Hf:=LH hfin
     clear hfin hx
     go_enter Tryz.func78,Tryz.ntmps78
     go_wp2
     go_ret
     rw [Hf.out]
     exact ⟨rfl,rfl⟩
   · go_enter Tryz.func78,Tryz.ntmps78
     go_wp2
     go_ret
     exact ⟨by simp [rightB,hl,h32],rfl⟩
theorem nat_neat (A:Option Addr) (n c:Nat) (xs:List Nat) (w:World) (h:Nums .u32 w A n c xs) :
 Calls Tryz.prog 199 #[.slice A n c] w fun e w'=>e = .returned (.slice A (neatL xs).length (neatL xs).length)∧Nums .u32 w A (neatL xs).length (neatL xs).length (neatL xs)∧w=w':=by
 have hl:=h.len
 have hcap:=h.cap
 go_enter Tryz.func199,Tryz.ntmps199
 go_wp2
 go_loop [3] (fun i=>∃ k:Nat,k≤n∧i = .int .i64 k∧neatL xs=neatL (xs.take k)) (fun i=>(intOf i).toNat)
 case atStart=>exact ⟨n,Nat.le_refl _,rfl,by rw [List.take_of_length_le (by omega)]⟩
 case round =>
  obtain ⟨k,hk,rfl,hrel⟩:=hrel
  have Hrel:=LH hrel
  clear hrel
  by_cases hlt:0 < k
  · obtain ⟨b,off,x,rfl,hb,Hx,hc⟩:=h.get (j:=k - 1) (by omega)
    by_cases h0:x=0
    · subst h0
      go_wp2
      go_round
      case rel =>
       refine ⟨k - 1,by omega,by go_num,?_⟩
       rw [Hrel.out]
       have:=neatL_step xs (k - 1) (by omega) (by simp [Hx.out])
       rw [← this,show k - 1+1=k from by omega]
      case measure=>simp [intOf];omega
    · have ht:((x:Int) == 0)=false:=by simp [h0]
      have hfin:=neatL_stop xs (k - 1) (by omega) (by simpa [Hx.out] using h0)
      rw [show k - 1+1=k from by omega,← Hrel.out] at hfin
      have hfin2:(neatL xs).length=k:=by rw [hfin];simp;omega
      have Hf:=LH hfin
      have Hf2:=LH hfin2
      clear hfin hfin2
      go_wp2
      go_ret
      rw [Hf2.out]
      refine ⟨rfl,?_,rfl⟩
      rw [Hf.out]
      exact h.take k k hk (Nat.le_refl _) (by omega)
  · have hfin:neatL xs=[]:=by rw [Hrel.out,show k=0 from by omega];simp [neatL]
    have Hf:=LH hfin
    clear hfin
    obtain rfl:k=0:=by omega
    go_wp2
    go_ret
    rw [Hf.out]
    exact ⟨rfl,Nums.nil _ _ _ _ (by simp),rfl⟩
theorem nat_fit (A:Option Addr) (n c:Nat) (xs:List Nat) (w:World) (h:Nums .u32 w A n c xs) (hx:Lim xs) :
 Calls Tryz.prog 207 #[.slice A n c] w (RetNat w (fitN (val xs))):=by
 have hf:=fit_neat xs hx
 by_cases h32:(neatL xs).length≤32
 · rw [if_pos h32] at hf
   have Hf:=LH hf
   clear hf
   go_enter Tryz.func207,Tryz.ntmps207
   go_wp2_with (go_at_call 199;refine (nat_neat _ _ _ _ _ h).mono ?_;rintro e w' ⟨rfl,hN,rfl⟩)
   go_ret2
   rw [← Hf.out]
   exact ⟨_,_,rfl,by assumption,Below.refl _ _⟩
 · rw [if_neg h32] at hf
   have Hf:=LH hf
   clear hf
   go_enter Tryz.func207,Tryz.ntmps207
   go_wp2_with (go_at_call 199;refine (nat_neat _ _ _ _ _ h).mono ?_;rintro e w' ⟨rfl,hN,rfl⟩)
   go_ret2
   rw [← Hf.out]
   exact ⟨none,0,rfl,Nums.nil _ _ _ _ (by simp),Below.refl _ _⟩
theorem nat_of (x:Nat) (w:World) (hx:x < 18446744073709551616) :
 Calls Tryz.prog 153 #[.int .u64 (x:Int)] w (RetLimbs w (limbs x)):=by
 have hl:Lim [x % 4294967296,x / 4294967296]:=Lim.mk (by omega) (Lim.mk (by omega) Lim.nil)
 have hv:val [x % 4294967296,x / 4294967296]=x:=by simp [val];omega
 have hn:=neatL_limbs _ hl
 rw [hv] at hn
 have Hn:=LH hn
 clear hn hv
 have hown:=(Own.new w 49 .u32 [x % 4294967296,x / 4294967296]).nums (n:=2) (c:=2) rfl (Nat.le_refl _) (by omega)
 have e:(nums .u32 [x % 4294967296,x / 4294967296]).toArray=#[.int .u32 ((x:Int) % 4294967296), .int .u32 ((x:Int) / 4294967296)]:=by simp [nums]
 rw [e] at hown
 clear e
 go_enter Tryz.func153,Tryz.ntmps153
 go_wp2_with (go_at_call 199;refine (nat_neat _ _ _ _ _ hown).mono ?_;rintro e w' ⟨rfl,hN,rfl⟩)
 go_ret
 rw [Hn.out] at hN ⊢
 exact ⟨_,_,rfl,hN,(Below.refl _ _).alloc (Nat.le_refl _) _⟩
theorem getD_of_get_n {xs:List Nat} {j x:Nat} (h:xs[j]? = some x):xs.getD j 0=x:=by simp [h]
theorem getD_of_ge {xs:List Nat} {j:Nat} (h:xs.length≤j):xs.getD j 0=0:=by simp [List.getElem?_eq_none h]
theorem buf_step (zs:List Nat) (k n s:Nat) (hk:zs.length=k) (hn:k < n):(zs++List.replicate (n - k) 0).set k s=(zs++[s])++List.replicate (n - (k+1)) 0:=by
 subst hk
 rw [List.set_append_right _ _ (Nat.le_refl _),Nat.sub_self]
 have:n - zs.length=(n - (zs.length+1))+1:=by omega
 rw [this,List.replicate_succ,List.set_cons_zero]
 simp
theorem bits_add32_zero (x c:Nat) (w:World) (hx:x < 4294967296) (hc:c≤1) :
 Calls Tryz.prog 208 #[.int .u32 (x:Int), .int .u32 0, .int .u32 (c:Int)] w fun e w' =>
  e = .returned (.tuple #[.int .u32 (((x+0+c) % 4294967296:Nat):Int), .int .u32 (((x+0+c) / 4294967296:Nat):Int)])∧w=w' :=
 bits_add32 x 0 c w hx (by omega) hc
def AddRel (w:World) (xs ys:List Nat) (n:Nat) (B:Nat) (c i:Value) (wr:World):Prop :=
 ∃ k:Nat,k≤n∧i = .int .i64 (k:Int)∧c = .int .u32 ((addP xs ys k).2:Int)∧Own wr B 49 .u32 ((addP xs ys k).1++List.replicate (n+1 - k) 0)∧Below B w wr
theorem nat_add_ge (A1:Option Addr) (n c1:Nat) (xs:List Nat) (A2:Option Addr) (m c2:Nat) (ys:List Nat) (w:World)
 (h1:Nums .u32 w A1 n c1 xs) (h2:Nums .u32 w A2 m c2 ys) (lx:Lim xs) (ly:Lim ys) (r1:rightB xs=true) (r2:rightB ys=true) (hmn:m≤n) :
 Calls Tryz.prog 178 #[.slice A1 n c1, .slice A2 m c2] w (RetNat w (addN xs ys)):=by
 have l1:=h1.len
 have l2:=h2.len
 have hn32:n≤32:=by simp [rightB] at r1;omega
 have hlt:¬ (n < m):=by omega
 have hmk:=run_make_nums (P:=Tryz.prog) 31 49 .u32 4 Tryz.underlying31 Tryz.info34 (n+1) (by omega) (by omega)
 have hmk':∀ w:World,(Instr.makeSlice 31 (.int .i64 ((n:Int)+1)) (.int .i64 ((n:Int)+1))).run Tryz.prog w = .ok (.slice (some ⟨w.heap.size,0,none⟩) (n+1) (n+1)) (w.alloc (.cells (nums .u32 (List.replicate (n+1) 0)).toArray 49)):=hmk
 clear hmk
 have Hl1:=LH l1
 have Hl2:=LH l2
 clear l1 l2
 go_enter Tryz.func178,Tryz.ntmps178
 go_wp2_with (first
  | (go_at_call 75;(with_reducible refine (nat_right _ _ _ _ _ h1).mono ?_);rintro e w' ⟨rfl,rfl⟩)
  | (go_at_call 75;(with_reducible refine (nat_right _ _ _ _ _ h2).mono ?_);rintro e w' ⟨rfl,rfl⟩))
 go_loopw [7,31] (AddRel w xs ys n w.heap.size) (fun _ i _=>n - (intOf i).toNat)
 case atStart=>exact ⟨0,Nat.zero_le _,rfl,rfl,Own.new _ _ _ _,(Below.refl _ _).alloc (Nat.le_refl _) _⟩
 case round =>
  obtain ⟨k,hk,rfl,rfl,hown,hbel⟩:=hrel
  have hcar:=addP_carry xs ys lx ly k
  have hpl:=addP_len xs ys k
  have Hpl:=LH hpl
  clear hpl
  by_cases hlt:k < n
  · obtain ⟨b1,o1,x,rfl,hb1,Hx,hc1⟩:=(h1.below hbel).get (j:=k) hlt
    have hxl:=lx.of_get Hx.out
    have hfro:=hown.frozen k
    obtain ⟨z,Hz,hcz⟩:=hown.cell (i:=k) (by simp [Hpl.out];omega)
    by_cases hkm:k < m
    · obtain ⟨b2,o2,y,rfl,hb2,Hy,hc2⟩:=(h2.below hbel).get (j:=k) hkm
      have hyl:=ly.of_get Hy.out
      go_wp2_with (go_at_call 208;(with_reducible refine (bits_add32 x y _ _ hxl hyl hcar).mono ?_);rintro e w' ⟨rfl,rfl⟩)
      go_roundw
      case rel =>
       refine ⟨k+1,by omega,by go_num,?_,?_,hbel.setCell (by simp) _⟩
       · simp only [addP,getD_of_get_n Hx.out,getD_of_get_n Hy.out];go_num
       · have:=hown.set_ k ((x+y+(addP xs ys k).2) % 4294967296)
         rw [buf_step _ k (n+1) _ Hpl.out (by omega)] at this
         simpa [addP,Hx.out,Hy.out] using this
      case measure=>simp [intOf];omega
    · have Hy0:=LH (getD_of_ge (xs:=ys) (j:=k) (by have:=Hl2.out;omega))
      go_wp2_with (go_at_call 208;(with_reducible refine (bits_add32_zero x _ _ hxl hcar).mono ?_);rintro e w' ⟨rfl,rfl⟩)
      go_roundw
      case rel =>
       refine ⟨k+1,by omega,by go_num,?_,?_,hbel.setCell (by simp) _⟩
       · simp only [addP,getD_of_get_n Hx.out,Hy0.out];go_num
       · have:=hown.set_ k ((x+0+(addP xs ys k).2) % 4294967296)
         rw [buf_step _ k (n+1) _ Hpl.out (by omega)] at this
         have hy:=Hy0.out
         rw [List.getD_eq_getElem?_getD] at hy
         simpa [addP,Hx.out,hy] using this
      case measure=>simp [intOf];omega
  · obtain rfl:k=n:=by omega
    have hfro:=hown.frozen k
    obtain ⟨z,Hz,hcz⟩:=hown.cell (i:=k) (by simp [Hpl.out])
    have hown2:=hown.set_ k (addP xs ys k).2
    rw [buf_step _ k (k+1) _ Hpl.out (by omega),Nat.sub_self,List.replicate_zero,List.append_nil] at hown2
    have hnums:=hown2.nums (n:=k+1) (c:=k+1) (by simp [Hpl.out]) (Nat.le_refl _) (by omega)
    have hval:=addP_all xs ys k (by have:=Hl1.out;omega) (by have:=Hl2.out;omega)
    have Hval:=LH hval
    have hfin:addN xs ys=fitN (val xs+val ys):=by simp [addN,r1,r2]
    have Hfin:=LH hfin
    clear hval hfin hown2
    go_wp2_with (go_at_call 207;(with_reducible refine (nat_fit _ _ _ _ _ hnums ((addP_lim xs ys k).append (Lim.mk (by omega) Lim.nil))).mono ?_);rintro e w' ⟨A,c,rfl,hN,hB⟩)
    go_ret2
    rw [Hfin.out,← Hval.out]
    exact ⟨A,c,rfl,hN,below_tail (hbel.setCell (by simp) _) hB⟩
theorem nat_add_lt (A1:Option Addr) (n c1:Nat) (xs:List Nat) (A2:Option Addr) (m c2:Nat) (ys:List Nat) (w:World)
 (h1:Nums .u32 w A1 n c1 xs) (h2:Nums .u32 w A2 m c2 ys) (lx:Lim xs) (ly:Lim ys) (r1:rightB xs=true) (r2:rightB ys=true) (hmn:m < n) :
 Calls Tryz.prog 178 #[.slice A2 m c2, .slice A1 n c1] w (RetNat w (addN ys xs)):=by
 have l1:=h1.len
 have l2:=h2.len
 have hn32:n≤32:=by simp [rightB] at r1;omega
 have hlt:m < n:=hmn
 have hmk:=run_make_nums (P:=Tryz.prog) 31 49 .u32 4 Tryz.underlying31 Tryz.info34 (n+1) (by omega) (by omega)
 have hmk':∀ w:World,(Instr.makeSlice 31 (.int .i64 ((n:Int)+1)) (.int .i64 ((n:Int)+1))).run Tryz.prog w = .ok (.slice (some ⟨w.heap.size,0,none⟩) (n+1) (n+1)) (w.alloc (.cells (nums .u32 (List.replicate (n+1) 0)).toArray 49)):=hmk
 clear hmk
 have Hl1:=LH l1
 have Hl2:=LH l2
 clear l1 l2
 go_enter Tryz.func178,Tryz.ntmps178
 go_wp2_with (first
  | (go_at_call 75;(with_reducible refine (nat_right _ _ _ _ _ h2).mono ?_);rintro e w' ⟨rfl,rfl⟩)
  | (go_at_call 75;(with_reducible refine (nat_right _ _ _ _ _ h1).mono ?_);rintro e w' ⟨rfl,rfl⟩))
 go_loopw [7,31] (AddRel w xs ys n w.heap.size) (fun _ i _=>n - (intOf i).toNat)
 case atStart=>exact ⟨0,Nat.zero_le _,rfl,rfl,Own.new _ _ _ _,(Below.refl _ _).alloc (Nat.le_refl _) _⟩
 case round =>
  obtain ⟨k,hk,rfl,rfl,hown,hbel⟩:=hrel
  have hcar:=addP_carry xs ys lx ly k
  have hpl:=addP_len xs ys k
  have Hpl:=LH hpl
  clear hpl
  by_cases hlt:k < n
  · obtain ⟨b1,o1,x,rfl,hb1,Hx,hc1⟩:=(h1.below hbel).get (j:=k) hlt
    have hxl:=lx.of_get Hx.out
    have hfro:=hown.frozen k
    obtain ⟨z,Hz,hcz⟩:=hown.cell (i:=k) (by simp [Hpl.out];omega)
    by_cases hkm:k < m
    · obtain ⟨b2,o2,y,rfl,hb2,Hy,hc2⟩:=(h2.below hbel).get (j:=k) hkm
      have hyl:=ly.of_get Hy.out
      go_wp2_with (go_at_call 208;(with_reducible refine (bits_add32 x y _ _ hxl hyl hcar).mono ?_);rintro e w' ⟨rfl,rfl⟩)
      go_roundw
      case rel =>
       refine ⟨k+1,by omega,by go_num,?_,?_,hbel.setCell (by simp) _⟩
       · simp only [addP,getD_of_get_n Hx.out,getD_of_get_n Hy.out];go_num
       · have:=hown.set_ k ((x+y+(addP xs ys k).2) % 4294967296)
         rw [buf_step _ k (n+1) _ Hpl.out (by omega)] at this
         simpa [addP,Hx.out,Hy.out] using this
      case measure=>simp [intOf];omega
    · have Hy0:=LH (getD_of_ge (xs:=ys) (j:=k) (by have:=Hl2.out;omega))
      go_wp2_with (go_at_call 208;(with_reducible refine (bits_add32_zero x _ _ hxl hcar).mono ?_);rintro e w' ⟨rfl,rfl⟩)
      go_roundw
      case rel =>
       refine ⟨k+1,by omega,by go_num,?_,?_,hbel.setCell (by simp) _⟩
       · simp only [addP,getD_of_get_n Hx.out,Hy0.out];go_num
       · have:=hown.set_ k ((x+0+(addP xs ys k).2) % 4294967296)
         rw [buf_step _ k (n+1) _ Hpl.out (by omega)] at this
         have hy:=Hy0.out
         rw [List.getD_eq_getElem?_getD] at hy
         simpa [addP,Hx.out,hy] using this
      case measure=>simp [intOf];omega
  · obtain rfl:k=n:=by omega
    have hfro:=hown.frozen k
    obtain ⟨z,Hz,hcz⟩:=hown.cell (i:=k) (by simp [Hpl.out])
    have hown2:=hown.set_ k (addP xs ys k).2
    rw [buf_step _ k (k+1) _ Hpl.out (by omega),Nat.sub_self,List.replicate_zero,List.append_nil] at hown2
    have hnums:=hown2.nums (n:=k+1) (c:=k+1) (by simp [Hpl.out]) (Nat.le_refl _) (by omega)
    have hval:=addP_all xs ys k (by have:=Hl1.out;omega) (by have:=Hl2.out;omega)
    have Hval:=LH hval
    have hfin:addN ys xs=fitN (val xs+val ys):=by simp [addN,r1,r2,Nat.add_comm]
    have Hfin:=LH hfin
    clear hval hfin hown2
    go_wp2_with (go_at_call 207;(with_reducible refine (nat_fit _ _ _ _ _ hnums ((addP_lim xs ys k).append (Lim.mk (by omega) Lim.nil))).mono ?_);rintro e w' ⟨A,c,rfl,hN,hB⟩)
    go_ret2
    rw [Hfin.out,← Hval.out]
    exact ⟨A,c,rfl,hN,below_tail (hbel.setCell (by simp) _) hB⟩
theorem nat_add (A1:Option Addr) (n c1:Nat) (xs:List Nat) (A2:Option Addr) (m c2:Nat) (ys:List Nat) (w:World)
 (h1:Nums .u32 w A1 n c1 xs) (h2:Nums .u32 w A2 m c2 ys) (lx:Lim xs) (ly:Lim ys) :
 Calls Tryz.prog 178 #[.slice A1 n c1, .slice A2 m c2] w (RetNat w (addN xs ys)):=by
 by_cases r1:rightB xs=true
 · by_cases r2:rightB ys=true
   · by_cases hmn:m≤n
     · exact nat_add_ge A1 n c1 xs A2 m c2 ys w h1 h2 lx ly r1 r2 hmn
     · exact nat_add_lt A2 m c2 ys A1 n c1 xs w h2 h1 ly lx r2 r1 (by omega)
   · have r2':rightB ys=false:=by simpa using r2
     have hfin:addN xs ys=([],1):=by simp [addN,r2']
     rw [hfin]
     clear hfin r2
     go_enter Tryz.func178,Tryz.ntmps178
     go_wp2_with (first
      | (go_at_call 75;(with_reducible refine (nat_right _ _ _ _ _ h1).mono ?_);rintro e w' ⟨rfl,rfl⟩)
      | (go_at_call 75;(with_reducible refine (nat_right _ _ _ _ _ h2).mono ?_);rintro e w' ⟨rfl,rfl⟩))
     go_ret2
     exact ⟨none,0,rfl,Nums.nil _ _ _ _ (by simp),Below.refl _ _⟩
 · have r1':rightB xs=false:=by simpa using r1
   have hfin:addN xs ys=([],1):=by simp [addN,r1']
   rw [hfin]
   clear hfin r1
   go_enter Tryz.func178,Tryz.ntmps178
   go_wp2_with (first
    | (go_at_call 75;(with_reducible refine (nat_right _ _ _ _ _ h1).mono ?_);rintro e w' ⟨rfl,rfl⟩)
    | (go_at_call 75;(with_reducible refine (nat_right _ _ _ _ _ h2).mono ?_);rintro e w' ⟨rfl,rfl⟩))
   go_ret2
   exact ⟨none,0,rfl,Nums.nil _ _ _ _ (by simp),Below.refl _ _⟩
theorem ref_limb (A:Option Addr) (n c:Nat) (xs:List Nat) (i:Nat) (w:World) (h:Nums .u32 w A n c xs) (lx:Lim xs) :
 Calls Tryz.prog 79 #[.slice A n c, .int .i64 (i:Int)] w fun e w'=>e = .returned (.int .u64 ((xs.getD i 0:Nat):Int))∧w=w':=by
 obtain rfl:=h.len
 obtain ⟨y,Hy⟩:∃ y,Hid (xs.getD i 0=y):=⟨_,LH rfl⟩
 rw [Hy.out]
 by_cases hi:i < xs.length
 · obtain ⟨b,off,x,rfl,hb,Hx,hc⟩:=h.get hi
   have hge:¬ (xs.length:Int)≤(i:Int):=by omega
   have hxl:=lx.of_get Hx.out
   go_enter Tryz.func79,Tryz.ntmps79
   go_wp2
   go_ret
   rw [← Hy.out,getD_of_get_n Hx.out]
   exact ⟨rfl,rfl⟩
 · have hge:(xs.length:Int)≤(i:Int):=by omega
   have H0:=LH (getD_of_ge (xs:=xs) (j:=i) (by omega))
   go_enter Tryz.func79,Tryz.ntmps79
   go_wp2
   go_ret
   rw [← Hy.out,H0.out]
   exact ⟨rfl,rfl⟩
theorem ref_neat (A:Option Addr) (n c:Nat) (xs:List Nat) (w:World) (h:Nums .u32 w A n c xs) :
 Calls Tryz.prog 80 #[.slice A n c] w fun e w'=>e = .returned (.slice A (neatL xs).length c)∧Nums .u32 w A (neatL xs).length c (neatL xs)∧w=w':=by
 have hl:=h.len
 have hcap:=h.cap
 go_enter Tryz.func80,Tryz.ntmps80
 go_wp2
 go_loop [0] (fun v=>∃ k:Nat,k≤n∧v = .slice A k c∧neatL xs=neatL (xs.take k)) (fun v=>lenOf v)
 case atStart=>exact ⟨n,Nat.le_refl _,rfl,by rw [List.take_of_length_le (by omega)]⟩
 case round =>
  obtain ⟨k,hk,rfl,hrel⟩:=hrel
  have Hrel:=LH hrel
  clear hrel
  by_cases hlt:0 < k
  · obtain ⟨b,off,x,rfl,hb,Hx,hc⟩:=h.get (j:=k - 1) (by omega)
    by_cases h0:x=0
    · subst h0
      go_wp2
      go_round
      case rel =>
       refine ⟨k - 1,by omega,by go_num,?_⟩
       rw [Hrel.out]
       have:=neatL_step xs (k - 1) (by omega) (by simp [Hx.out])
       rw [← this,show k - 1+1=k from by omega]
      case measure=>simp [lenOf];omega
    · have ht:((x:Int) == 0)=false:=by simp [h0]
      have hfin:=neatL_stop xs (k - 1) (by omega) (by simpa [Hx.out] using h0)
      rw [show k - 1+1=k from by omega,← Hrel.out] at hfin
      have hfin2:(neatL xs).length=k:=by rw [hfin];simp;omega
      have Hf:=LH hfin
      have Hf2:=LH hfin2
      clear hfin hfin2
      go_wp2
      go_ret
      rw [Hf2.out]
      refine ⟨rfl,?_,rfl⟩
      rw [Hf.out]
      exact h.take k c hk (by omega) (by omega)
  · have hfin:neatL xs=[]:=by rw [Hrel.out,show k=0 from by omega];simp [neatL]
    have Hf:=LH hfin
    clear hfin
    obtain rfl:k=0:=by omega
    go_wp2
    go_ret
    rw [Hf.out]
    exact ⟨rfl,Nums.nil _ _ _ _ (by omega),rfl⟩
theorem ref_small (A:Option Addr) (n c:Nat) (xs:List Nat) (w:World) (h:Nums .u32 w A n c xs) (hx:Lim xs) :
 Calls Tryz.prog 112 #[.slice A n c] w (RetNat w (fitN (val xs))):=by
 have hf:=fit_neat xs hx
 by_cases h32:(neatL xs).length≤32
 · rw [if_pos h32] at hf
   have Hf:=LH hf
   clear hf
   go_enter Tryz.func112,Tryz.ntmps112
   go_wp2_with (go_at_call 80;refine (ref_neat _ _ _ _ _ h).mono ?_;rintro e w' ⟨rfl,hN,rfl⟩)
   go_ret2
   rw [← Hf.out]
   exact ⟨_,_,rfl,by assumption,Below.refl _ _⟩
 · rw [if_neg h32] at hf
   have Hf:=LH hf
   clear hf
   go_enter Tryz.func112,Tryz.ntmps112
   go_wp2_with (go_at_call 80;refine (ref_neat _ _ _ _ _ h).mono ?_;rintro e w' ⟨rfl,hN,rfl⟩)
   go_ret2
   rw [← Hf.out]
   exact ⟨none,0,rfl,Nums.nil _ _ _ _ (by simp),Below.refl _ _⟩
theorem right_len (xs:List Nat) (h:rightB xs=true):xs.length≤32:=by simp [rightB] at h;omega
def RAddRel (w:World) (xs ys:List Nat) (o c i:Value) (wr:World):Prop :=
 ∃ (k:Nat) (A:Option Addr) (cp:Nat),k≤33∧i = .int .i64 (k:Int)∧c = .int .u64 ((addP xs ys k).2:Int)∧o = .slice A k cp ∧
   wr.ownsRow w.heap.size 49 1 (.slice A k cp) k (nums .u32 (addP xs ys k).1)∧Below w.heap.size w wr
theorem ref_add (A1:Option Addr) (n c1:Nat) (xs:List Nat) (A2:Option Addr) (m c2:Nat) (ys:List Nat) (w:World)
 (h1:Nums .u32 w A1 n c1 xs) (h2:Nums .u32 w A2 m c2 ys) (lx:Lim xs) (ly:Lim ys) :
 Calls Tryz.prog 59 #[.slice A1 n c1, .slice A2 m c2] w (RetNat w (addN xs ys)):=by
 by_cases r1:rightB xs=true
 case neg =>
  have r1':rightB xs=false:=by simpa using r1
  have hfin:addN xs ys=([],1):=by simp [addN,r1']
  rw [hfin]
  clear hfin r1
  go_enter Tryz.func59,Tryz.ntmps59
  go_wp2_with (first
   | (go_at_call 78;(with_reducible refine (ref_right _ _ _ _ _ h1).mono ?_);rintro e w' ⟨rfl,rfl⟩)
   | (go_at_call 78;(with_reducible refine (ref_right _ _ _ _ _ h2).mono ?_);rintro e w' ⟨rfl,rfl⟩))
  go_ret2
  exact ⟨none,0,rfl,Nums.nil _ _ _ _ (by simp),Below.refl _ _⟩
 by_cases r2:rightB ys=true
 case neg =>
  have r2':rightB ys=false:=by simpa using r2
  have hfin:addN xs ys=([],1):=by simp [addN,r2']
  rw [hfin]
  clear hfin r2
  go_enter Tryz.func59,Tryz.ntmps59
  go_wp2_with (first
   | (go_at_call 78;(with_reducible refine (ref_right _ _ _ _ _ h1).mono ?_);rintro e w' ⟨rfl,rfl⟩)
   | (go_at_call 78;(with_reducible refine (ref_right _ _ _ _ _ h2).mono ?_);rintro e w' ⟨rfl,rfl⟩))
  go_ret2
  exact ⟨none,0,rfl,Nums.nil _ _ _ _ (by simp),Below.refl _ _⟩
 have hn32:=right_len xs r1
 have hm32:=right_len ys r2
 have hfin:addN xs ys=fitN (val xs+val ys):=by simp [addN,r1,r2]
 rw [hfin]
 clear hfin
 go_enter Tryz.func59,Tryz.ntmps59
 go_wp2_with (first
  | (go_at_call 78;(with_reducible refine (ref_right _ _ _ _ _ h1).mono ?_);rintro e w' ⟨rfl,rfl⟩)
  | (go_at_call 78;(with_reducible refine (ref_right _ _ _ _ _ h2).mono ?_);rintro e w' ⟨rfl,rfl⟩))
 go_loopw [6,7,8] (RAddRel w xs ys) (fun _ _ i _=>(33 - intOf i).toNat)
 case atStart=>exact ⟨0,none,0,Nat.zero_le _,rfl,rfl,rfl,World.ownsRow_nil _ _ _ _,Below.refl _ _⟩
 case round =>
  obtain ⟨k,A,cp,hk,rfl,rfl,rfl,hown,hbel⟩:=hrel
  have hcar:=addP_carry xs ys lx ly k
  have hbs:=hbel.size
  by_cases hlt:k < 33
  · have hxl:=lx.getD k
    have hyl:=ly.getD k
    obtain ⟨x,Hx⟩:∃ x,Hid (xs.getD k 0=x):=⟨_,LH rfl⟩
    obtain ⟨y,Hy⟩:∃ y,Hid (ys.getD k 0=y):=⟨_,LH rfl⟩
    have hl1:=ref_limb A1 n c1 xs k wr (h1.below hbel) lx
    have hl2:=ref_limb A2 m c2 ys k wr (h2.below hbel) ly
    rw [Hx.out] at hl1 hxl
    rw [Hy.out] at hl2 hyl
    have Hl1:=LH hl1
    have Hl2:=LH hl2
    clear hl1 hl2
    go_wp2_with (first
     | (go_at_call 79;(with_reducible refine Hl1.out.mono ?_);rintro e w' ⟨rfl,rfl⟩)
     | (go_at_call 79;(with_reducible refine Hl2.out.mono ?_);rintro e w' ⟨rfl,rfl⟩)
     | (at_builtin;refine wpl_append1 (w:=wr) rfl _ _ 31 rfl w.heap.size 49 (.int .u32 0) 4 Tryz.underlying31 Tryz.info34 rfl _ k _ _ rfl hown (.int .u32 (((x:Int)+(y:Int)+((addP xs ys k).2:Int)) % 4294967296)) rfl rfl (by omega) (by omega) (by omega) ?_;intro A4 c4 w2 ho hg))
    go_roundw
    case rel =>
     refine ⟨k+1,A4,c4,by omega,by go_num,?_,rfl,?_,below_append hbel hg hown hbs⟩
     · simp only [addP,Hx.out,Hy.out];go_num
     · simp only [addP,Hx.out,Hy.out,nums_snoc]
       simpa using ho
    case measure=>simp [intOf];omega
  · obtain rfl:k=33:=by omega
    have hval:=addP_full xs ys lx ly 32 hn32 hm32
    have Hval:=LH hval
    clear hval
    have hnums:Nums .u32 wr A 33 cp (addP xs ys 33).1:=own_sl hown
    go_wp2_with (go_at_call 112;(with_reducible refine (ref_small _ _ _ _ _ hnums (addP_lim xs ys 33)).mono ?_);rintro e w' ⟨A',c',rfl,hN,hB⟩)
    go_ret2
    rw [← Hval.out]
    exact ⟨A',c',rfl,hN,below_tail hbel hB⟩
def mulP (x:Nat) (ys zs:List Nat):Nat→List Nat × Nat
 | 0=>([],0)
 | k+1 =>
   let p:=mulP x ys zs k
   let s:=x * ys.getD k 0+zs.getD k 0+p.2
   (p.1++[s % 4294967296],s / 4294967296)
theorem mulP_len (x:Nat) (ys zs:List Nat) (k:Nat):(mulP x ys zs k).1.length=k:=by
 induction k with
 | zero=>rfl
 | succ k ih=>simp [mulP,ih]
theorem mulP_lim (x:Nat) (ys zs:List Nat) (k:Nat):Lim (mulP x ys zs k).1:=by
 induction k with
 | zero=>exact Lim.nil
 | succ k ih=>exact ih.append (Lim.mk (Nat.mod_lt _ (by decide)) Lim.nil)
theorem mul_bound {x y z c:Nat} (hx:x < 4294967296) (hy:y < 4294967296) (hz:z < 4294967296) (hc:c < 4294967296):x * y+z+c < 18446744073709551616:=by
 have h1:x * y≤4294967295 * 4294967295:=Nat.mul_le_mul (by omega) (by omega)
 omega
theorem mulP_carry (x:Nat) (ys zs:List Nat) (hx:x < 4294967296) (hy:Lim ys) (hz:Lim zs) (k:Nat):(mulP x ys zs k).2 < 4294967296:=by
 induction k with
 | zero=>simp [mulP]
 | succ k ih =>
   have:=mul_bound hx (hy.getD k) (hz.getD k) ih
   simp only [mulP]
   omega
theorem mulP_val (x:Nat) (ys zs:List Nat) (k:Nat) :
 val (mulP x ys zs k).1+4294967296 ^ k * (mulP x ys zs k).2=x * val (ys.take k)+val (zs.take k):=by
 induction k with
 | zero=>simp [mulP,val]
 | succ k ih =>
   rw [val_take_succ,val_take_succ]
   simp only [mulP]
   rw [val_snoc,mulP_len,Nat.pow_succ]
   generalize (mulP x ys zs k).1=qs at *
   generalize (mulP x ys zs k).2=c at *
   generalize ys.getD k 0=y at *
   generalize zs.getD k 0=z at *
   generalize (4294967296:Nat) ^ k=B at *
   have e:4294967296 * ((x * y+z+c) / 4294967296)+(x * y+z+c) % 4294967296=x * y+z+c:=Nat.div_add_mod _ _
   have:B * ((x * y+z+c) % 4294967296)+B * 4294967296 * ((x * y+z+c) / 4294967296)=B * (x * y)+B * z+B * c:=by
    rw [Nat.mul_assoc,← Nat.mul_add,Nat.add_comm,e,Nat.mul_add,Nat.mul_add]
   rw [Nat.mul_add]
   have e2:x * (B * y)=B * (x * y):=by rw [← Nat.mul_assoc,Nat.mul_comm x B,Nat.mul_assoc]
   omega
def mulBuf (x:Nat) (ys bs:List Nat) (i k:Nat):List Nat:=bs.take i++(mulP x ys (bs.drop i) k).1++bs.drop (i+k)
theorem mulBuf_zero (x:Nat) (ys bs:List Nat) (i:Nat):mulBuf x ys bs i 0=bs:=by simp [mulBuf,mulP]
theorem mulBuf_get (x:Nat) (ys bs:List Nat) (i k:Nat) (h:i+k < bs.length):(mulBuf x ys bs i k)[i+k]? = bs[i+k]? := by
 unfold mulBuf
 have hl:(bs.take i++(mulP x ys (bs.drop i) k).1).length=i+k:=by
  rw [List.length_append,List.length_take,mulP_len];omega
 rw [List.getElem?_append_right (by omega),hl,Nat.sub_self,List.getElem?_drop,Nat.add_zero]
theorem mulBuf_set (x:Nat) (ys bs:List Nat) (i k s:Nat) (h:i+k < bs.length) :
 (mulBuf x ys bs i k).set (i+k) s=bs.take i++((mulP x ys (bs.drop i) k).1++[s])++bs.drop (i+k+1):=by
 unfold mulBuf
 have hl:(bs.take i++(mulP x ys (bs.drop i) k).1).length=i+k:=by
  rw [List.length_append,List.length_take,mulP_len];omega
 rw [List.set_append_right _ _ (by omega),hl,Nat.sub_self,List.drop_eq_getElem_cons h,List.set_cons_zero]
 simp
theorem mulBuf_succ (x:Nat) (ys bs:List Nat) (i k:Nat) (h:i+k < bs.length) :
 (mulBuf x ys bs i k).set (i+k) ((x * ys.getD k 0+bs.getD (i+k) 0+(mulP x ys (bs.drop i) k).2) % 4294967296)=mulBuf x ys bs i (k+1):=by
 rw [mulBuf_set _ _ _ _ _ _ h]
 have:(bs.drop i).getD k 0=bs.getD (i+k) 0:=by simp [List.getElem?_drop]
 simp only [mulBuf,mulP,this,Nat.add_assoc]
theorem mulBuf_len (x:Nat) (ys bs:List Nat) (i k:Nat) (h:i+k≤bs.length):(mulBuf x ys bs i k).length=bs.length:=by
 unfold mulBuf
 rw [List.length_append,List.length_append,List.length_take,List.length_drop,mulP_len]
 omega
theorem mulBuf_lim (x:Nat) (ys bs:List Nat) (i k:Nat) (h:Lim bs):Lim (mulBuf x ys bs i k) :=
 ((h.take _).append (mulP_lim _ _ _ _)).append (h.drop _)
theorem drop_zeros_val (bs:List Nat) (j:Nat) (h:∀ i,j≤i→bs.getD i 0=0):val (bs.drop j)=0:=by
 induction bs generalizing j with
 | nil=>simp [val]
 | cons b t ih =>
   cases j with
   | zero =>
     have h0:=h 0 (Nat.le_refl _)
     simp at h0
     have:=ih 0 (fun i _=>by have:=h (i+1) (by omega);simpa using this)
     simp [val,h0] at this ⊢
     omega
   | succ j =>
     simpa using ih j (fun i hi=>by have:=h (i+1) (by omega);simpa using this)
theorem val_split (bs:List Nat) (i:Nat) (h:i≤bs.length):val bs=val (bs.take i)+4294967296 ^ i * val (bs.drop i):=by
 have:val (bs.take i++bs.drop i)=val (bs.take i)+4294967296 ^ (bs.take i).length * val (bs.drop i):=val_append _ _
 rw [List.take_append_drop,List.length_take,Nat.min_eq_left h] at this
 exact this
theorem mul_row (x:Nat) (ys bs:List Nat) (i:Nat) (hlen:i+ys.length < bs.length) (hz:∀ j,i+ys.length≤j→bs.getD j 0=0) :
 let out:=(mulBuf x ys bs i ys.length).set (i+ys.length) (mulP x ys (bs.drop i) ys.length).2
 val out=val bs+4294967296 ^ i * (x * val ys)∧out.length=bs.length∧∀ j,i+1+ys.length≤j→out.getD j 0=0:=by
 have hv:=mulP_val x ys (bs.drop i) ys.length
 have hs:=val_split bs i (by omega)
 have hs2:=val_split (bs.drop i) ys.length (by rw [List.length_drop];omega)
 have hd0:val ((bs.drop i).drop ys.length)=0:=by
  rw [List.drop_drop]
  exact drop_zeros_val bs _ (fun j hj=>hz j (by omega))
 have hd1:val (bs.drop (i+ys.length+1))=0:=drop_zeros_val bs _ (fun j hj=>hz j (by omega))
 rw [List.take_length] at hv
 refine ⟨?_,?_,?_⟩
 · rw [mulBuf_set _ _ _ _ _ _ hlen,val_append,val_append,val_snoc,hd1,List.length_take,Nat.min_eq_left (by omega),mulP_len,Nat.mul_zero,Nat.add_zero]
   rw [hs,hs2,hd0,Nat.mul_zero,Nat.add_zero,hv,Nat.mul_add]
   omega
 · rw [List.length_set,mulBuf_len _ _ _ _ _ (by omega)]
 · intro j hj
   rw [mulBuf_set _ _ _ _ _ _ hlen]
   have hl:(bs.take i++((mulP x ys (bs.drop i) ys.length).1++[(mulP x ys (bs.drop i) ys.length).2])).length=i+ys.length+1:=by
    rw [List.length_append,List.length_append,List.length_take,mulP_len];simp;omega
   rw [List.getD_eq_getElem?_getD,List.getElem?_append_right (by omega),hl,List.getElem?_drop]
   have:=hz j (by omega)
   rw [List.getD_eq_getElem?_getD] at this
   rw [show i+ys.length+1+(j - (i+ys.length+1))=j from by omega]
   exact this
theorem mul_row_full (x:Nat) (ys bs:List Nat) (i:Nat) (hi:i≤bs.length) (hfit:val bs+4294967296 ^ i * (x * val ys) < 4294967296 ^ bs.length) (hy:ys.length≤bs.length - i) :
 val (mulBuf x ys bs i (bs.length - i))=val bs+4294967296 ^ i * (x * val ys)∧(mulBuf x ys bs i (bs.length - i)).length=bs.length:=by
 have hv:=mulP_val x ys (bs.drop i) (bs.length - i)
 have hs:=val_split bs i hi
 rw [List.take_of_length_le hy,List.take_of_length_le (by rw [List.length_drop];exact Nat.le_refl _)] at hv
 refine ⟨?_,mulBuf_len _ _ _ _ _ (by omega)⟩
 unfold mulBuf
 rw [show i+(bs.length - i)=bs.length from by omega,List.drop_length,List.append_nil,val_append,List.length_take,Nat.min_eq_left hi]
 have e:4294967296 ^ i * val (mulP x ys (bs.drop i) (bs.length - i)).1+4294967296 ^ bs.length * (mulP x ys (bs.drop i) (bs.length - i)).2=4294967296 ^ i * (x * val ys)+4294967296 ^ i * val (bs.drop i):=by
  rw [← Nat.mul_add,← hv,Nat.mul_add]
  congr 1
  rw [← Nat.mul_assoc,← Nat.pow_add,show i+(bs.length - i)=bs.length from by omega]
 have hc:(mulP x ys (bs.drop i) (bs.length - i)).2=0:=by
  rcases Nat.eq_zero_or_pos (mulP x ys (bs.drop i) (bs.length - i)).2 with h0 | h0
  · exact h0
  · have:4294967296 ^ bs.length * 1≤4294967296 ^ bs.length * (mulP x ys (bs.drop i) (bs.length - i)).2:=Nat.mul_le_mul_left _ h0
    omega
 rw [hc,Nat.mul_zero,Nat.add_zero] at e
 omega
end Go.Proofs.YtggbjdmpjidhgaaGreatDoor
