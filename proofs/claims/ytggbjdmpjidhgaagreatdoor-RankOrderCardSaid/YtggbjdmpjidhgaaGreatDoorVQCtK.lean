/- numbers that may be too great, in memory: one; a row of them in a block of its own. -/
import Derived.Test.YtggbjdmpjidhgaaGreatDoorVQCyP9
import Derived.Test.YtggbjdmpjidhgaaGreatDoorVQCtP4
import Derived.Test.YtggbjdmpjidhgaaGreatDoorProg
import Derived.Test.YtggbjdmpjidhgaaGreatDoorVQKit
import Derived.Lib.BitFns
import Derived.Lib.Strings
import Derived.Lib.Slices
import Derived.Lib.Small
import Derived.Lib.Walk
import Derived.Deep.QuietTactic
import Derived.BigQuiet
set_option linter.unusedVariables false
set_option linter.unusedSimpArgs false
set_option maxHeartbeats 8000000
set_option maxRecDepth 100000
namespace Go.Proofs.YtggbjdmpjidhgaaGreatDoor
open Go.RowKit
def IntKeep (w w':World):Prop:=w.heap.size≤w'.heap.size∧∀ b,b < w.heap.size→(∃ o k z,w.cell? ⟨b,o,none⟩=some (Value.int k z))→w'.heap[b]? = w.heap[b]?
def NoInt (w:World) (g:Nat):Prop:=∀ o k z,w.cell? ⟨g,o,none⟩ ≠ some (Value.int k z)
theorem IntKeep.trans {a b c:World} (h:IntKeep a b) (k:IntKeep b c):IntKeep a c:=by
 refine ⟨Nat.le_trans h.1 k.1,fun g d hi=>?_⟩
 have e:=h.2 g d hi
 refine (k.2 g (Nat.lt_of_lt_of_le d h.1) ?_).trans e
 obtain ⟨o,q,z,f⟩:=hi
 exact ⟨o,q,z,(World.cell?_of_block (a:=⟨g,o,none⟩) e).trans f⟩
theorem IntKeep.of_below {w w':World} (h:Below w.heap.size w w'):IntKeep w w':=⟨h.size,fun b a _=>h.block b a⟩
theorem IntKeep.of_off {S:Nat→Prop} {w w':World} (h:Off S w w') (a:∀ g,S g→NoInt w g):IntKeep w w':=⟨h.size,fun b c ⟨o,k,z,d⟩=>h.keep b c fun f=>a b f o k z d⟩
theorem Nums.kept {k:IntKind} {w w':World} {A:Option Addr} {n c:Nat} {xs:List Nat} (h:Nums k w A n c xs) (m:IntKeep w w'):Nums k w' A n c xs:=by
 refine ⟨h.1,h.2.1,h.2.2.1,fun d=>?_⟩
 obtain ⟨b,f,e,g,l⟩:=h.2.2.2 d
 have h0:=l 0 d
 have hi:∃ o q z,w.cell? ⟨b,o,none⟩=some (Value.int q z):=by
  have s:0 < xs.length:=by simpa [nums] using d
  refine ⟨f+0,k,((xs[0]:Nat):Int),?_⟩
  rw [h0]
  simp [nums,s]
 have p:=m.2 b g hi
 exact ⟨b,f,e,Nat.lt_of_lt_of_le g m.1,fun j r=>(World.cell?_of_block (a:=⟨b,f+j,none⟩) p).trans (l j r)⟩
def ValN (w:World) (A:Option Addr) (n c:Nat) (b:Bool) (x:Nat):Prop:=b=(capV x).2∧Nums .u32 w A n c (capV x).1
theorem ValN.kept {w w':World} {A:Option Addr} {n c:Nat} {b:Bool} {x:Nat} (h:ValN w A n c b x) (a:IntKeep w w'):ValN w' A n c b x:=⟨h.1,h.2.kept a⟩
theorem ValN.below {w w':World} {A:Option Addr} {n c:Nat} {b:Bool} {x:Nat} (h:ValN w A n c b x) (a:Below w.heap.size w w'):ValN w' A n c b x:=⟨h.1,h.2.below a⟩
theorem ValN.zero (w:World) (A:Option Addr) (c:Nat) (d:c≤9223372036854775807):ValN w A 0 c false 0:=by
 have b:0 < big:=by unfold big;generalize 1024=k;exact Nat.two_pow_pos k
 have a:capV 0=([],false):=by rw [capV_small b];rfl
 unfold ValN
 rw [a]
 exact ⟨rfl,Nums.nil _ _ _ _ d⟩
theorem ValN.none_iff {w:World} {A:Option Addr} {n c:Nat} {b:Bool} {x:Nat} (h:ValN w A n c b x):(b=false∧n=0) ↔ x=0:=by
 obtain ⟨rfl,f⟩:=h
 have a:=f.len
 by_cases d:x < big
 · rw [capV_small d] at a ⊢
   simp only [true_and] at a ⊢
   rw [← a]
   exact limbs_none
 · rw [capV_big d]
   have g:0 < big:=by unfold big;generalize 1024=k;exact Nat.two_pow_pos k
   constructor
   · rintro ⟨h,_⟩;cases h
   · rintro rfl;exact absurd g d
def VRow (w:World) (g:Nat) (t:TypeId) (xs:List Nat):Prop:=∃ cs:Array Value,Blk w g t cs∧cs.size=xs.length * 2∧∀ (j:Nat) x,xs[j]? = some x→∃ A n c b,cs[j * 2]? = some (.slice A n c)∧cs[j * 2+1]? = some (.bool b)∧ValN w A n c b x
theorem VRow.lt {w:World} {g:Nat} {t:TypeId} {xs:List Nat} (h:VRow w g t xs):g < w.heap.size:=by
 obtain ⟨cs,a,_⟩:=h
 exact a.lt
theorem VRow.noInt {w:World} {g:Nat} {t:TypeId} {xs:List Nat} (h:VRow w g t xs):NoInt w g:=by
 obtain ⟨cs,f,l,j⟩:=h
 intro o k z a
 rw [f.cell o] at a
 have m:o < xs.length * 2:=by rw [← l];exact (Array.getElem?_eq_some_iff.1 a).1
 obtain ⟨A,n,c,b,h1,d,_⟩:=j (o / 2) _ (List.getElem?_eq_getElem (show o / 2 < xs.length by omega))
 rcases (by omega:o=o / 2 * 2∨o=o / 2 * 2+1) with e | e
 · rw [e,h1] at a;cases a
 · rw [e,d] at a;cases a
theorem VRow.get {w:World} {g:Nat} {t:TypeId} {xs:List Nat} (h:VRow w g t xs) {j:Nat} (d:j < xs.length):∃ A n c b,w.cell? ⟨g,j * 2,none⟩=some (.slice A n c)∧w.cell? ⟨g,j * 2+1,none⟩=some (.bool b)∧ValN w A n c b (xs.getD j 0):=by
 obtain ⟨cs,a,m,l⟩:=h
 obtain ⟨A,n,c,b,h1,f,k⟩:=l j _ (List.getElem?_eq_getElem d)
 refine ⟨A,n,c,b,(a.cell _).trans h1,(a.cell _).trans f,?_⟩
 rw [List.getD_eq_getElem?_getD,List.getElem?_eq_getElem d]
 exact k
theorem VRow.kept {w w':World} {g:Nat} {t:TypeId} {xs:List Nat} (h:VRow w g t xs) (m:IntKeep w w') (l:w'.heap[g]? = w.heap[g]?):VRow w' g t xs:=by
 obtain ⟨cs,f,o,k⟩:=h
 refine ⟨cs,l.trans f,o,fun j x p=>?_⟩
 obtain ⟨A,n,c,b,h1,a,d⟩:=k j x p
 exact ⟨A,n,c,b,h1,a,d.kept m⟩
theorem VRow.below {w w':World} {g:Nat} {t:TypeId} {xs:List Nat} (h:VRow w g t xs) (a:Below w.heap.size w w'):VRow w' g t xs:=h.kept (.of_below a) (a.block g h.lt)
def zeroCells (n:Nat):Array Value:=((List.range n).flatMap fun _=>[Value.slice none 0 0,Value.bool false]).toArray
theorem zeroCells_at:∀ (n j:Nat),j < n→(zeroCells n)[j * 2]? = some (.slice none 0 0)∧(zeroCells n)[j * 2+1]? = some (.bool false):=by
 intro n
 have a:∀ m,((List.range m).flatMap fun _=>[Value.slice none 0 0,Value.bool false]).length=m * 2:=by
  intro m
  induction m with
  | zero=>rfl
  | succ m b=>rw [List.range_succ,List.flatMap_append,List.length_append,b];simp;omega
 induction n with
 | zero=>intro j c;omega
 | succ n b =>
   intro j c
   unfold zeroCells at b ⊢
   simp only [List.getElem?_toArray] at b ⊢
   rw [List.range_succ,List.flatMap_append]
   rcases (by omega:j < n∨j=n) with h | rfl
   · rw [List.getElem?_append_left (by rw [a];omega),List.getElem?_append_left (by rw [a];omega)]
     exact b j h
   · rw [List.getElem?_append_right (by rw [a];omega),List.getElem?_append_right (by rw [a];omega),a]
     simp [Nat.add_sub_cancel_left]
theorem zeroCells_size (n:Nat):(zeroCells n).size=n * 2:=by
 unfold zeroCells
 simp only [List.size_toArray]
 induction n with
 | zero=>rfl
 | succ n a=>rw [List.range_succ,List.flatMap_append,List.length_append,a];simp;omega
theorem VRow.new (w:World) (t:TypeId) (n:Nat):VRow (w.alloc (.cells (zeroCells n) t)) w.heap.size t (List.replicate n 0):=by
 refine ⟨zeroCells n,Blk.new w t _,by rw [zeroCells_size,List.length_replicate],fun j x a=>?_⟩
 have b:j < n:=by have:=(List.getElem?_eq_some_iff.1 a).1;simpa using this
 obtain rfl:0=x:=by rw [List.getElem?_replicate,if_pos b] at a;exact Option.some.inj a
 obtain ⟨h1,c⟩:=zeroCells_at n j b
 exact ⟨none,0,0,false,h1,c,ValN.zero _ _ _ (by omega)⟩
theorem quiet_left {P:Program} {f:FuncId} {args:Array Value} {w:World} {n:Nat} {v:Value}
 (h:Calls P f args (w.drewN n) fun e w'=>e = .returned v∧w.drewN n=w'):Calls P f args (w.drewN n) fun e c=>e = .returned v∧∃ m,c=w.drewN m :=
 h.mono fun _ _ ⟨a,b⟩=>⟨a,n,b.symm⟩
theorem ret_num2 {k l:IntKind} {a b c d:Int} (h:a=b) (f:c=d):Ending.returned (.tuple #[.int k a, .int l c]) = .returned (.tuple #[.int k b, .int l d]):=by rw [h,f]
theorem bits_add32 (x y c:Nat) (w:World) (b:x < 4294967296) (d:y < 4294967296) (a:c≤1) :
 Calls Tryz.prog 208 #[.int .u32 (x:Int), .int .u32 (y:Int), .int .u32 (c:Int)] w fun e w' =>
  e = .returned (.tuple #[.int .u32 (((x+y+c) % 4294967296:Nat):Int), .int .u32 (((x+y+c) / 4294967296:Nat):Int)])∧w=w':=by
 go_enter Tryz.func208,Tryz.ntmps208
 go_wp2
 go_ret2
 exact ⟨ret_num2 (by omega) (by omega),rfl⟩
def RetNat (w:World) (p:List Nat × Nat) (e:Ending) (w':World):Prop :=
 ∃ A c,e = .returned (.tuple #[.slice A p.1.length c, .int .i64 (p.2:Int)])∧Nums .u32 w' A p.1.length c p.1∧Below w.heap.size w w'
def RetLimbs (w:World) (a:List Nat) (e:Ending) (w':World):Prop :=
 ∃ A c,e = .returned (.slice A a.length c)∧Nums .u32 w' A a.length c a∧Below w.heap.size w w'
def Quiet (w:World) (v:Value) (e:Ending) (w':World):Prop:=e = .returned v∧Same w w'
theorem Tryz.info34:(Tryz.prog.info? 49).map (fun i=>(i.zero,i.size,i.bytes))=some (some (.int .u32 0),1,4):=by kernel_rfl
theorem nat_right (A:Option Addr) (n c:Nat) (xs:List Nat) (w:World) (h:Nums .u32 w A n c xs) :
 Calls Tryz.prog 75 #[.slice A n c] w fun e w'=>e = .returned (.bool (rightB xs))∧w=w':=by
 have a:=h.len
 have o:=h.cap
 by_cases h0:n=0
 · subst h0
   go_enter Tryz.func75,Tryz.ntmps75
   go_wp2
   go_ret
   exact ⟨by simp [rightB,a],rfl⟩
 · obtain ⟨b,q,x,rfl,l,Hx,m⟩:=h.get (j:=n - 1) (by omega)
   have g:=Hx.out
   by_cases d:n≤32
   · have p:((n:Int) == 0)=false:=by simp;omega
     have f:rightB xs=((x:Int) != 0):=by
      simp [rightB,a,d,h0,g,cast_bne0]
     have k:=LH f
     clear f g
     go_enter Tryz.func75,Tryz.ntmps75
     go_wp2
     go_ret
     rw [k.out]
     exact ⟨rfl,rfl⟩
   · go_enter Tryz.func75,Tryz.ntmps75
     go_wp2
     go_ret
     exact ⟨by simp [rightB,a,d],rfl⟩
theorem nat_neat (A:Option Addr) (n c:Nat) (xs:List Nat) (w:World) (h:Nums .u32 w A n c xs) :
 Calls Tryz.prog 199 #[.slice A n c] w fun e w'=>e = .returned (.slice A (neatL xs).length (neatL xs).length)∧Nums .u32 w A (neatL xs).length (neatL xs).length (neatL xs)∧w=w':=by
 have r:=h.len
 have q:=h.cap
 go_enter Tryz.func199,Tryz.ntmps199
 go_wp2
 go_loop [3] (fun i=>∃ k:Nat,k≤n∧i = .int .i64 k∧neatL xs=neatL (xs.take k)) (fun i=>(intOf i).toNat)
 case atStart=>exact ⟨n,Nat.le_refl _,rfl,by rw [List.take_of_length_le (by omega)]⟩
 case round =>
  obtain ⟨k,m,rfl,hrel⟩:=hrel
  have f:=LH hrel
  clear hrel
  by_cases s:0 < k
  · obtain ⟨b,u,x,rfl,o,Hx,p⟩:=h.get (j:=k - 1) (by omega)
    by_cases h0:x=0
    · subst h0
      go_wp2
      go_round
      case rel =>
       refine ⟨k - 1,by omega,by go_num,?_⟩
       rw [f.out]
       have:=neatL_step xs (k - 1) (by omega) (by simp [Hx.out])
       rw [← this,show k - 1+1=k from by omega]
      case measure=>simp [intOf];omega
    · have t:((x:Int) == 0)=false:=by simp [h0]
      have a:=neatL_stop xs (k - 1) (by omega) (by simpa [Hx.out] using h0)
      rw [show k - 1+1=k from by omega,← f.out] at a
      have g:(neatL xs).length=k:=by rw [a];simp;omega
      have d:=LH a
      have l:=LH g
      clear a g
      go_wp2
      go_ret
      rw [l.out]
      refine ⟨rfl,?_,rfl⟩
      rw [d.out]
      exact h.take k k m (Nat.le_refl _) (by omega)
  · have a:neatL xs=[]:=by rw [f.out,show k=0 from by omega];simp [neatL]
    have d:=LH a
    clear a
    obtain rfl:k=0:=by omega
    go_wp2
    go_ret
    rw [d.out]
    exact ⟨rfl,Nums.nil _ _ _ _ (by simp),rfl⟩
theorem nat_fit (A:Option Addr) (n c:Nat) (xs:List Nat) (w:World) (h:Nums .u32 w A n c xs) (g:Lim xs) :
 Calls Tryz.prog 207 #[.slice A n c] w (RetNat w (fitN (val xs))):=by
 have a:=fit_neat xs g
 by_cases d:(neatL xs).length≤32
 · rw [if_pos d] at a
   have b:=LH a
   clear a
   go_enter Tryz.func207,Tryz.ntmps207
   go_wp2_with (go_at_call 199;refine (nat_neat _ _ _ _ _ h).mono ?_;rintro e w' ⟨rfl,f,rfl⟩)
   go_ret2
   rw [← b.out]
   exact ⟨_,_,rfl,by assumption,Below.refl _ _⟩
 · rw [if_neg d] at a
   have b:=LH a
   clear a
   go_enter Tryz.func207,Tryz.ntmps207
   go_wp2_with (go_at_call 199;refine (nat_neat _ _ _ _ _ h).mono ?_;rintro e w' ⟨rfl,f,rfl⟩)
   go_ret2
   rw [← b.out]
   exact ⟨none,0,rfl,Nums.nil _ _ _ _ (by simp),Below.refl _ _⟩
theorem nat_of (x:Nat) (w:World) (j:x < 18446744073709551616) :
 Calls Tryz.prog 153 #[.int .u64 (x:Int)] w (RetLimbs w (limbs x)):=by
 have h:Lim [x % 4294967296,x / 4294967296]:=Lim.mk (by omega) (Lim.mk (by omega) Lim.nil)
 have f:val [x % 4294967296,x / 4294967296]=x:=by simp [val];omega
 have a:=neatL_limbs _ h
 rw [f] at a
 have g:=LH a
 clear a f
 have d:=(Own.new w 49 .u32 [x % 4294967296,x / 4294967296]).nums (n:=2) (c:=2) rfl (Nat.le_refl _) (by omega)
 have e:(nums .u32 [x % 4294967296,x / 4294967296]).toArray=#[.int .u32 ((x:Int) % 4294967296), .int .u32 ((x:Int) / 4294967296)]:=by simp [nums]
 rw [e] at d
 clear e
 go_enter Tryz.func153,Tryz.ntmps153
 go_wp2_with (go_at_call 199;refine (nat_neat _ _ _ _ _ d).mono ?_;rintro e w' ⟨rfl,b,rfl⟩)
 go_ret
 rw [g.out] at b ⊢
 exact ⟨_,_,rfl,b,(Below.refl _ _).alloc (Nat.le_refl _) _⟩
theorem getD_of_get_n {xs:List Nat} {j x:Nat} (h:xs[j]? = some x):xs.getD j 0=x:=by simp [h]
theorem getD_of_ge {xs:List Nat} {j:Nat} (h:xs.length≤j):xs.getD j 0=0:=by simp [List.getElem?_eq_none h]
theorem buf_step (a:List Nat) (k n s:Nat) (b:a.length=k) (c:k < n):(a++List.replicate (n - k) 0).set k s=(a++[s])++List.replicate (n - (k+1)) 0:=by
 subst b
 rw [List.set_append_right _ _ (Nat.le_refl _),Nat.sub_self]
 have:n - a.length=(n - (a.length+1))+1:=by omega
 rw [this,List.replicate_succ,List.set_cons_zero]
 simp
theorem bits_add32_zero (x c:Nat) (w:World) (b:x < 4294967296) (a:c≤1) :
 Calls Tryz.prog 208 #[.int .u32 (x:Int), .int .u32 0, .int .u32 (c:Int)] w fun e w' =>
  e = .returned (.tuple #[.int .u32 (((x+0+c) % 4294967296:Nat):Int), .int .u32 (((x+0+c) / 4294967296:Nat):Int)])∧w=w' :=
 bits_add32 x 0 c w b (by omega) a
def AddRel (w:World) (xs ys:List Nat) (n:Nat) (B:Nat) (c i:Value) (wr:World):Prop :=
 ∃ k:Nat,k≤n∧i = .int .i64 (k:Int)∧c = .int .u32 ((addP xs ys k).2:Int)∧Own wr B 49 .u32 ((addP xs ys k).1++List.replicate (n+1 - k) 0)∧Below B w wr
theorem nat_add_ge (l:Option Addr) (n c1:Nat) (xs:List Nat) (o:Option Addr) (m c2:Nat) (ys:List Nat) (w:World)
 (h1:Nums .u32 w l n c1 xs) (g:Nums .u32 w o m c2 ys) (G:Lim xs) (H:Lim ys) (I:rightB xs=true) (X:rightB ys=true) (ah:m≤n) :
 Calls Tryz.prog 178 #[.slice l n c1, .slice o m c2] w (RetNat w (addN xs ys)):=by
 have E:=h1.len
 have F:=g.len
 have ai:n≤32:=by simp [rightB] at I;omega
 have t:¬ (n < m):=by omega
 have u:=run_make_nums (P:=Tryz.prog) 31 49 .u32 4 Tryz.underlying31 Tryz.info34 (n+1) (by omega) (by omega)
 have ag:∀ w:World,(Instr.makeSlice 31 (.int .i64 ((n:Int)+1)) (.int .i64 ((n:Int)+1))).run Tryz.prog w = .ok (.slice (some ⟨w.heap.size,0,none⟩) (n+1) (n+1)) (w.alloc (.cells (nums .u32 (List.replicate (n+1) 0)).toArray 49)):=u
 clear u
 have L:=LH E
 have p:=LH F
 clear E F
 go_enter Tryz.func178,Tryz.ntmps178
 go_wp2_with (first
  | (go_at_call 75;(with_reducible refine (nat_right _ _ _ _ _ h1).mono ?_);rintro e w' ⟨rfl,rfl⟩)
  | (go_at_call 75;(with_reducible refine (nat_right _ _ _ _ _ g).mono ?_);rintro e w' ⟨rfl,rfl⟩))
 go_loopw [7,31] (AddRel w xs ys n w.heap.size) (fun _ i _=>n - (intOf i).toNat)
 case atStart=>exact ⟨0,Nat.zero_le _,rfl,rfl,Own.new _ _ _ _,(Below.refl _ _).alloc (Nat.le_refl _) _⟩
 case round =>
  obtain ⟨k,hk,rfl,rfl,a,d⟩:=hrel
  have r:=addP_carry xs ys G H k
  have v:=addP_len xs ys k
  have b:=LH v
  clear v
  by_cases t:k < n
  · obtain ⟨Y,o1,x,rfl,aa,Hx,ad⟩:=(h1.below d).get (j:=k) t
    have C:=G.of_get Hx.out
    have T:=a.frozen k
    obtain ⟨z,N,S⟩:=a.cell (i:=k) (by simp [b.out];omega)
    by_cases U:k < m
    · obtain ⟨Z,o2,y,rfl,ab,f,ae⟩:=(g.below d).get (j:=k) U
      have W:=H.of_get f.out
      go_wp2_with (go_at_call 208;(with_reducible refine (bits_add32 x y _ _ C W r).mono ?_);rintro e w' ⟨rfl,rfl⟩)
      go_roundw
      case rel =>
       refine ⟨k+1,by omega,by go_num,?_,?_,d.setCell (by simp) _⟩
       · simp only [addP,getD_of_get_n Hx.out,getD_of_get_n f.out];go_num
       · have:=a.set_ k ((x+y+(addP xs ys k).2) % 4294967296)
         rw [buf_step _ k (n+1) _ b.out (by omega)] at this
         simpa [addP,Hx.out,f.out] using this
      case measure=>simp [intOf];omega
    · have q:=LH (getD_of_ge (xs:=ys) (j:=k) (by have:=p.out;omega))
      go_wp2_with (go_at_call 208;(with_reducible refine (bits_add32_zero x _ _ C r).mono ?_);rintro e w' ⟨rfl,rfl⟩)
      go_roundw
      case rel =>
       refine ⟨k+1,by omega,by go_num,?_,?_,d.setCell (by simp) _⟩
       · simp only [addP,getD_of_get_n Hx.out,q.out];go_num
       · have:=a.set_ k ((x+0+(addP xs ys k).2) % 4294967296)
         rw [buf_step _ k (n+1) _ b.out (by omega)] at this
         have D:=q.out
         rw [List.getD_eq_getElem?_getD] at D
         simpa [addP,Hx.out,D] using this
      case measure=>simp [intOf];omega
  · obtain rfl:k=n:=by omega
    have T:=a.frozen k
    obtain ⟨z,N,S⟩:=a.cell (i:=k) (by simp [b.out])
    have h:=a.set_ k (addP xs ys k).2
    rw [buf_step _ k (k+1) _ b.out (by omega),Nat.sub_self,List.replicate_zero,List.append_nil] at h
    have V:=h.nums (n:=k+1) (c:=k+1) (by simp [b.out]) (Nat.le_refl _) (by omega)
    have B:=addP_all xs ys k (by have:=L.out;omega) (by have:=p.out;omega)
    have M:=LH B
    have s:addN xs ys=fitN (val xs+val ys):=by simp [addN,I,X]
    have J:=LH s
    clear B s h
    go_wp2_with (go_at_call 207;(with_reducible refine (nat_fit _ _ _ _ _ V ((addP_lim xs ys k).append (Lim.mk (by omega) Lim.nil))).mono ?_);rintro e w' ⟨A,c,rfl,R,O⟩)
    go_ret2
    rw [J.out,← M.out]
    exact ⟨A,c,rfl,R,below_tail (d.setCell (by simp) _) O⟩
theorem nat_add_lt (l:Option Addr) (n c1:Nat) (xs:List Nat) (o:Option Addr) (m c2:Nat) (ys:List Nat) (w:World)
 (h1:Nums .u32 w l n c1 xs) (g:Nums .u32 w o m c2 ys) (G:Lim xs) (H:Lim ys) (I:rightB xs=true) (Y:rightB ys=true) (V:m < n) :
 Calls Tryz.prog 178 #[.slice o m c2, .slice l n c1] w (RetNat w (addN ys xs)):=by
 have E:=h1.len
 have F:=g.len
 have ai:n≤32:=by simp [rightB] at I;omega
 have t:m < n:=V
 have u:=run_make_nums (P:=Tryz.prog) 31 49 .u32 4 Tryz.underlying31 Tryz.info34 (n+1) (by omega) (by omega)
 have ah:∀ w:World,(Instr.makeSlice 31 (.int .i64 ((n:Int)+1)) (.int .i64 ((n:Int)+1))).run Tryz.prog w = .ok (.slice (some ⟨w.heap.size,0,none⟩) (n+1) (n+1)) (w.alloc (.cells (nums .u32 (List.replicate (n+1) 0)).toArray 49)):=u
 clear u
 have L:=LH E
 have p:=LH F
 clear E F
 go_enter Tryz.func178,Tryz.ntmps178
 go_wp2_with (first
  | (go_at_call 75;(with_reducible refine (nat_right _ _ _ _ _ g).mono ?_);rintro e w' ⟨rfl,rfl⟩)
  | (go_at_call 75;(with_reducible refine (nat_right _ _ _ _ _ h1).mono ?_);rintro e w' ⟨rfl,rfl⟩))
 go_loopw [7,31] (AddRel w xs ys n w.heap.size) (fun _ i _=>n - (intOf i).toNat)
 case atStart=>exact ⟨0,Nat.zero_le _,rfl,rfl,Own.new _ _ _ _,(Below.refl _ _).alloc (Nat.le_refl _) _⟩
 case round =>
  obtain ⟨k,hk,rfl,rfl,a,d⟩:=hrel
  have r:=addP_carry xs ys G H k
  have v:=addP_len xs ys k
  have b:=LH v
  clear v
  by_cases t:k < n
  · obtain ⟨Z,o1,x,rfl,ab,Hx,ae⟩:=(h1.below d).get (j:=k) t
    have C:=G.of_get Hx.out
    have T:=a.frozen k
    obtain ⟨z,N,S⟩:=a.cell (i:=k) (by simp [b.out];omega)
    by_cases U:k < m
    · obtain ⟨b2,o2,y,rfl,ad,f,af⟩:=(g.below d).get (j:=k) U
      have X:=H.of_get f.out
      go_wp2_with (go_at_call 208;(with_reducible refine (bits_add32 x y _ _ C X r).mono ?_);rintro e w' ⟨rfl,rfl⟩)
      go_roundw
      case rel =>
       refine ⟨k+1,by omega,by go_num,?_,?_,d.setCell (by simp) _⟩
       · simp only [addP,getD_of_get_n Hx.out,getD_of_get_n f.out];go_num
       · have:=a.set_ k ((x+y+(addP xs ys k).2) % 4294967296)
         rw [buf_step _ k (n+1) _ b.out (by omega)] at this
         simpa [addP,Hx.out,f.out] using this
      case measure=>simp [intOf];omega
    · have q:=LH (getD_of_ge (xs:=ys) (j:=k) (by have:=p.out;omega))
      go_wp2_with (go_at_call 208;(with_reducible refine (bits_add32_zero x _ _ C r).mono ?_);rintro e w' ⟨rfl,rfl⟩)
      go_roundw
      case rel =>
       refine ⟨k+1,by omega,by go_num,?_,?_,d.setCell (by simp) _⟩
       · simp only [addP,getD_of_get_n Hx.out,q.out];go_num
       · have:=a.set_ k ((x+0+(addP xs ys k).2) % 4294967296)
         rw [buf_step _ k (n+1) _ b.out (by omega)] at this
         have D:=q.out
         rw [List.getD_eq_getElem?_getD] at D
         simpa [addP,Hx.out,D] using this
      case measure=>simp [intOf];omega
  · obtain rfl:k=n:=by omega
    have T:=a.frozen k
    obtain ⟨z,N,S⟩:=a.cell (i:=k) (by simp [b.out])
    have h:=a.set_ k (addP xs ys k).2
    rw [buf_step _ k (k+1) _ b.out (by omega),Nat.sub_self,List.replicate_zero,List.append_nil] at h
    have W:=h.nums (n:=k+1) (c:=k+1) (by simp [b.out]) (Nat.le_refl _) (by omega)
    have B:=addP_all xs ys k (by have:=L.out;omega) (by have:=p.out;omega)
    have M:=LH B
    have s:addN ys xs=fitN (val xs+val ys):=by simp [addN,I,Y,Nat.add_comm]
    have J:=LH s
    clear B s h
    go_wp2_with (go_at_call 207;(with_reducible refine (nat_fit _ _ _ _ _ W ((addP_lim xs ys k).append (Lim.mk (by omega) Lim.nil))).mono ?_);rintro e w' ⟨A,c,rfl,R,O⟩)
    go_ret2
    rw [J.out,← M.out]
    exact ⟨A,c,rfl,R,below_tail (d.setCell (by simp) _) O⟩
theorem nat_add (b:Option Addr) (n c1:Nat) (xs:List Nat) (c:Option Addr) (m c2:Nat) (ys:List Nat) (w:World)
 (h1:Nums .u32 w b n c1 xs) (d:Nums .u32 w c m c2 ys) (h:Lim xs) (j:Lim ys) :
 Calls Tryz.prog 178 #[.slice b n c1, .slice c m c2] w (RetNat w (addN xs ys)):=by
 by_cases f:rightB xs=true
 · by_cases g:rightB ys=true
   · by_cases k:m≤n
     · exact nat_add_ge b n c1 xs c m c2 ys w h1 d h j f g k
     · exact nat_add_lt c m c2 ys b n c1 xs w d h1 j h g f (by omega)
   · have o:rightB ys=false:=by simpa using g
     have a:addN xs ys=([],1):=by simp [addN,o]
     rw [a]
     clear a g
     go_enter Tryz.func178,Tryz.ntmps178
     go_wp2_with (first
      | (go_at_call 75;(with_reducible refine (nat_right _ _ _ _ _ h1).mono ?_);rintro e w' ⟨rfl,rfl⟩)
      | (go_at_call 75;(with_reducible refine (nat_right _ _ _ _ _ d).mono ?_);rintro e w' ⟨rfl,rfl⟩))
     go_ret2
     exact ⟨none,0,rfl,Nums.nil _ _ _ _ (by simp),Below.refl _ _⟩
 · have l:rightB xs=false:=by simpa using f
   have a:addN xs ys=([],1):=by simp [addN,l]
   rw [a]
   clear a f
   go_enter Tryz.func178,Tryz.ntmps178
   go_wp2_with (first
    | (go_at_call 75;(with_reducible refine (nat_right _ _ _ _ _ h1).mono ?_);rintro e w' ⟨rfl,rfl⟩)
    | (go_at_call 75;(with_reducible refine (nat_right _ _ _ _ _ d).mono ?_);rintro e w' ⟨rfl,rfl⟩))
   go_ret2
   exact ⟨none,0,rfl,Nums.nil _ _ _ _ (by simp),Below.refl _ _⟩
theorem ref_neat (A:Option Addr) (n c:Nat) (xs:List Nat) (w:World) (h:Nums .u32 w A n c xs) :
 Calls Tryz.prog 80 #[.slice A n c] w fun e w'=>e = .returned (.slice A (neatL xs).length c)∧Nums .u32 w A (neatL xs).length c (neatL xs)∧w=w':=by
 have r:=h.len
 have q:=h.cap
 go_enter Tryz.func80,Tryz.ntmps80
 go_wp2
 go_loop [0] (fun v=>∃ k:Nat,k≤n∧v = .slice A k c∧neatL xs=neatL (xs.take k)) (fun v=>lenOf v)
 case atStart=>exact ⟨n,Nat.le_refl _,rfl,by rw [List.take_of_length_le (by omega)]⟩
 case round =>
  obtain ⟨k,m,rfl,hrel⟩:=hrel
  have f:=LH hrel
  clear hrel
  by_cases s:0 < k
  · obtain ⟨b,u,x,rfl,o,Hx,p⟩:=h.get (j:=k - 1) (by omega)
    by_cases h0:x=0
    · subst h0
      go_wp2
      go_round
      case rel =>
       refine ⟨k - 1,by omega,by go_num,?_⟩
       rw [f.out]
       have:=neatL_step xs (k - 1) (by omega) (by simp [Hx.out])
       rw [← this,show k - 1+1=k from by omega]
      case measure=>simp [lenOf];omega
    · have t:((x:Int) == 0)=false:=by simp [h0]
      have a:=neatL_stop xs (k - 1) (by omega) (by simpa [Hx.out] using h0)
      rw [show k - 1+1=k from by omega,← f.out] at a
      have g:(neatL xs).length=k:=by rw [a];simp;omega
      have d:=LH a
      have l:=LH g
      clear a g
      go_wp2
      go_ret
      rw [l.out]
      refine ⟨rfl,?_,rfl⟩
      rw [d.out]
      exact h.take k c m (by omega) (by omega)
  · have a:neatL xs=[]:=by rw [f.out,show k=0 from by omega];simp [neatL]
    have d:=LH a
    clear a
    obtain rfl:k=0:=by omega
    go_wp2
    go_ret
    rw [d.out]
    exact ⟨rfl,Nums.nil _ _ _ _ (by omega),rfl⟩
def mulP (x:Nat) (ys a:List Nat):Nat→List Nat × Nat
 | 0=>([],0)
 | k+1 =>
   let p:=mulP x ys a k
   let s:=x * ys.getD k 0+a.getD k 0+p.2
   (p.1++[s % 4294967296],s / 4294967296)
theorem mulP_len (x:Nat) (ys b:List Nat) (k:Nat):(mulP x ys b k).1.length=k:=by
 induction k with
 | zero=>rfl
 | succ k a=>simp [mulP,a]
theorem mulP_lim (x:Nat) (ys b:List Nat) (k:Nat):Lim (mulP x ys b k).1:=by
 induction k with
 | zero=>exact Lim.nil
 | succ k a=>exact a.append (Lim.mk (Nat.mod_lt _ (by decide)) Lim.nil)
theorem mul_bound {x y z c:Nat} (b:x < 4294967296) (d:y < 4294967296) (f:z < 4294967296) (a:c < 4294967296):x * y+z+c < 18446744073709551616:=by
 have h1:x * y≤4294967295 * 4294967295:=Nat.mul_le_mul (by omega) (by omega)
 omega
theorem mulP_carry (x:Nat) (ys a:List Nat) (b:x < 4294967296) (c:Lim ys) (d:Lim a) (k:Nat):(mulP x ys a k).2 < 4294967296:=by
 induction k with
 | zero=>simp [mulP]
 | succ k f =>
   have:=mul_bound b (c.getD k) (d.getD k) f
   simp only [mulP]
   omega
theorem mulP_val (x:Nat) (ys a:List Nat) (k:Nat) :
 val (mulP x ys a k).1+4294967296 ^ k * (mulP x ys a k).2=x * val (ys.take k)+val (a.take k):=by
 induction k with
 | zero=>simp [mulP,val]
 | succ k d =>
   rw [val_take_succ,val_take_succ]
   simp only [mulP]
   rw [val_snoc,mulP_len,Nat.pow_succ]
   generalize (mulP x ys a k).1=f at *
   generalize (mulP x ys a k).2=c at *
   generalize ys.getD k 0=y at *
   generalize a.getD k 0=z at *
   generalize (4294967296:Nat) ^ k=B at *
   have e:4294967296 * ((x * y+z+c) / 4294967296)+(x * y+z+c) % 4294967296=x * y+z+c:=Nat.div_add_mod _ _
   have:B * ((x * y+z+c) % 4294967296)+B * 4294967296 * ((x * y+z+c) / 4294967296)=B * (x * y)+B * z+B * c:=by
    rw [Nat.mul_assoc,← Nat.mul_add,Nat.add_comm,e,Nat.mul_add,Nat.mul_add]
   rw [Nat.mul_add]
   have b:x * (B * y)=B * (x * y):=by rw [← Nat.mul_assoc,Nat.mul_comm x B,Nat.mul_assoc]
   omega
def mulBuf (x:Nat) (ys a:List Nat) (i k:Nat):List Nat:=a.take i++(mulP x ys (a.drop i) k).1++a.drop (i+k)
theorem mulBuf_zero (x:Nat) (ys a:List Nat) (i:Nat):mulBuf x ys a i 0=a:=by simp [mulBuf,mulP]
theorem mulBuf_get (x:Nat) (ys a:List Nat) (i k:Nat) (h:i+k < a.length):(mulBuf x ys a i k)[i+k]? = a[i+k]? := by
 unfold mulBuf
 have b:(a.take i++(mulP x ys (a.drop i) k).1).length=i+k:=by
  rw [List.length_append,List.length_take,mulP_len];omega
 rw [List.getElem?_append_right (by omega),b,Nat.sub_self,List.getElem?_drop,Nat.add_zero]
theorem mulBuf_set (x:Nat) (ys a:List Nat) (i k s:Nat) (h:i+k < a.length) :
 (mulBuf x ys a i k).set (i+k) s=a.take i++((mulP x ys (a.drop i) k).1++[s])++a.drop (i+k+1):=by
 unfold mulBuf
 have b:(a.take i++(mulP x ys (a.drop i) k).1).length=i+k:=by
  rw [List.length_append,List.length_take,mulP_len];omega
 rw [List.set_append_right _ _ (by omega),b,Nat.sub_self,List.drop_eq_getElem_cons h,List.set_cons_zero]
 simp
theorem mulBuf_succ (x:Nat) (ys a:List Nat) (i k:Nat) (h:i+k < a.length) :
 (mulBuf x ys a i k).set (i+k) ((x * ys.getD k 0+a.getD (i+k) 0+(mulP x ys (a.drop i) k).2) % 4294967296)=mulBuf x ys a i (k+1):=by
 rw [mulBuf_set _ _ _ _ _ _ h]
 have:(a.drop i).getD k 0=a.getD (i+k) 0:=by simp [List.getElem?_drop]
 simp only [mulBuf,mulP,this,Nat.add_assoc]
theorem mulBuf_len (x:Nat) (ys a:List Nat) (i k:Nat) (h:i+k≤a.length):(mulBuf x ys a i k).length=a.length:=by
 unfold mulBuf
 rw [List.length_append,List.length_append,List.length_take,List.length_drop,mulP_len]
 omega
theorem mulBuf_lim (x:Nat) (ys a:List Nat) (i k:Nat) (h:Lim a):Lim (mulBuf x ys a i k) :=
 ((h.take _).append (mulP_lim _ _ _ _)).append (h.drop _)
theorem drop_zeros_val (a:List Nat) (j:Nat) (h:∀ i,j≤i→a.getD i 0=0):val (a.drop j)=0:=by
 induction a generalizing j with
 | nil=>simp [val]
 | cons b t c =>
   cases j with
   | zero =>
     have h0:=h 0 (Nat.le_refl _)
     simp at h0
     have:=c 0 (fun i _=>by have:=h (i+1) (by omega);simpa using this)
     simp [val,h0] at this ⊢
     omega
   | succ j =>
     simpa using c j (fun i hi=>by have:=h (i+1) (by omega);simpa using this)
theorem val_split (a:List Nat) (i:Nat) (h:i≤a.length):val a=val (a.take i)+4294967296 ^ i * val (a.drop i):=by
 have:val (a.take i++a.drop i)=val (a.take i)+4294967296 ^ (a.take i).length * val (a.drop i):=val_append _ _
 rw [List.take_append_drop,List.length_take,Nat.min_eq_left h] at this
 exact this
theorem mul_row (x:Nat) (ys a:List Nat) (i:Nat) (f:i+ys.length < a.length) (b:∀ j,i+ys.length≤j→a.getD j 0=0) :
 let c:=(mulBuf x ys a i ys.length).set (i+ys.length) (mulP x ys (a.drop i) ys.length).2
 val c=val a+4294967296 ^ i * (x * val ys)∧c.length=a.length∧∀ j,i+1+ys.length≤j→c.getD j 0=0:=by
 have g:=mulP_val x ys (a.drop i) ys.length
 have m:=val_split a i (by omega)
 have n:=val_split (a.drop i) ys.length (by rw [List.length_drop];omega)
 have h:val ((a.drop i).drop ys.length)=0:=by
  rw [List.drop_drop]
  exact drop_zeros_val a _ (fun j d=>b j (by omega))
 have k:val (a.drop (i+ys.length+1))=0:=drop_zeros_val a _ (fun j d=>b j (by omega))
 rw [List.take_length] at g
 refine ⟨?_,?_,?_⟩
 · rw [mulBuf_set _ _ _ _ _ _ f,val_append,val_append,val_snoc,k,List.length_take,Nat.min_eq_left (by omega),mulP_len,Nat.mul_zero,Nat.add_zero]
   rw [m,n,h,Nat.mul_zero,Nat.add_zero,g,Nat.mul_add]
   omega
 · rw [List.length_set,mulBuf_len _ _ _ _ _ (by omega)]
 · intro j d
   rw [mulBuf_set _ _ _ _ _ _ f]
   have l:(a.take i++((mulP x ys (a.drop i) ys.length).1++[(mulP x ys (a.drop i) ys.length).2])).length=i+ys.length+1:=by
    rw [List.length_append,List.length_append,List.length_take,mulP_len];simp;omega
   rw [List.getD_eq_getElem?_getD,List.getElem?_append_right (by omega),l,List.getElem?_drop]
   have:=b j (by omega)
   rw [List.getD_eq_getElem?_getD] at this
   rw [show i+ys.length+1+(j - (i+ys.length+1))=j from by omega]
   exact this

def RetV (w:World) (z:Nat) (e:Ending) (w':World):Prop:=Below w.heap.size w w'∧∃ A n c b,e = .returned (.agg #[.slice A n c, .bool b])∧ValN w' A n c b z
theorem ValN.over (w:World) {z:Nat} (h:¬ z < big):ValN w none 0 0 true z:=by
 unfold ValN
 rw [capV_big h]
 exact ⟨rfl,Nums.nil _ _ _ _ (by omega)⟩
theorem capV_lim (x:Nat):Lim (capV x).1:=by
 unfold capV
 split
 · exact limbs_lim x
 · exact fun y a=>by cases a
theorem ValN.cases {w:World} {A:Option Addr} {n c:Nat} {b:Bool} {x:Nat} (h:ValN w A n c b x):(x < big∧b=false∧(capV x).1=limbs x)∨(¬ x < big∧b=true∧(capV x).1=[]):=by
 obtain ⟨rfl,_⟩:=h
 by_cases a:x < big
 · rw [capV_small a];exact .inl ⟨a,rfl,rfl⟩
 · rw [capV_big a];exact .inr ⟨a,rfl,rfl⟩
end Go.Proofs.YtggbjdmpjidhgaaGreatDoor
