/- words that the packed base lacks. -/
import Derived.Test.YtggbjdmpjidhgaaGreatDoorVQCtW11
set_option linter.unusedVariables false
set_option linter.unusedSimpArgs false
set_option maxHeartbeats 8000000
set_option maxRecDepth 100000
namespace Go.Proofs.YtggbjdmpjidhgaaGreatDoor
open Go.RowKit
theorem Own.drew {w:World} {g:Nat} {t:TypeId} {k:IntKind} {a:List Nat} (h:Own w g t k a):Own w.drew g t k a:=h
theorem Own.alloc {w:World} {g:Nat} {t:TypeId} {k:IntKind} {a:List Nat} (h:Own w g t k a) (o:Obj):Own (w.alloc o) g t k a :=
 (Below.heap_alloc w o g h.lt).trans h
theorem Own.below {w w':World} {B g:Nat} {t:TypeId} {k:IntKind} {a:List Nat} (h:Own w g t k a) (b:Below B w w') (c:g < B):Own w' g t k a:=(b.block g c).trans h
theorem Nums.drew {k:IntKind} {w:World} {A:Option Addr} {n c:Nat} {xs:List Nat} (h:Nums k w A n c xs):Nums k w.drew A n c xs:=h
theorem Sl.same {w w':World} {A:Option Addr} {n c:Nat} {xs:List Value} (h:Sl w A n c xs) (a:Same w w'):Sl w' A n c xs:=h.below (a.below _)
theorem tight_of_right (xs:List Nat) (h:rightB xs=true):Tight xs:=by
 intro b x a
 subst a
 simp [rightB] at h
 exact h.2
theorem limbs_zero:limbs 0=[]:=by
 have:=(limbs_len_le 0 0).2 (by decide)
 exact List.eq_nil_of_length_eq_zero (by omega)
theorem limbs_of_right (xs:List Nat) (h:Lim xs) (a:rightB xs=true):xs=limbs (val xs)∧val xs < big:=by
 refine ⟨(limbs_val xs h (tight_of_right xs a)).symm,?_⟩
 have h1:=val_lt xs h
 simp [rightB] at a
 rw [big_eq]
 exact Nat.lt_of_lt_of_le h1 (Nat.pow_le_pow_right (by decide) a.1)
def subN (xs a:List Nat):List Nat × Nat :=
 if rightB xs && rightB a then (if val xs < val a then ([],11) else (limbs (val xs - val a),0)) else ([],1)
def cmpI (a b:Nat):Int:=if a < b then -1 else if b < a then 1 else 0
def cmpN (xs a:List Nat):Int:=if rightB xs && rightB a then cmpI (val xs) (val a) else 0
def bitLen (n:Nat):Nat:=if n=0 then 0 else n.log2+1
def bitsN (xs:List Nat):Nat:=if rightB xs then bitLen (val xs) else 0
def quoN (xs a:List Nat):List Nat × List Nat × Nat :=
 if rightB xs && rightB a && a.length != 0 then (limbs (val xs / val a),limbs (val xs % val a),0) else ([],[],1)
def subP (xs a:List Nat):Nat→List Nat × Nat
 | 0=>([],0)
 | i+1 =>
   let p:=subP xs a i
   let s:=4294967296+xs.getD i 0 - a.getD i 0 - p.2
   (p.1++[s % 4294967296],1 - s / 4294967296)
theorem subP_len (xs b:List Nat) (i:Nat):(subP xs b i).1.length=i:=by
 induction i with
 | zero=>rfl
 | succ i a=>simp [subP,a]
theorem subP_lim (xs b:List Nat) (i:Nat):Lim (subP xs b i).1:=by
 induction i with
 | zero=>exact Lim.nil
 | succ i a=>exact a.append (Lim.mk (Nat.mod_lt _ (by decide)) Lim.nil)
theorem subP_borrow (xs a:List Nat) (i:Nat):(subP xs a i).2≤1:=by
 cases i with
 | zero=>simp [subP]
 | succ i=>simp only [subP];omega
theorem subP_val (xs l:List Nat) (a:Lim xs) (b:Lim l) (i:Nat) :
 val (subP xs l i).1+val (l.take i)=val (xs.take i)+4294967296 ^ i * (subP xs l i).2:=by
 induction i with
 | zero=>simp [subP,val]
 | succ i h =>
   have g:=subP_borrow xs l i
   have h1:=a.getD i
   have f:=b.getD i
   rw [val_take_succ,val_take_succ]
   simp only [subP]
   rw [val_snoc,subP_len,Nat.pow_succ]
   generalize (subP xs l i).1=j at *
   generalize (subP xs l i).2=c at *
   generalize xs.getD i 0=x at *
   generalize l.getD i 0=y at *
   generalize (4294967296:Nat) ^ i=B at *
   have e:(4294967296+x - y - c) % 4294967296+y+c=x+4294967296 * (1 - (4294967296+x - y - c) / 4294967296):=by omega
   generalize (4294967296+x - y - c) % 4294967296=d at *
   generalize 1 - (4294967296+x - y - c) / 4294967296=k at *
   have:B * d+B * y+B * c=B * x+B * 4294967296 * k:=by
    rw [← Nat.mul_add,← Nat.mul_add,e,Nat.mul_add,Nat.mul_assoc]
   omega
theorem subP_all (xs d:List Nat) (b:Lim xs) (c:Lim d) (i:Nat) (h1:xs.length≤i) (a:d.length≤i) :
 val (subP xs d i).1+val d=val xs+4294967296 ^ i * (subP xs d i).2:=by
 have:=subP_val xs d b c i
 rwa [List.take_of_length_le h1,List.take_of_length_le a] at this
theorem subP_less (xs l:List Nat) (g:Lim xs) (b:Lim l) (i:Nat) (h1:xs.length≤i) (a:l.length≤i) :
 (subP xs l i).2=if val xs < val l then 1 else 0:=by
 have h:=subP_all xs l g b i h1 a
 have j:=subP_borrow xs l i
 have f:=val_lt _ (subP_lim xs l i)
 rw [subP_len] at f
 have k:val l < 4294967296 ^ i:=Nat.lt_of_lt_of_le (val_lt l b) (Nat.pow_le_pow_right (by decide) a)
 generalize (subP xs l i).2=c at *
 generalize (4294967296:Nat) ^ i=B at *
 have d:c=0∨c=1:=by omega
 rcases d with rfl | rfl
 · rw [if_neg (by omega)]
 · rw [if_pos (by omega)]
theorem subP_eq (xs f:List Nat) (b:Lim xs) (c:Lim f) (i:Nat) (h1:xs.length≤i) (a:f.length≤i) (h:val f≤val xs) :
 val (subP xs f i).1=val xs - val f:=by
 have d:=subP_all xs f b c i h1 a
 rw [subP_less xs f b c i h1 a,if_neg (by omega)] at d
 omega
theorem ret_num {k:IntKind} {a b:Int} (h:a=b):Ending.returned (.int k a) = .returned (.int k b):=by rw [h]
theorem borrow_bit (x y c:Nat) (j:x < 4294967296) (a:y < 4294967296) (n:c≤1) :
 (((4294967295 ^^^ x) &&& y) ||| ((4294967295 ^^^ (x ^^^ y)) &&& ((4294967296+x - y - c) % 4294967296))) / 2147483648=1 - (4294967296+x - y - c) / 4294967296:=by
 have key:∀ z:Nat,z < 4294967296→z / 2147483648=(z.testBit 31).toNat:=fun z p=>by
  rw [Nat.testBit_eq_decide_div_mod_eq]
  have:z / 2 ^ 31 % 2=z / 2147483648:=by
   have:z / 2 ^ 31=z / 2147483648:=rfl
   omega
  rw [this]
  have:z / 2147483648=0∨z / 2147483648=1:=by omega
  rcases this with h | h <;> simp [h]
 have hd:(4294967296+x - y - c) % 4294967296 < 4294967296:=Nat.mod_lt _ (by decide)
 generalize o:(4294967296+x - y - c) % 4294967296=d at *
 have g:(((4294967295 ^^^ x) &&& y) ||| ((4294967295 ^^^ (x ^^^ y)) &&& d)) < 2 ^ 32 :=
  Nat.or_lt_two_pow (Nat.and_lt_two_pow _ a) (Nat.and_lt_two_pow _ hd)
 rw [key _ g]
 have t:Nat.testBit 4294967295 31=true:=by decide
 simp only [Nat.testBit_or,Nat.testBit_and,Nat.testBit_xor,t]
 have l:=key x j
 have m:=key y a
 have k:=key d hd
 cases f:x.testBit 31 <;> cases by_:y.testBit 31 <;> cases b:d.testBit 31 <;> simp [f,by_,b] at l m k ⊢ <;> omega
theorem bits_sub32 (x y c:Nat) (w:World) (a:x < 4294967296) (b:y < 4294967296) (o:c≤1) :
 Calls Tryz.prog 210 #[.int .u32 (x:Int), .int .u32 (y:Int), .int .u32 (c:Int)] w fun e w' =>
  e = .returned (.tuple #[.int .u32 (((4294967296+x - y - c) % 4294967296:Nat):Int), .int .u32 ((1 - (4294967296+x - y - c) / 4294967296:Nat):Int)])∧w=w':=by
 have hd:((x:Int) - (y:Int) - (c:Int)) % 4294967296=(((4294967296+x - y - c) % 4294967296:Nat):Int):=by omega
 have k:=borrow_bit x y c a b o
 have f:(4294967296+x - y - c) % 4294967296 < 4294967296:=Nat.mod_lt _ (by decide)
 have h1:(4294967295 ^^^ x) < 2 ^ 32:=Nat.xor_lt_two_pow (by decide) a
 have d:(x ^^^ y) < 2 ^ 32:=Nat.xor_lt_two_pow a b
 have g:(4294967295 ^^^ (x ^^^ y)) < 2 ^ 32:=Nat.xor_lt_two_pow (by decide) d
 have h:((4294967295 ^^^ x) &&& y) < 2 ^ 32:=Nat.and_lt_two_pow _ b
 have j:((4294967295 ^^^ (x ^^^ y)) &&& ((4294967296+x - y - c) % 4294967296)) < 2 ^ 32:=Nat.and_lt_two_pow _ f
 have l:IntKind.u32.max=((4294967295:Nat):Int):=rfl
 have e:bits .or .u32 (bits .and .u32 (bits .xor .u32 IntKind.u32.max (x:Int)) (y:Int)) (bits .and .u32 (bits .xor .u32 IntKind.u32.max (bits .xor .u32 (x:Int) (y:Int))) (((x:Int) - (y:Int) - (c:Int)) % 4294967296)) / 2147483648=((1 - (4294967296+x - y - c) / 4294967296:Nat):Int):=by
  rw [hd,l,u32_xor_nat _ _ (by decide) a,u32_xor_nat _ _ a b,u32_xor_nat _ _ (by decide) d,u32_and_nat _ _ h1 b,u32_and_nat _ _ g f,u32_or_nat _ _ h j,← k]
  rfl
 have n:=LH e
 have m:=LH hd
 clear e hd l h1 d g h j f k
 go_enter Tryz.func210,Tryz.ntmps210
 go_wp2
 go_ret2
 exact ⟨ret_num2 m.out n.out,rfl⟩
theorem wrap64_small (n:Int) (h0:0≤n) (h1:n < 1000000):wrap64 n=n:=by unfold wrap64;omega
theorem len8_get (j:Nat) (h:j < Lib.len8tab.size):(Lib.len8tab[j]'h).toNat=Lib.bitLen j:=by
 have a:j < 256:=by rw [← Lib.len8tab_size];exact h
 have:=Lib.len8_of (j:Int) (by omega) (by omega)
 unfold Lib.len8 at this
 simp only [Int.toNat_natCast] at this
 rw [getElem?_pos Lib.len8tab j h,Option.getD_some] at this
 omega
theorem bits_len32 (x:Int) (w:World) (h0:0≤x) (h1:x≤4294967295) :
 Calls Tryz.prog 233 #[.int .u32 x] w fun e w'=>e = .returned (.int .i64 (Lib.bitLen x.toNat))∧w=w':=by
 have a:Lib.len8tab.size=256:=rfl
 go_enter Tryz.func233,Tryz.ntmps233
 go_wp2
 all_goals go_ret
 · refine ⟨ret_num ?_,rfl⟩
   have e:(x / 65536 / 256).toNat=x.toNat / 16777216:=by omega
   have l:=Lib.bitLen_le8' (x / 65536 / 256) (by omega) (by omega)
   have s:=Lib.bitLen_shift24 x.toNat (by omega) (by omega)
   rw [← e] at s
   simp only [len8_get]
   rw [wrap64_small (Lib.bitLen _:Int) (by omega) (by omega),wrap64_small _ (by omega) (by omega)]
   omega
 · refine ⟨ret_num ?_,rfl⟩
   have e:(x / 65536).toNat=x.toNat / 65536:=by omega
   have l:=Lib.bitLen_le8' (x / 65536) (by omega) (by omega)
   have s:=Lib.bitLen_shift16 x.toNat (by omega) (by omega)
   rw [← e] at s
   simp only [len8_get]
   rw [wrap64_small (Lib.bitLen _:Int) (by omega) (by omega),wrap64_small _ (by omega) (by omega)]
   omega
 · refine ⟨ret_num ?_,rfl⟩
   have e:(x / 256).toNat=x.toNat / 256:=by omega
   have l:=Lib.bitLen_le8' (x / 256) (by omega) (by omega)
   have s:=Lib.bitLen_shift8 x.toNat (by omega) (by omega)
   rw [← e] at s
   simp only [len8_get]
   rw [wrap64_small (Lib.bitLen _:Int) (by omega) (by omega),wrap64_small _ (by omega) (by omega)]
   omega
 · refine ⟨ret_num ?_,rfl⟩
   have l:=Lib.bitLen_le8' x (by omega) (by omega)
   simp only [len8_get]
   rw [wrap64_small (Lib.bitLen _:Int) (by omega) (by omega),wrap64_small _ (by omega) (by omega)]
theorem cmp_int (a b:Int) (w:World) :
 Calls Tryz.prog 127 #[.int .i64 a, .int .i64 b] w fun e w'=>e = .returned (.int .i64 (if a < b then -1 else if b < a then 1 else 0))∧w=w':=by
 by_cases h1:a < b
 · go_enter Tryz.func127,Tryz.ntmps127
   go_wp2
   go_ret
   exact ⟨by simp,rfl⟩
 · by_cases c:b < a
   · go_enter Tryz.func127,Tryz.ntmps127
     go_wp2
     go_ret
     exact ⟨by simp,rfl⟩
   · go_enter Tryz.func127,Tryz.ntmps127
     go_wp2
     go_ret
     exact ⟨by simp,rfl⟩
theorem cmp_u32 (a b:Int) (w:World) :
 Calls Tryz.prog 128 #[.int .u32 a, .int .u32 b] w fun e w'=>e = .returned (.int .i64 (if a < b then -1 else if b < a then 1 else 0))∧w=w':=by
 by_cases h1:a < b
 · go_enter Tryz.func128,Tryz.ntmps128
   go_wp2
   go_ret
   exact ⟨by simp,rfl⟩
 · by_cases c:b < a
   · go_enter Tryz.func128,Tryz.ntmps128
     go_wp2
     go_ret
     exact ⟨by simp,rfl⟩
   · go_enter Tryz.func128,Tryz.ntmps128
     go_wp2
     go_ret
     exact ⟨by simp,rfl⟩
section
variable {P:Program} {w:World}
end
theorem nums_set (k:IntKind) (xs:List Nat) (j x:Nat):nums k (xs.set j x)=(nums k xs).set j (.int k (x:Int)):=by simp [nums,List.map_set]
theorem nums_get (k:IntKind) (xs:List Nat) (j:Nat) (u:Value) (h:(nums k xs)[j]? = some u):∃ x,xs[j]? = some x∧u = .int k (x:Int):=by
 simp only [nums,List.getElem?_map,Option.map_eq_some_iff] at h
 obtain ⟨x,a,rfl⟩:=h
 exact ⟨x,a,rfl⟩
theorem nums_one (k:IntKind) (xs:List Nat):∀ u ∈ nums k xs,u.oneCell'=true:=by
 intro u a
 simp only [nums,List.mem_map] at a
 obtain ⟨x,_,rfl⟩:=a
 rfl
def RetOwn (w:World) (a:List Nat) (e:Ending) (w':World):Prop :=
 ∃ A c,e = .returned (.slice A a.length c)∧w'.ownsRow w.heap.size 49 1 (.slice A a.length c) a.length (nums .u32 a)∧Below w.heap.size w w'
theorem Nums.sl {k:IntKind} {w:World} {A:Option Addr} {n c:Nat} {xs:List Nat} (h:Nums k w A n c xs):Sl w A n c (nums k xs):=h
theorem clone_nat (A:Option Addr) (n c:Nat) (xs:List Nat) (w:World) (h:Nums .u32 w A n c xs) (p:n≤1000000) :
 Calls Tryz.prog 209 #[.slice A n c] w (RetOwn w xs):=by
 have j:=h.len
 subst j
 have q:∀ (A:Option Addr) (n c:Nat) (w:World),(binOp .eql 31 (.slice A n c) (.slice none 0 0)).run Tryz.prog w = .ok (.bool A.isNone) w:=fun A n c w=>Lib.run_eql_slice_nil w _ _ _ _ _ _ _ Tryz.underlying31
 rcases A with _ | m
 · have h0:xs.length=0:=by
    rcases Nat.eq_zero_or_pos xs.length with h0 | h0
    · exact h0
    · obtain ⟨b,r,f,_⟩:=h.at_ h0
      cases f
   obtain rfl:=List.eq_nil_of_length_eq_zero h0
   go_enter Tryz.func209,Tryz.ntmps209
   go_wp2
   go_ret
   exact ⟨none,0,rfl,World.ownsRow_nil _ _ _ _,Below.refl _ _⟩
 · have d:=own_made w 49 0 [] rfl (by omega)
   have k:=h.sl.below ((Below.refl _ _).alloc (Nat.le_refl _) (.cells #[] 49))
   go_enter Tryz.func209,Tryz.ntmps209
   go_wp2_with (at_builtin;refine wpl_append rfl _ _ 31 rfl w.heap.size 49 (.int .u32 0) 4 Tryz.underlying31 Tryz.info34 rfl _ 0 0 [] rfl d _ xs.length c (nums .u32 xs) rfl k (nums_one _ _) (by omega) (by omega) (by simp) ?_;intro l o w' a g)
   go_ret
   simp only [Nat.zero_add,List.nil_append] at a
   exact ⟨_,_,rfl,a,below_append ((Below.refl _ _).alloc (Nat.le_refl _) _) g d (by simp)⟩
theorem cmpI_step (xs q:List Nat) (m:Lim xs) (n:Lim q) (k:Nat) :
 cmpI (val (xs.take (k+1))) (val (q.take (k+1))) =
  if xs.getD k 0 < q.getD k 0 then -1 else if q.getD k 0 < xs.getD k 0 then 1 else cmpI (val (xs.take k)) (val (q.take k)):=by
 have h1:=val_lt _ (m.take k)
 have c:=val_lt _ (n.take k)
 have d:(4294967296:Nat) ^ (xs.take k).length≤4294967296 ^ k:=Nat.pow_le_pow_right (by decide) (List.length_take_le _ _)
 have f:(4294967296:Nat) ^ (q.take k).length≤4294967296 ^ k:=Nat.pow_le_pow_right (by decide) (List.length_take_le _ _)
 rw [val_take_succ,val_take_succ]
 have o:=Nat.lt_of_lt_of_le h1 d
 have p:=Nat.lt_of_lt_of_le c f
 clear h1 c d f
 generalize val (xs.take k)=a at *
 generalize val (q.take k)=b at *
 generalize (4294967296:Nat) ^ k=B at *
 generalize xs.getD k 0=x at *
 generalize q.getD k 0=y at *
 by_cases l:x < y
 · rw [if_pos l]
   have:B * (x+1)≤B * y:=Nat.mul_le_mul_left _ (by omega)
   rw [Nat.mul_add] at this
   unfold cmpI
   rw [if_pos (by omega)]
 · rw [if_neg l]
   by_cases j:y < x
   · rw [if_pos j]
     have:B * (y+1)≤B * x:=Nat.mul_le_mul_left _ (by omega)
     rw [Nat.mul_add] at this
     unfold cmpI
     rw [if_neg (by omega),if_pos (by omega)]
   · rw [if_neg j]
     obtain rfl:x=y:=by omega
     unfold cmpI
     by_cases g:a < b
     · rw [if_pos g,if_pos (by omega)]
     · rw [if_neg g,if_neg (by omega)]
       by_cases h:b < a
       · rw [if_pos h,if_pos (by omega)]
       · rw [if_neg h,if_neg (by omega)]
theorem val_lt_of_len (xs g:List Nat) (b:Lim xs) (f:Lim g) (ty:Tight g) (h:xs.length < g.length):val xs < val g:=by
 have h1:=val_lt xs b
 rcases List.eq_nil_or_concat g with rfl | ⟨a,z,rfl⟩
 · simp at h
 · rw [List.concat_eq_append] at *
   have h0:=ty a z rfl
   simp at h
   have c:(4294967296:Nat) ^ xs.length≤4294967296 ^ a.length:=Nat.pow_le_pow_right (by decide) (by omega)
   have d:4294967296 ^ a.length * 1≤4294967296 ^ a.length * z:=Nat.mul_le_mul_left _ (by omega)
   rw [val_snoc]
   omega
theorem nat_cmp (u:Option Addr) (n c1:Nat) (xs:List Nat) (v:Option Addr) (m c2:Nat) (ys:List Nat) (w:World)
 (h1:Nums .u32 w u n c1 xs) (b:Nums .u32 w v m c2 ys) (p:Lim xs) (q:Lim ys) :
 Calls Tryz.prog 76 #[.slice u n c1, .slice v m c2] w (Quiet w (.int .i64 (cmpN xs ys))):=by
 have f:=h1.len
 have g:=b.len
 by_cases l:rightB xs=true
 case neg =>
  have M:rightB xs=false:=by simpa using l
  have a:cmpN xs ys=0:=by simp [cmpN,M]
  rw [a]
  clear a l f g
  go_enter Tryz.func76,Tryz.ntmps76
  go_wp2_with (first
   | (go_at_call 75;(with_reducible refine (nat_right _ _ _ _ _ h1).mono ?_);rintro e w' ⟨rfl,rfl⟩)
   | (go_at_call 75;(with_reducible refine (nat_right _ _ _ _ _ b).mono ?_);rintro e w' ⟨rfl,rfl⟩))
  go_ret
  exact ⟨rfl,Same.refl _⟩
 by_cases o:rightB ys=true
 case neg =>
  have N:rightB ys=false:=by simpa using o
  have a:cmpN xs ys=0:=by simp [cmpN,N]
  rw [a]
  clear a o f g
  go_enter Tryz.func76,Tryz.ntmps76
  go_wp2_with (first
   | (go_at_call 75;(with_reducible refine (nat_right _ _ _ _ _ h1).mono ?_);rintro e w' ⟨rfl,rfl⟩)
   | (go_at_call 75;(with_reducible refine (nat_right _ _ _ _ _ b).mono ?_);rintro e w' ⟨rfl,rfl⟩))
  go_ret
  exact ⟨rfl,Same.refl _⟩
 have Z:n≤32:=by simp [rightB] at l;omega
 have Y:m≤32:=by simp [rightB] at o;omega
 have c:cmpN xs ys=cmpI (val xs) (val ys):=by simp [cmpN,l,o]
 by_cases B:n < m
 · have h:=val_lt_of_len xs ys p q (tight_of_right ys o) (by omega)
   have a:cmpN xs ys=-1:=by rw [c];simp [cmpI,h]
   rw [a]
   have J:(n:Int) < m:=by omega
   clear a c h f g
   go_enter Tryz.func76,Tryz.ntmps76
   go_wp2_with (first
    | (go_at_call 75;(with_reducible refine (nat_right _ _ _ _ _ h1).mono ?_);rintro e w' ⟨rfl,rfl⟩)
    | (go_at_call 75;(with_reducible refine (nat_right _ _ _ _ _ b).mono ?_);rintro e w' ⟨rfl,rfl⟩)
    | (go_at_call 127;(with_reducible refine (cmp_int _ _ _).mono ?_);rintro e w' ⟨rfl,rfl⟩))
   go_ret
   exact ⟨rfl,Same.refl _⟩
 by_cases I:m < n
 · have h:=val_lt_of_len ys xs q p (tight_of_right xs l) (by omega)
   have a:cmpN xs ys=1:=by rw [c];simp [cmpI,h];omega
   rw [a]
   have J:¬ (n:Int) < m:=by omega
   have W:(m:Int) < n:=by omega
   clear a c h f g
   go_enter Tryz.func76,Tryz.ntmps76
   go_wp2_with (first
    | (go_at_call 75;(with_reducible refine (nat_right _ _ _ _ _ h1).mono ?_);rintro e w' ⟨rfl,rfl⟩)
    | (go_at_call 75;(with_reducible refine (nat_right _ _ _ _ _ b).mono ?_);rintro e w' ⟨rfl,rfl⟩)
    | (go_at_call 127;(with_reducible refine (cmp_int _ _ _).mono ?_);rintro e w' ⟨rfl,rfl⟩))
   go_ret
   exact ⟨rfl,Same.refl _⟩
 obtain rfl:n=m:=by omega
 have G:=LH f
 have H:=LH g
 have E:=LH c
 clear f g c B I
 go_enter Tryz.func76,Tryz.ntmps76
 go_wp2_with (first
  | (go_at_call 75;(with_reducible refine (nat_right _ _ _ _ _ h1).mono ?_);rintro e w' ⟨rfl,rfl⟩)
  | (go_at_call 75;(with_reducible refine (nat_right _ _ _ _ _ b).mono ?_);rintro e w' ⟨rfl,rfl⟩)
  | (go_at_call 127;(with_reducible refine (cmp_int _ _ _).mono ?_);rintro e w' ⟨rfl,rfl⟩))
 go_loopw [6] (fun i wr=>∃ k:Nat,k≤n∧i = .int .i64 ((k:Int) - 1)∧cmpN xs ys=cmpI (val (xs.take k)) (val (ys.take k))∧Same w wr) (fun i _=>(intOf i+1).toNat)
 case atStart=>exact ⟨n,Nat.le_refl _,rfl,by rw [E.out,List.take_of_length_le (by rw [G.out];omega),List.take_of_length_le (by rw [H.out];omega)],Same.refl _⟩
 case round =>
  obtain ⟨k,X,rfl,hrel,d⟩:=hrel
  have z:=LH hrel
  clear hrel
  by_cases B:0 < k
  · obtain ⟨O,o1,x,rfl,S,Hx,U⟩:=(h1.same d).get (j:=k - 1) (by omega)
    obtain ⟨R,o2,y,rfl,T,A,V⟩:=(b.same d).get (j:=k - 1) (by omega)
    have aa:=p.of_get Hx.out
    have ab:=q.of_get A.out
    have s:=cmpI_step xs ys p q (k - 1)
    rw [show k - 1+1=k from by omega,← z.out,getD_of_get Hx.out,getD_of_get A.out] at s
    have r:=LH s
    clear s
    have i0:(0:Int)≤(k:Int) - 1:=by omega
    have i1:(k:Int) - 1 < (n:Int):=by omega
    have i2:((k:Int) - 1).toNat=k - 1:=by omega
    by_cases t:x < y
    · have C:(x:Int) < (y:Int):=by omega
      go_wp2
      go_quiet ((go_at_call 128;exact quiet_left (cmp_u32 _ _ _)))
      go_wp2
      go_ret
      rw [r.out,if_pos t]
      exact ⟨rfl,d.drewN _⟩
    · by_cases D:y < x
      · have C:¬ (x:Int) < (y:Int):=by omega
        have L:(y:Int) < (x:Int):=by omega
        go_wp2
        go_quiet ((go_at_call 128;exact quiet_left (cmp_u32 _ _ _)))
        go_wp2
        go_ret
        rw [r.out,if_neg t,if_pos D]
        exact ⟨rfl,d.drewN _⟩
      · have C:¬ (x:Int) < (y:Int):=by omega
        have L:¬ (y:Int) < (x:Int):=by omega
        go_wp2
        go_quiet ((go_at_call 128;exact quiet_left (cmp_u32 _ _ _)))
        go_wp2
        go_roundw
        case rel=>exact ⟨k - 1,by omega,by go_num,by rw [r.out,if_neg t,if_neg D],d.drewN _⟩
        case measure=>simp [intOf];omega
  · obtain rfl:k=0:=by omega
    have a:cmpN xs ys=0:=by rw [z.out];simp [cmpI,val]
    have F:=LH a
    clear a
    go_wp2
    go_ret
    rw [F.out]
    exact ⟨rfl,d⟩
theorem buf_step2 (a xs:List Nat) (k s:Nat) (b:a.length=k) (c:k < xs.length):(a++xs.drop k).set k s=(a++[s])++xs.drop (k+1):=by
 subst b
 rw [List.set_append_right _ _ (Nat.le_refl _),Nat.sub_self,List.drop_eq_getElem_cons c,List.set_cons_zero]
 simp
theorem buf_get2 (a xs:List Nat) (k x:Nat) (b:a.length=k) (c:xs[k]? = some x):(a++xs.drop k)[k]? = some x:=by
 subst b
 rw [List.getElem?_append_right (Nat.le_refl _),Nat.sub_self,List.getElem?_drop,Nat.add_zero,c]
theorem bits_sub32_zero (x c:Nat) (w:World) (b:x < 4294967296) (a:c≤1) :
 Calls Tryz.prog 210 #[.int .u32 (x:Int), .int .u32 0, .int .u32 (c:Int)] w fun e w' =>
  e = .returned (.tuple #[.int .u32 (((4294967296+x - 0 - c) % 4294967296:Nat):Int), .int .u32 ((1 - (4294967296+x - 0 - c) / 4294967296:Nat):Int)])∧w=w' :=
 bits_sub32 x 0 c w b (by omega) a
def SubRel (w:World) (A:Option Addr) (n c:Nat) (xs a:List Nat) (b i:Value) (wr:World):Prop :=
 ∃ k:Nat,k≤n∧i = .int .i64 (k:Int)∧b = .int .u32 ((subP xs a k).2:Int) ∧
   wr.ownsRow w.heap.size 49 1 (.slice A n c) n (nums .u32 ((subP xs a k).1++xs.drop k))∧Below w.heap.size w wr
theorem nat_sub_ok (v:Option Addr) (n c1:Nat) (xs:List Nat) (z:Option Addr) (m c2:Nat) (ys:List Nat) (w:World)
 (h1:Nums .u32 w v n c1 xs) (d:Nums .u32 w z m c2 ys) (r:Lim xs) (s:Lim ys) (t:rightB xs=true) (N:rightB ys=true) (R:val ys≤val xs) (U:m≤n) :
 Calls Tryz.prog 181 #[.slice v n c1, .slice z m c2] w (RetNat w (subN xs ys)):=by
 obtain rfl:=h1.len
 obtain rfl:=d.len
 have ai:xs.length≤32:=by simp [rightB] at t;omega
 have ab:decide (cmpN xs ys < 0)=false:=by
  simp only [cmpN,t,N,Bool.and_self,if_true,cmpI]
  rw [if_neg (by omega)]
  split <;> simp
 have G:subN xs ys=(limbs (val xs - val ys),0):=by simp [subN,t,N];omega
 rw [G]
 clear G
 go_enter Tryz.func181,Tryz.ntmps181
 go_wp2_with (first
  | (go_at_call 75;(with_reducible refine (nat_right _ _ _ _ _ h1).mono ?_);rintro e w' ⟨rfl,rfl⟩)
  | (go_at_call 75;(with_reducible refine (nat_right _ _ _ _ _ d).mono ?_);rintro e w' ⟨rfl,rfl⟩)
  | (go_at_call 76;(with_reducible refine (nat_cmp _ _ _ _ _ _ _ _ _ h1 d r s).mono ?_);rintro e w1 ⟨rfl,b⟩)
  | (go_at_call 209;(with_reducible refine (clone_nat _ _ _ _ _ (h1.same b) (by omega)).mono ?_);rintro e Y ⟨A,c,rfl,a,q⟩))
 have I:=own_mono a (base':=w.heap.size) (by rw [b.size];exact Nat.le_refl _)
 have E:Below w.heap.size w Y:=(b.below _).trans (q.mono (by rw [b.size];exact Nat.le_refl _))
 clear a q b
 go_loopw [7,28] (SubRel w A xs.length c xs ys) (fun _ i _=>xs.length - (intOf i).toNat)
 case atStart=>exact ⟨0,Nat.zero_le _,rfl,rfl,I,E⟩
 case round =>
  clear I E
  obtain ⟨k,hk,rfl,rfl,a,f⟩:=hrel
  have F:=subP_borrow xs ys k
  have o:=LH (subP_len xs ys k)
  by_cases h:k < xs.length
  · obtain ⟨g,u,rfl,H,ag,O,ad,af⟩:=own_at a h
    obtain ⟨x,Hx⟩:∃ x,Hid (xs[k]? = some x):=⟨_,LH (List.getElem?_eq_getElem h)⟩
    have W:u = .int .u32 (x:Int):=by
     obtain ⟨x',l,rfl⟩:=nums_get _ _ _ _ O.out
     rw [buf_get2 _ _ _ _ o.out Hx.out] at l
     injection l with l
     rw [l]
    subst W
    have L:=r.of_get Hx.out
    by_cases S:k < ys.length
    · obtain ⟨b2,o2,y,rfl,q,p,ae⟩:=(d.below f).get (j:=k) S
      have X:=s.of_get p.out
      go_wp2_with (go_at_call 210;(with_reducible refine (bits_sub32 x y _ _ L X F).mono ?_);rintro e w' ⟨rfl,rfl⟩)
      go_roundw
      case rel =>
       refine ⟨k+1,by omega,by go_num,?_,?_,f.setCell H _⟩
       · simp only [subP,getD_of_get Hx.out,getD_of_get p.out]
       · have:=own_set a k (.int .u32 (((4294967296+x - y - (subP xs ys k).2) % 4294967296:Nat):Int))
         rw [← nums_set,buf_step2 _ xs k _ o.out h] at this
         simpa [subP,Hx.out,p.out] using this
      case measure=>simp [intOf];omega
    · have C:=LH (getD_of_ge (xs:=ys) (j:=k) (by omega))
      go_wp2_with (go_at_call 210;(with_reducible refine (bits_sub32_zero x _ _ L F).mono ?_);rintro e w' ⟨rfl,rfl⟩)
      go_roundw
      case rel =>
       refine ⟨k+1,by omega,by go_num,?_,?_,f.setCell H _⟩
       · simp only [subP,getD_of_get Hx.out,C.out,Nat.sub_zero]
       · have:=own_set a k (.int .u32 (((4294967296+x - 0 - (subP xs ys k).2) % 4294967296:Nat):Int))
         rw [← nums_set,buf_step2 _ xs k _ o.out h] at this
         have M:=C.out
         rw [List.getD_eq_getElem?_getD] at M
         simpa [subP,Hx.out,M] using this
      case measure=>simp [intOf];omega
  · obtain rfl:k=xs.length:=by omega
    rw [List.drop_length,List.append_nil] at a
    have V:Nums .u32 wr A xs.length c (subP xs ys xs.length).1:=own_sl a
    have J:=subP_eq xs ys r s xs.length (Nat.le_refl _) U R
    have T:=subP_lim xs ys xs.length
    have B:=LH (neatL_limbs _ T)
    rw [J] at B
    have Z:=LH (subP_len xs ys xs.length)
    clear J
    go_wp2_with (go_at_call 199;(with_reducible refine (nat_neat _ _ _ _ _ V).mono ?_);rintro e w' ⟨rfl,D,rfl⟩)
    go_ret2
    rw [B.out] at D ⊢
    exact ⟨_,_,rfl,D,f⟩
theorem nat_sub (f:Option Addr) (n c1:Nat) (xs:List Nat) (g:Option Addr) (m c2:Nat) (t:List Nat) (w:World)
 (h1:Nums .u32 w f n c1 xs) (b:Nums .u32 w g m c2 t) (h:Lim xs) (j:Lim t) :
 Calls Tryz.prog 181 #[.slice f n c1, .slice g m c2] w (RetNat w (subN xs t)):=by
 by_cases d:rightB xs=true
 case neg =>
  have q:rightB xs=false:=by simpa using d
  have a:subN xs t=([],1):=by simp [subN,q]
  rw [a]
  clear a d
  go_enter Tryz.func181,Tryz.ntmps181
  go_wp2_with (first
   | (go_at_call 75;(with_reducible refine (nat_right _ _ _ _ _ h1).mono ?_);rintro e w' ⟨rfl,rfl⟩)
   | (go_at_call 75;(with_reducible refine (nat_right _ _ _ _ _ b).mono ?_);rintro e w' ⟨rfl,rfl⟩))
  go_ret2
  exact ⟨none,0,rfl,Nums.nil _ _ _ _ (by simp),Below.refl _ _⟩
 by_cases c:rightB t=true
 case neg =>
  have r:rightB t=false:=by simpa using c
  have a:subN xs t=([],1):=by simp [subN,r]
  rw [a]
  clear a c
  go_enter Tryz.func181,Tryz.ntmps181
  go_wp2_with (first
   | (go_at_call 75;(with_reducible refine (nat_right _ _ _ _ _ h1).mono ?_);rintro e w' ⟨rfl,rfl⟩)
   | (go_at_call 75;(with_reducible refine (nat_right _ _ _ _ _ b).mono ?_);rintro e w' ⟨rfl,rfl⟩))
  go_ret2
  exact ⟨none,0,rfl,Nums.nil _ _ _ _ (by simp),Below.refl _ _⟩
 by_cases k:val t≤val xs
 · refine nat_sub_ok f n c1 xs g m c2 t w h1 b h j d c k ?_
   rcases Nat.lt_or_ge n m with o | l
   · have:=val_lt_of_len xs t h j (tight_of_right t c) (by rw [h1.len,b.len];exact o)
     omega
   · exact l
 · have s:decide (cmpN xs t < 0)=true:=by
    simp only [cmpN,d,c,Bool.and_self,if_true,cmpI]
    rw [if_pos (by omega)]
    simp
   have a:subN xs t=([],11):=by simp [subN,d,c];omega
   rw [a]
   clear a
   go_enter Tryz.func181,Tryz.ntmps181
   go_wp2_with (first
    | (go_at_call 75;(with_reducible refine (nat_right _ _ _ _ _ h1).mono ?_);rintro e w' ⟨rfl,rfl⟩)
    | (go_at_call 75;(with_reducible refine (nat_right _ _ _ _ _ b).mono ?_);rintro e w' ⟨rfl,rfl⟩)
    | (go_at_call 76;(with_reducible refine (nat_cmp _ _ _ _ _ _ _ _ _ h1 b h j).mono ?_);rintro e w1 ⟨rfl,p⟩))
   go_ret2
   exact ⟨none,0,rfl,Nums.nil _ _ _ _ (by simp),p.below _⟩
theorem bitLen_lib:∀ (f x:Nat),x < 2 ^ f→Lib.bitLenAux f x=bitLen x:=by
 intro f
 induction f with
 | zero=>intro x h;simp at h;subst h;rfl
 | succ f b =>
   intro x h
   unfold Lib.bitLenAux
   by_cases h0:x=0
   · subst h0;rfl
   · rw [if_neg h0,b (x / 2) (by rw [Nat.pow_succ] at h;omega)]
     by_cases h1:x / 2=0
     · have a:x=1:=by omega
       subst a
       rfl
     · have:=Go.bitLen_shift x 1 (by simpa using h1)
       exact this.symm
theorem bitLen_lib64 (x:Nat) (h:x < 4294967296):Lib.bitLen x=bitLen x:=bitLen_lib 64 x (by omega)
theorem bitLen_top (b:List Nat) (z:Nat) (l:Lim b) (f:z ≠ 0):bitLen (val (b++[z]))=32 * b.length+bitLen z:=by
 have c:=val_lt b l
 rw [val_snoc]
 have j:(4294967296:Nat) ^ b.length=2 ^ (32 * b.length):=by rw [Nat.pow_mul]
 rw [j] at c ⊢
 generalize val b=a at *
 generalize 32 * b.length=k at *
 have h0:0 < 2 ^ k:=Nat.two_pow_pos k
 have n:2 ^ k * 1≤2 ^ k * z:=Nat.mul_le_mul_left _ (by omega)
 unfold bitLen
 rw [if_neg (by omega),if_neg f]
 have e:(a+2 ^ k * z) / 2 ^ k=z:=by
  rw [Nat.add_mul_div_left _ _ h0,Nat.div_eq_of_lt c,Nat.zero_add]
 have h1:2 ^ (z.log2+k)≤a+2 ^ k * z:=by
  have:=Nat.log2_self_le f
  rw [Nat.pow_add,Nat.mul_comm]
  have:=Nat.mul_le_mul_left (2 ^ k) this
  omega
 have g:a+2 ^ k * z < 2 ^ (z.log2+k+1):=by
  have m:z < 2 ^ (z.log2+1):=Nat.lt_log2_self
  have h:2 ^ k * (z+1)≤2 ^ k * 2 ^ (z.log2+1):=Nat.mul_le_mul_left _ (by omega)
  rw [← Nat.pow_add,Nat.mul_add] at h
  rw [show z.log2+k+1=k+(z.log2+1) from by omega]
  omega
 have:(a+2 ^ k * z).log2=z.log2+k:=by
  have d:a+2 ^ k * z ≠ 0:=by omega
  apply Nat.le_antisymm
  · have:=(Nat.log2_lt d).2 g
    omega
  · exact (Nat.le_log2 d).2 h1
 omega
theorem nat_bits (f:Option Addr) (n c1:Nat) (xs:List Nat) (w:World) (h1:Nums .u32 w f n c1 xs) (l:Lim xs) :
 Calls Tryz.prog 211 #[.slice f n c1] w fun e w'=>e = .returned (.int .i64 (bitsN xs:Int))∧w=w':=by
 obtain rfl:=h1.len
 by_cases c:rightB xs=true
 case neg =>
  have s:rightB xs=false:=by simpa using c
  have b:bitsN xs=0:=by simp [bitsN,s]
  rw [b]
  clear b c
  go_enter Tryz.func211,Tryz.ntmps211
  go_wp2_with (go_at_call 75;(with_reducible refine (nat_right _ _ _ _ _ h1).mono ?_);rintro e w' ⟨rfl,rfl⟩)
  go_ret
  exact ⟨rfl,rfl⟩
 rcases List.eq_nil_or_concat xs with rfl | ⟨a,z,rfl⟩
 · have b:bitsN []=0:=by decide
   rw [b]
   clear b
   simp only [List.length_nil] at h1 ⊢
   go_enter Tryz.func211,Tryz.ntmps211
   go_wp2_with (go_at_call 75;(with_reducible refine (nat_right _ _ _ _ _ h1).mono ?_);rintro e w' ⟨rfl,rfl⟩)
   go_ret
   exact ⟨rfl,rfl⟩
 · rw [List.concat_eq_append] at *
   have r:=tight_of_right _ c a z rfl
   have d:z < 4294967296:=l z (by simp)
   have o:Lim a:=fun y q=>l y (by simp [q])
   have b:bitsN (a++[z])=32 * a.length+bitLen z:=by simp only [bitsN,c,if_true];exact bitLen_top a z o r
   have m:=LH b
   clear b
   have h:(a++[z]).length=a.length+1:=by simp
   obtain ⟨t,C,x,rfl,u,Hx,A⟩:=h1.get (j:=a.length) (by omega)
   have p:x=z:=by have:=Hx.out;simp at this;omega
   subst p
   have B:a.length+1≤32:=by simp [rightB] at c;omega
   rw [h] at h1 ⊢
   have v:bitLen x≤32:=by
    rw [← bitLen_lib64 x d]
    exact Lib.bitLenAux_le 64 x 32 d
   have k:=bitLen_lib64 x d
   have g:=LH k
   clear k h
   go_enter Tryz.func211,Tryz.ntmps211
   go_wp2_with (first
    | (go_at_call 75;(with_reducible refine (nat_right _ _ _ _ _ h1).mono ?_);rintro e w' ⟨rfl,rfl⟩)
    | (go_at_call 233;(with_reducible refine (bits_len32 _ _ (by omega) (by omega)).mono ?_);rintro e w' ⟨rfl,rfl⟩))
   go_ret
   rw [m.out]
   exact ⟨ret_num (by rw [wrap64_small _ (by omega) (by have:=g.out;omega),g.out];omega),rfl⟩
theorem fitN_ok {n:Nat} (h:n < big):fitN n=(limbs n,0):=by simp [fitN,h]
def twP (xs:List Nat) (bit:Nat):Nat→List Nat × Nat
 | 0=>([],bit)
 | k+1 =>
   let p:=twP xs bit k
   let s:=2 * xs.getD k 0+p.2
   (p.1++[s % 4294967296],s / 4294967296)
theorem twP_len (xs:List Nat) (b k:Nat):(twP xs b k).1.length=k:=by
 induction k with
 | zero=>rfl
 | succ k a=>simp [twP,a]
theorem twP_lim (xs:List Nat) (b k:Nat):Lim (twP xs b k).1:=by
 induction k with
 | zero=>exact Lim.nil
 | succ k a=>exact a.append (Lim.mk (Nat.mod_lt _ (by decide)) Lim.nil)
theorem twP_carry (xs:List Nat) (b:Nat) (a:b≤1) (c:Lim xs) (k:Nat):(twP xs b k).2≤1:=by
 induction k with
 | zero=>simpa [twP] using a
 | succ k d =>
   have:=c.getD k
   simp only [twP]
   omega
theorem twP_val (xs:List Nat) (b k:Nat):val (twP xs b k).1+4294967296 ^ k * (twP xs b k).2=2 * val (xs.take k)+b:=by
 induction k with
 | zero=>simp [twP,val]
 | succ k d =>
   rw [val_take_succ]
   simp only [twP]
   rw [val_snoc,twP_len,Nat.pow_succ]
   generalize (twP xs b k).1=f at *
   generalize (twP xs b k).2=c at *
   generalize xs.getD k 0=x at *
   generalize (4294967296:Nat) ^ k=B at *
   have e:4294967296 * ((2 * x+c) / 4294967296)+(2 * x+c) % 4294967296=2 * x+c:=Nat.div_add_mod _ _
   have:B * ((2 * x+c) % 4294967296)+B * 4294967296 * ((2 * x+c) / 4294967296)=B * (2 * x)+B * c:=by
    rw [Nat.mul_assoc,← Nat.mul_add,Nat.add_comm,e,Nat.mul_add]
   have a:B * (2 * x)=2 * (B * x):=by rw [← Nat.mul_assoc,Nat.mul_comm B 2,Nat.mul_assoc]
   rw [Nat.mul_add]
   omega
theorem twP_all (xs:List Nat) (b:Nat):val ((twP xs b xs.length).1++[(twP xs b xs.length).2])=2 * val xs+b:=by
 rw [val_snoc,twP_len,twP_val,List.take_length]
theorem limb_of (xs:List Nat) (a:Lim xs) (j:Nat):xs.getD j 0=val xs / 4294967296 ^ j % 4294967296:=by
 by_cases h:j < xs.length
 · have h1:=val_split xs j (by omega)
   have b:val (xs.take j) < 4294967296 ^ j:=by
    have:=val_lt _ (a.take j)
    rwa [List.length_take,Nat.min_eq_left (by omega)] at this
   rw [h1,Nat.add_mul_div_left _ _ (Nat.pow_pos (by decide)),Nat.div_eq_of_lt b,Nat.zero_add,List.drop_eq_getElem_cons h]
   simp only [val]
   have:=a _ (List.getElem_mem h)
   rw [Nat.add_mul_mod_self_left,Nat.mod_eq_of_lt this]
   simp [List.getElem?_eq_getElem h]
 · have h1:xs.getD j 0=0:=by simp [List.getElem?_eq_none (show xs.length≤j by omega)]
   have b:=val_lt _ a
   have c:(4294967296:Nat) ^ xs.length≤4294967296 ^ j:=Nat.pow_le_pow_right (by decide) (by omega)
   rw [h1,Nat.div_eq_of_lt (by omega)]
theorem bit_of (xs:List Nat) (c:Lim xs) (i:Nat):xs.getD (i / 32) 0 / 2 ^ (i % 32) % 2=val xs / 2 ^ i % 2:=by
 rw [limb_of xs c,show (4294967296:Nat) ^ (i / 32)=2 ^ (32 * (i / 32)) from by rw [Nat.pow_mul]]
 have hi:i=32 * (i / 32)+i % 32:=by omega
 have b:i % 32 < 32:=Nat.mod_lt _ (by decide)
 generalize i / 32=j at *
 generalize i % 32=r at *
 subst hi
 rw [Nat.pow_add,← Nat.div_div_eq_div_mul]
 generalize val xs / 2 ^ (32 * j)=v
 have h1:=Nat.testBit_mod_two_pow v 32 r
 rw [Nat.testBit_eq_decide_div_mod_eq,Nat.testBit_eq_decide_div_mod_eq] at h1
 simp only [b,decide_true,Bool.true_and,decide_eq_decide] at h1
 have a:(2:Nat) ^ 32=4294967296:=by decide
 rw [a] at h1
 have d:=Nat.mod_lt (v % 4294967296 / 2 ^ r) (show 0 < 2 by decide)
 have f:=Nat.mod_lt (v / 2 ^ r) (show 0 < 2 by decide)
 omega
theorem quo_step (a b i:Nat) (d:0 < b) :
 let r:=a / 2 ^ (i+1) % b
 let c:=2 * r+a / 2 ^ i % 2
 (b≤c→a / 2 ^ i % b=c - b∧a / 2 ^ i / b=2 * (a / 2 ^ (i+1) / b)+1) ∧
 (c < b→a / 2 ^ i % b=c∧a / 2 ^ i / b=2 * (a / 2 ^ (i+1) / b)):=by
 intro r c
 have h:a / 2 ^ (i+1)=a / 2 ^ i / 2:=by rw [Nat.pow_succ,Nat.div_div_eq_div_mul]
 have p:r < b:=Nat.mod_lt _ d
 have j:a / 2 ^ i=2 * (a / 2 ^ (i+1))+a / 2 ^ i % 2:=by rw [h];omega
 have k:a / 2 ^ (i+1)=b * (a / 2 ^ (i+1) / b)+r:=(Nat.div_add_mod _ _).symm
 have n:a / 2 ^ i % 2 < 2:=Nat.mod_lt _ (by decide)
 have m:c=2 * r+a / 2 ^ i % 2:=rfl
 generalize a / 2 ^ (i+1) / b=q at *
 clear_value r c
 have f:a / 2 ^ i=b * (2 * q)+c:=by
  rw [j,k,Nat.mul_add,m,← Nat.mul_assoc,Nat.mul_comm 2 b,Nat.mul_assoc]
  omega
 constructor
 · intro o
   have l:a / 2 ^ i=b * (2 * q+1)+(c - b):=by rw [f,Nat.mul_add,Nat.mul_one];omega
   rw [l]
   constructor
   · rw [Nat.mul_add_mod,Nat.mod_eq_of_lt (by omega)]
   · rw [Nat.mul_add_div d,Nat.div_eq_of_lt (by omega),Nat.add_zero]
 · intro g
   rw [f]
   constructor
   · rw [Nat.mul_add_mod,Nat.mod_eq_of_lt g]
   · rw [Nat.mul_add_div d,Nat.div_eq_of_lt g,Nat.add_zero]
theorem val_set (a:List Nat) (j t:Nat) (b:j < a.length):val (a.set j (a.getD j 0+t))=val a+4294967296 ^ j * t:=by
 induction a generalizing j with
 | nil=>simp at b
 | cons q a c =>
   cases j with
   | zero=>simp [val];omega
   | succ j =>
     have:=c j (by simpa using b)
     simp only [List.set_cons_succ,List.getD_cons_succ,val,this,Nat.pow_succ,Nat.mul_add]
     rw [← Nat.mul_assoc,Nat.mul_comm 4294967296 (4294967296 ^ j)]
     omega
theorem set_bit (a:List Nat) (f:Lim a) (i:Nat) (hi:i / 32 < a.length) (q:Nat) (l:val a=q * 2 ^ (i+1)) :
 a.getD (i / 32) 0 ||| 2 ^ (i % 32)=a.getD (i / 32) 0+2 ^ (i % 32)∧a.getD (i / 32) 0+2 ^ (i % 32) < 4294967296 ∧
 val (a.set (i / 32) (a.getD (i / 32) 0+2 ^ (i % 32)))=val a+2 ^ i:=by
 have t:=f.getD (i / 32)
 have d:=bit_of a f i
 have n:val a / 2 ^ i % 2=0:=by
  rw [l,Nat.pow_succ,← Nat.mul_assoc,Nat.mul_comm q,Nat.mul_assoc,Nat.mul_div_cancel_left _ (Nat.two_pow_pos i)]
  omega
 rw [n] at d
 have v:i % 32 < 32:=Nat.mod_lt _ (by decide)
 have h:2 ^ i=4294967296 ^ (i / 32) * 2 ^ (i % 32):=by
  rw [show (4294967296:Nat) ^ (i / 32)=2 ^ (32 * (i / 32)) from by rw [Nat.pow_mul],← Nat.pow_add,show 32 * (i / 32)+i % 32=i from by omega]
 refine ⟨?_,?_,by rw [val_set a _ _ hi,h]⟩
 all_goals
  generalize a.getD (i / 32) 0=x at *
  generalize i % 32=r at *
  have s:(2:Nat) ^ (r+1)=2 * 2 ^ r:=by rw [Nat.pow_succ,Nat.mul_comm]
  have j:x % 2 ^ (r+1) < 2 ^ r:=by
   rw [Nat.mod_pow_succ,d,Nat.mul_zero,Nat.add_zero]
   exact Nat.mod_lt _ (Nat.two_pow_pos r)
  have m:2 ^ (r+1) * (x / 2 ^ (r+1))+x % 2 ^ (r+1)=x:=Nat.div_add_mod _ _
  have u:=Nat.two_pow_pos r
 · have c:(2 ^ (r+1) * (x / 2 ^ (r+1))) % 2 ^ (r+1)=0:=Nat.mul_mod_right _ _
   have b:=nat_join (r+1) (2 ^ (r+1) * (x / 2 ^ (r+1))) (x % 2 ^ (r+1)) c (by omega)
   have o:=nat_join r (2 ^ r) (x % 2 ^ (r+1)) (Nat.mod_self _) j
   have p:=nat_join (r+1) (2 ^ (r+1) * (x / 2 ^ (r+1))) (2 ^ r+x % 2 ^ (r+1)) c (by omega)
   rw [m] at b
   rw [← b,Nat.or_assoc,Nat.or_comm (x % 2 ^ (r+1)),o,p,b]
   omega
 · have e:(4294967296:Nat)=2 ^ (r+1) * 2 ^ (31 - r):=by
    rw [← Nat.pow_add,show r+1+(31 - r)=32 from by omega]
   have k:2 ^ (r+1) * (x / 2 ^ (r+1)) < 2 ^ (r+1) * 2 ^ (31 - r):=by rw [← e];omega
   have h1:x / 2 ^ (r+1) < 2 ^ (31 - r):=Nat.lt_of_mul_lt_mul_left k
   have g:2 ^ (r+1) * (x / 2 ^ (r+1)+1)≤2 ^ (r+1) * 2 ^ (31 - r):=Nat.mul_le_mul_left _ h1
   rw [← e,Nat.mul_add,Nat.mul_one] at g
   omega
theorem run_make_cap {P:Program} (t e:TypeId) (k:IntKind) (bytes:Nat) (g:P.underlying t=some (.slice e))
 (hi:(P.info? e).map (fun i=>(i.zero,i.size,i.bytes))=some (some (.int k 0),1,bytes)) (n:Nat) (l:bytes * n≤281474976710656) (m:n≤9223372036854775807) (w:World) :
 (Instr.makeSlice t (.int .i64 0) (.int .i64 (n:Int))).run P w = .ok (.slice (some ⟨w.heap.size,0,none⟩) 0 n) (w.alloc (.cells (nums k (List.replicate n 0)).toArray e)):=by
 obtain ⟨i,d,j,f,c⟩:=info_parts hi
 have b:(i.bytes:Int) * (n:Int)≤281474976710656:=by
  rw [c]
  have h:((bytes * n:Nat):Int)≤281474976710656:=by omega
  rwa [Int.natCast_mul] at h
 have a:=run_make (P:=P) w t e i (.int k 0) g d j .i64 .i64 0 n (by omega) (by omega) b (by omega)
 simp only [Int.toNat_natCast] at a
 have h0:Int.toNat 0=0:=rfl
 rw [a,f,Nat.mul_one,h0]
 simp only [Value.cells,made_nums]
theorem own_cap (w:World) (e:TypeId) (k:IntKind) (n:Nat) (a:List Nat) (c:a.length=n) (b:n≤9223372036854775807) :
 (w.alloc (.cells (nums k a).toArray e)).ownsRow w.heap.size e 1 (.slice (some ⟨w.heap.size,0,none⟩) 0 n) 0 [] :=
 World.ownsRow_made w _ n (Nat.le_refl _) (by simpa [maxLen] using b) (by simp [nums,c])
theorem own_fresh {w:World} {base e:Nat} {A:Option Addr} {n c:Nat} {xs:List Value} (h:w.ownsRow base e 1 (.slice A n c) n xs) (b f:Nat) (a:A=some ⟨b,f,none⟩):base≤b:=by
 rcases h.2 with ⟨d,rfl⟩ | ⟨g,cap,j,d,k,o,p,l,m,q⟩
 · simp at d
   rw [d.1] at a;cases a
 · injection d with h1 h2 h3
   rw [h1] at a
   injection a with a
   injection a with a
   omega
theorem nums_far {k:IntKind} {w:World} {A:Option Addr} {n c:Nat} {xs:List Nat} (h:Nums k w A n c xs) {B:Nat} (g:∀ b a,A=some ⟨b,a,none⟩→B < b) (i:Nat) (u:Value) :
 Nums k (w.setCell ⟨B,i,none⟩ u) A n c xs:=by
 refine ⟨h.1,h.2.1,h.2.2.1,fun m=>?_⟩
 obtain ⟨b,a,e,d,f⟩:=h.2.2.2 m
 have:=g b a e
 refine ⟨b,a,e,by simpa using d,fun j l=>?_⟩
 rw [World.cell?_setCell_other _ _ _ _ (by intro h;simp only [Addr.mk.injEq] at h;omega)]
 exact f j l
def TwRel (w:World) (xs:List Nat) (bit:Nat) (b o i:Value) (wr:World):Prop :=
 ∃ (k:Nat) (A:Option Addr) (a:Nat),k≤xs.length∧i = .int .i64 (k:Int)∧b = .int .u32 ((twP xs bit k).2:Int)∧o = .slice A k a ∧
   wr.ownsRow w.heap.size 49 1 (.slice A k a) k (nums .u32 (twP xs bit k).1)∧Below w.heap.size w wr
theorem shl_or (x c:Nat) (b:x < 4294967296) (a:c≤1):bits .or .u32 ((x:Int) * 2 % 4294967296) (c:Int)=(((2 * x+c) % 4294967296:Nat):Int):=by
 have e:(x:Int) * 2 % 4294967296=((2 * x % 4294967296:Nat):Int):=by omega
 rw [e,u32_or_nat _ _ (by omega) (by omega),nat_join 1 _ _ (by omega) (by omega)]
 congr 1
 omega
@[irreducible] def RetNew (w:World) (a:List Nat) (e:Ending) (w':World):Prop :=
  ∃ A c,e = .returned (.slice A a.length c)∧Nums .u32 w' A a.length c a∧Below w.heap.size w w'∧(∀ b d,A=some ⟨b,d,none⟩→w.heap.size≤b)
theorem nat_twice (h:Option Addr) (n c1:Nat) (xs:List Nat) (bit:Nat) (w:World) (h1:Nums .u32 w h n c1 xs) (q:Lim xs) (t:bit≤1) (L:n≤1000) :
 Calls Tryz.prog 212 #[.slice h n c1, .int .u32 (bit:Int)] w (RetNew w (limbs (2 * val xs+bit))):=by
 obtain rfl:=h1.len
 have p:=run_make_cap (P:=Tryz.prog) 31 49 .u32 4 Tryz.underlying31 Tryz.info34 (xs.length+1) (by omega) (by omega)
 have B:∀ w:World,(Instr.makeSlice 31 (.int .i64 0) (.int .i64 ((xs.length:Int)+1))).run Tryz.prog w = .ok (.slice (some ⟨w.heap.size,0,none⟩) 0 (xs.length+1)) (w.alloc (.cells (nums .u32 (List.replicate (xs.length+1) 0)).toArray 49)):=p
 clear p
 go_enter Tryz.func212,Tryz.ntmps212
 go_wp2
 go_loopw [1,5,14] (TwRel w xs bit) (fun _ _ i _=>xs.length - (intOf i).toNat)
 case atStart=>exact ⟨0,_,_,Nat.zero_le _,rfl,rfl,rfl,own_cap w _ .u32 (xs.length+1) _ (by simp) (by omega),(Below.refl _ _).alloc (Nat.le_refl _) _⟩
 case round =>
  clear B
  obtain ⟨k,A,G,J,rfl,rfl,rfl,c,b⟩:=hrel
  have u:=twP_carry xs bit t q k
  have o:=b.size
  by_cases z:k < xs.length
  · obtain ⟨F,N,x,rfl,H,Hx,I⟩:=(h1.below b).get (j:=k) z
    have D:=q.of_get Hx.out
    have M:=shl_or x (twP xs bit k).2 D u
    go_wp2_with (at_builtin;refine wpl_append1 (w:=wr) rfl _ _ 31 rfl w.heap.size 49 (.int .u32 0) 4 Tryz.underlying31 Tryz.info34 rfl _ k _ _ rfl c _ rfl rfl (by omega) (by omega) (by omega) ?_;intro d f r a g)
    go_roundw
    case rel =>
     refine ⟨k+1,d,f,by omega,by go_num,?_,rfl,?_,below_append b g c o⟩
     · have e:x / 2147483648=(2 * x+(twP xs bit k).2) / 4294967296:=by omega
       simp only [twP,getD_of_get Hx.out]
       rw [← e]
       go_num
     · have e:=nums_snoc .u32 (twP xs bit k).1 ((2 * x+(twP xs bit k).2) % 4294967296)
       simp only [twP,getD_of_get Hx.out]
       rw [e]
       simpa using a
    case measure=>simp [intOf];omega
  · obtain rfl:k=xs.length:=by omega
    have y:Lim ((twP xs bit xs.length).1++[(twP xs bit xs.length).2]):=(twP_lim xs bit xs.length).append (Lim.mk (by omega) Lim.nil)
    have l:=LH (neatL_limbs _ y)
    rw [twP_all] at l
    have E:=LH (twP_len xs bit xs.length)
    have s:=LH (nums_snoc .u32 (twP xs bit xs.length).1 (twP xs bit xs.length).2)
    go_wp2_with (first
     | (at_builtin;refine wpl_append1 (w:=wr) rfl _ _ 31 rfl w.heap.size 49 (.int .u32 0) 4 Tryz.underlying31 Tryz.info34 rfl _ xs.length _ _ rfl c _ rfl rfl (by omega) (by omega) (by omega) ?_;intro d f r a g;rw [← s.out] at a)
     | (go_at_call 199;have C:Nums .u32 r d (xs.length+1) f ((twP xs bit xs.length).1++[(twP xs bit xs.length).2]):=own_sl a;(with_reducible refine (nat_neat _ _ _ _ _ C).mono ?_);rintro e w' ⟨rfl,m,rfl⟩))
    have v:=own_fresh a
    go_ret
    rw [l.out] at m ⊢
    unfold RetNew
    exact ⟨_,_,rfl,m,below_append b g c o,v⟩
@[irreducible] def RetTake (w:World) (xs d:List Nat) (e:Ending) (w':World):Prop :=
  ∃ (A:Option Addr) (c:Nat),e = .returned (.tuple #[.slice A (neatL (subP xs d xs.length).1).length c, .bool (decide ((subP xs d xs.length).2=0∧d.length≤xs.length))]) ∧
    Nums .u32 w' A (neatL (subP xs d xs.length).1).length c (neatL (subP xs d xs.length).1)∧Below w.heap.size w w'∧(∀ b a,A=some ⟨b,a,none⟩→w.heap.size≤b)
theorem nat_take (q:Option Addr) (n c1:Nat) (xs:List Nat) (r:Option Addr) (m c2:Nat) (ys:List Nat) (w:World)
 (h1:Nums .u32 w q n c1 xs) (z:Nums .u32 w r m c2 ys) (U:Lim xs) (V:Lim ys) (hn:n≤1000) :
 Calls Tryz.prog 213 #[.slice q n c1, .slice r m c2] w (RetTake w xs ys):=by
 obtain rfl:=h1.len
 obtain rfl:=z.len
 go_enter Tryz.func213,Tryz.ntmps213
 go_wp2_with (go_at_call 209;(with_reducible refine (clone_nat _ _ _ _ _ h1 (by omega)).mono ?_);rintro e w2 ⟨A,c,rfl,F,B⟩)
 go_loopw [7,14] (SubRel w A xs.length c xs ys) (fun _ i _=>xs.length - (intOf i).toNat)
 case atStart=>exact ⟨0,Nat.zero_le _,rfl,rfl,F,B⟩
 case round =>
  clear F B
  obtain ⟨k,hk,rfl,rfl,d,b⟩:=hrel
  have C:=subP_borrow xs ys k
  have l:=LH (subP_len xs ys k)
  by_cases f:k < xs.length
  · obtain ⟨g,u,rfl,D,ae,J,aa,ad⟩:=own_at d f
    obtain ⟨x,Hx⟩:∃ x,Hid (xs[k]? = some x):=⟨_,LH (List.getElem?_eq_getElem f)⟩
    have R:u = .int .u32 (x:Int):=by
     obtain ⟨x',h,rfl⟩:=nums_get _ _ _ _ J.out
     rw [buf_get2 _ _ _ _ l.out Hx.out] at h
     injection h with h
     rw [h]
    subst R
    have G:=U.of_get Hx.out
    by_cases O:k < ys.length
    · obtain ⟨X,o2,y,rfl,Z,o,ab⟩:=(z.below b).get (j:=k) O
      have T:=V.of_get o.out
      go_wp2_with (go_at_call 210;(with_reducible refine (bits_sub32 x y _ _ G T C).mono ?_);rintro e w' ⟨rfl,rfl⟩)
      go_roundw
      case rel =>
       refine ⟨k+1,by omega,by go_num,?_,?_,b.setCell D _⟩
       · simp only [subP,getD_of_get Hx.out,getD_of_get o.out]
       · have:=own_set d k (.int .u32 (((4294967296+x - y - (subP xs ys k).2) % 4294967296:Nat):Int))
         rw [← nums_set,buf_step2 _ xs k _ l.out f] at this
         simpa [subP,Hx.out,o.out] using this
      case measure=>simp [intOf];omega
    · have s:=LH (getD_of_ge (xs:=ys) (j:=k) (by omega))
      go_wp2_with (go_at_call 210;(with_reducible refine (bits_sub32_zero x _ _ G C).mono ?_);rintro e w' ⟨rfl,rfl⟩)
      go_roundw
      case rel =>
       refine ⟨k+1,by omega,by go_num,?_,?_,b.setCell D _⟩
       · simp only [subP,getD_of_get Hx.out,s.out,Nat.sub_zero]
       · have:=own_set d k (.int .u32 (((4294967296+x - 0 - (subP xs ys k).2) % 4294967296:Nat):Int))
         rw [← nums_set,buf_step2 _ xs k _ l.out f] at this
         have I:=s.out
         rw [List.getD_eq_getElem?_getD] at I
         simpa [subP,Hx.out,I] using this
      case measure=>simp [intOf];omega
  · obtain rfl:k=xs.length:=by omega
    rw [List.drop_length,List.append_nil] at d
    have p:Nums .u32 wr A xs.length c (subP xs ys xs.length).1:=own_sl d
    have N:=own_fresh d
    have H:∀ v:Bool,v=decide ((subP xs ys xs.length).2=0∧ys.length≤xs.length) →
     ∀ w',Nums .u32 w' A (neatL (subP xs ys xs.length).1).length (neatL (subP xs ys xs.length).1).length (neatL (subP xs ys xs.length).1)→Below w.heap.size w w' →
     RetTake w xs ys (.returned (.tuple #[.slice A (neatL (subP xs ys xs.length).1).length (neatL (subP xs ys xs.length).1).length, .bool v])) w':=by
     intro v S w' a L
     subst S
     unfold RetTake
     exact ⟨_,_,rfl,a,L,N⟩
    have W:=LH (subP_len xs ys xs.length)
    generalize M:(subP xs ys xs.length).2=t at *
    clear M
    by_cases h0:t=0
    · subst h0
      by_cases E:ys.length≤xs.length
      · have hd:decide ((xs.length:Int) ≥ (ys.length:Int))=true:=by simp;omega
        go_wp2_with (go_at_call 199;(with_reducible refine (nat_neat _ _ _ _ _ p).mono ?_);rintro e w' ⟨rfl,a,rfl⟩)
        go_ret2
        exact H _ (by simp [E]) _ a b
      · have hd:decide ((xs.length:Int) ≥ (ys.length:Int))=false:=by simp;omega
        go_wp2_with (go_at_call 199;(with_reducible refine (nat_neat _ _ _ _ _ p).mono ?_);rintro e w' ⟨rfl,a,rfl⟩)
        go_ret2
        exact H _ (by simp [E]) _ a b
    · have Y:((t:Int) == 0)=false:=by simp [h0]
      go_wp2_with (go_at_call 199;(with_reducible refine (nat_neat _ _ _ _ _ p).mono ?_);rintro e w' ⟨rfl,a,rfl⟩)
      go_ret2
      exact H _ (by simp [h0]) _ a b
theorem zz_lim (n:Nat):Lim (List.replicate n 0):=fun x a=>by
 have:=List.eq_of_mem_replicate a
 omega
theorem zz_val (n:Nat):val (List.replicate n 0)=0:=by
 induction n with
 | zero=>rfl
 | succ n a=>simp [List.replicate_succ,val,a]
theorem bitLen_lt (v:Nat):v < 2 ^ bitLen v:=by
 unfold bitLen
 split
 · omega
 · exact Nat.lt_log2_self
theorem bitLen_le (v k:Nat) (a:k < bitLen v):2 ^ k≤v:=by
 unfold bitLen at a
 split at a
 · omega
 · rename_i h
   exact Nat.le_trans (Nat.pow_le_pow_right (by decide) (by omega)) (Nat.log2_self_le h)
theorem bit_in (xs:List Nat) (b:Lim xs) (k:Nat) (a:k < bitLen (val xs)):k / 32 < xs.length:=by
 rcases Nat.lt_or_ge (k / 32) xs.length with h | h
 · exact h
 · have h1:=bitLen_le _ _ a
   have c:=val_lt _ b
   have d:(4294967296:Nat) ^ xs.length=2 ^ (32 * xs.length):=by rw [Nat.pow_mul]
   have f:2 ^ (32 * xs.length)≤2 ^ k:=Nat.pow_le_pow_right (by decide) (by omega)
   omega
theorem own_cell {w:World} {g:Nat} {t:TypeId} {k:IntKind} {a:List Nat} (h:Own w g t k a) {i x:Nat} (hi:a[i]? = some x):w.cell? ⟨g,i,none⟩=some (.int k (x:Int)):=by
 obtain ⟨y,b,c⟩:=h.cell (i:=i) (by rcases Nat.lt_or_ge i a.length with h | h;exact h;rw [List.getElem?_eq_none h] at hi;cases hi)
 have:=b.out
 rw [hi] at this
 injection this with this
 rw [this];exact c
@[irreducible] def RetTk (w:World) (a b:Nat) (e:Ending) (w':World):Prop :=
  ∃ (A:Option Addr) (c:Nat) (d:List Nat),e = .returned (.tuple #[.slice A d.length c, .bool (decide (b≤a))]) ∧
    Nums .u32 w' A d.length c d∧Below w.heap.size w w'∧(∀ b f,A=some ⟨b,f,none⟩→w.heap.size≤b)∧Hid (b≤a→d=limbs (a - b))
theorem nat_tk (f:Option Addr) (n c1:Nat) (xs:List Nat) (g:Option Addr) (m c2:Nat) (r:List Nat) (w:World)
 (h1:Nums .u32 w f n c1 xs) (j:Nums .u32 w g m c2 r) (a:Lim xs) (b:Lim r) (ty:Tight r) (q:n≤1000) :
 Calls Tryz.prog 213 #[.slice f n c1, .slice g m c2] w (RetTk w (val xs) (val r)):=by
 refine (nat_take _ _ _ _ _ _ _ _ _ h1 j a b q).mono ?_
 intro e w' h
 unfold RetTake at h
 unfold RetTk
 obtain ⟨A,c,rfl,k,l,o⟩:=h
 refine ⟨A,c,_,?_,k,l,o,?_⟩
 · have hd:decide ((subP xs r xs.length).2=0∧r.length≤xs.length)=decide (val r≤val xs):=?_
   · rw [hd]
   rw [decide_eq_decide]
   by_cases d:r.length≤xs.length
   · rw [subP_less xs r a b _ (Nat.le_refl _) d]
     split <;> omega
   · have:=val_lt_of_len xs r a b ty (by omega)
     constructor
     · intro h;omega
     · intro h;omega
 · refine LH fun p=>?_
   have d:r.length≤xs.length:=by
    rcases Nat.lt_or_ge xs.length r.length with h | h
    · have:=val_lt_of_len xs r a b ty h
      omega
    · exact h
   rw [neatL_limbs _ (subP_lim xs r _),subP_eq xs r a b _ (Nat.le_refl _) d p]
@[irreducible] def RetQuo (w:World) (p:List Nat × List Nat × Nat) (e:Ending) (w':World):Prop :=
  ∃ A c a b,e = .returned (.tuple #[.slice A p.1.length c, .slice a p.2.1.length b, .int .i64 (p.2.2:Int)])∧Nums .u32 w' A p.1.length c p.1∧Nums .u32 w' a p.2.1.length b p.2.1∧Below w.heap.size w w'
def QuoRel (w:World) (xs:List Nat) (b:Nat) (r i:Value) (wr:World):Prop :=
 ∃ (k:Nat) (A:Option Addr) (c:Nat) (a d:List Nat),i = .int .i64 ((k:Int) - 1)∧k≤bitLen (val xs)∧r = .slice A d.length c∧Nums .u32 wr A d.length c d ∧
   (∀ b f,A=some ⟨b,f,none⟩→w.heap.size < b)∧Own wr w.heap.size 49 .u32 a∧Below w.heap.size w wr ∧
   Hid (a.length=xs.length)∧Lim a∧Hid (val a=val xs / 2 ^ k / b * 2 ^ k)∧Hid (d=limbs (val xs / 2 ^ k % b))
theorem nat_quo (C:Option Addr) (n c1:Nat) (xs:List Nat) (D:Option Addr) (m c2:Nat) (ys:List Nat) (w:World)
 (h1:Nums .u32 w C n c1 xs) (p:Nums .u32 w D m c2 ys) (J:Lim xs) (ly:Lim ys) :
 Calls Tryz.prog 182 #[.slice C n c1, .slice D m c2] w (RetQuo w (quoN xs ys)):=by
 obtain rfl:=h1.len
 obtain rfl:=p.len
 by_cases N:rightB xs=true
 case neg =>
  have ca:rightB xs=false:=by simpa using N
  have l:quoN xs ys=([],[],1):=by simp [quoN,ca]
  rw [l]
  clear l N
  go_enter Tryz.func182,Tryz.ntmps182
  go_wp2_with (first
   | (go_at_call 75;(with_reducible refine (nat_right _ _ _ _ _ h1).mono ?_);rintro e w' ⟨rfl,rfl⟩)
   | (go_at_call 75;(with_reducible refine (nat_right _ _ _ _ _ p).mono ?_);rintro e w' ⟨rfl,rfl⟩))
  go_ret3
  unfold RetQuo
  exact ⟨none,0,none,0,rfl,Nums.nil _ _ _ _ (by simp),Nums.nil _ _ _ _ (by simp),Below.refl _ _⟩
 by_cases O:rightB ys=true
 case neg =>
  have cb:rightB ys=false:=by simpa using O
  have l:quoN xs ys=([],[],1):=by simp [quoN,cb]
  rw [l]
  clear l O
  go_enter Tryz.func182,Tryz.ntmps182
  go_wp2_with (first
   | (go_at_call 75;(with_reducible refine (nat_right _ _ _ _ _ h1).mono ?_);rintro e w' ⟨rfl,rfl⟩)
   | (go_at_call 75;(with_reducible refine (nat_right _ _ _ _ _ p).mono ?_);rintro e w' ⟨rfl,rfl⟩))
  go_ret3
  unfold RetQuo
  exact ⟨none,0,none,0,rfl,Nums.nil _ _ _ _ (by simp),Nums.nil _ _ _ _ (by simp),Below.refl _ _⟩
 by_cases y:ys.length=0
 · have l:quoN xs ys=([],[],1):=by simp [quoN,y]
   rw [l]
   clear l
   have b8:((ys.length:Int) == 0)=true:=by simp [y]
   clear y
   go_enter Tryz.func182,Tryz.ntmps182
   go_wp2_with (first
    | (go_at_call 75;(with_reducible refine (nat_right _ _ _ _ _ h1).mono ?_);rintro e w' ⟨rfl,rfl⟩)
    | (go_at_call 75;(with_reducible refine (nat_right _ _ _ _ _ p).mono ?_);rintro e w' ⟨rfl,rfl⟩))
   go_ret3
   unfold RetQuo
   exact ⟨none,0,none,0,rfl,Nums.nil _ _ _ _ (by simp),Nums.nil _ _ _ _ (by simp),Below.refl _ _⟩
 have b8:((ys.length:Int) == 0)=false:=by rw [beq_eq_false_iff_ne];omega
 have co:xs.length≤32:=by simp [rightB] at N;omega
 have ty:=tight_of_right ys O
 have aq:0 < val ys:=by
  rcases Nat.eq_zero_or_pos (val ys) with h | h
  · have:=limbs_val ys ly ty
    rw [h,limbs_zero] at this
    rw [← this] at y
    simp at y
  · exact h
 have bw:=run_make_nums (P:=Tryz.prog) 31 49 .u32 4 Tryz.underlying31 Tryz.info34 xs.length (by omega) (by omega)
 have l:quoN xs ys=(limbs (val xs / val ys),limbs (val xs % val ys),0):=by simp [quoN,N,O,y]
 have a2:bitsN xs=bitLen (val xs):=by simp [bitsN,N]
 have ch:bitLen (val xs)≤1024:=by
  rcases Nat.lt_or_ge 1024 (bitLen (val xs)) with h | h
  · have:=bit_in xs J 1024 h
    omega
  · exact h
 rw [l]
 have bh:=LH a2
 clear l a2
 go_enter Tryz.func182,Tryz.ntmps182
 go_wp2_with (first
  | (go_at_call 75;(with_reducible refine (nat_right _ _ _ _ _ h1).mono ?_);rintro e w' ⟨rfl,rfl⟩)
  | (go_at_call 75;(with_reducible refine (nat_right _ _ _ _ _ p).mono ?_);rintro e w' ⟨rfl,rfl⟩)
  | (go_at_call 211;(with_reducible refine (nat_bits _ _ _ _ _ (h1.below ((Below.refl _ _).alloc (Nat.le_refl _) _)) J).mono ?_);rintro e w' ⟨rfl,rfl⟩;rw [bh.out]))
 go_loopw [8,9] (QuoRel w xs (val ys)) (fun _ i _=>(intOf i+1).toNat)
 case atStart =>
  have hz:val xs / 2 ^ bitLen (val xs)=0:=Nat.div_eq_of_lt (bitLen_lt _)
  have e1:(List.replicate xs.length 0).length=xs.length:=by simp
  have e2:val (List.replicate xs.length 0)=val xs / 2 ^ bitLen (val xs) / val ys * 2 ^ bitLen (val xs):=by rw [hz,zz_val];simp
  have e3:[]=limbs (val xs / 2 ^ bitLen (val xs) % val ys):=by rw [hz,Nat.zero_mod,limbs_zero]
  exact ⟨bitLen (val xs),none,0,List.replicate xs.length 0,[],rfl,Nat.le_refl _,rfl,Nums.nil _ _ _ _ (by simp),(fun _ _ h=>by cases h),Own.new w 49 .u32 (List.replicate xs.length 0),(Below.refl _ _).alloc (Nat.le_refl _) _,
   LH e1,zz_lim _,LH e2,LH e3⟩
 case round =>
  clear bw
  obtain ⟨k,A,c,qs,o,rfl,hk,rfl,an,ck,W,q,E,I,S,U⟩:=hrel
  have X:=W.lt
  by_cases bv:0 < k
  · obtain ⟨i,rfl⟩:∃ i,k=i+1:=⟨k - 1,by omega⟩
    clear bv
    have a7:((i+1:Nat):Int) - 1=(i:Int):=by omega
    rw [a7]
    clear a7
    have V:=bit_in xs J i (by omega)
    have R:=LH (bit_of xs J i)
    have ax:=LH (quo_step (val xs) (val ys) i aq)
    obtain ⟨j,r,a8,hr⟩:∃ j r,i=32 * j+r∧r < 32:=⟨i / 32,i % 32,by omega,by omega⟩
    have hj:i / 32=j:=by omega
    have am:i % 32=r:=by omega
    rw [hj] at V R
    rw [am] at R
    have cm:(i:Int) / 32=(j:Int):=by omega
    have cr:(i:Int) % 32=(r:Int):=by omega
    have cd:=LH a8
    have Hj:=LH hj
    have Hr:=LH am
    clear a8 hj am
    obtain ⟨b1,o1,u,rfl,cg,Hu,ci⟩:=(h1.below q).get (j:=j) V
    have b6:=J.of_get Hu.out
    have cq:(2:Int) ^ r=((2 ^ r:Nat):Int):=by simp
    have cu:(u:Int) / ((2 ^ r:Nat):Int)=((u / 2 ^ r:Nat):Int):=by simp
    have a6:=getD_of_get (d:=0) Hu.out
    have a3:u / 2 ^ r % 2=val xs / 2 ^ i % 2:=by have:=R.out;rwa [a6] at this
    have b9:u / 2 ^ r < 4294967296:=Nat.lt_of_le_of_lt (Nat.div_le_self _ _) b6
    have cf:bits .and .u32 ((u / 2 ^ r:Nat):Int) 1=((u / 2 ^ r % 2:Nat):Int):=by
     have:=u32_and_nat (u / 2 ^ r) 1 b9 (by decide)
     rw [show ((1:Nat):Int)=1 from rfl] at this
     rw [this,Nat.and_one_is_mod]
    have a4:u / 2 ^ r % 2≤1:=by omega
    generalize u / 2 ^ r=z at *
    generalize bs:z % 2=bt at *
    have bi:=LH a3
    clear bs a3 a6 R
    have ap:val o=val xs / 2 ^ (i+1) % val ys:=by rw [U.out,val_limbs]
    have lr:Lim o:=by rw [U.out];exact limbs_lim _
    have bb:val ys < 4294967296 ^ 32:=by
     have h1:=val_lt ys ly
     have p:ys.length≤32:=by simp [rightB] at O;omega
     exact Nat.lt_of_lt_of_le h1 (Nat.pow_le_pow_right (by decide) p)
    have cs:o.length≤32:=by
     rw [U.out,limbs_len_le]
     exact Nat.lt_trans (Nat.mod_lt _ aq) bb
    have Y:=ax.out
    have cv:(limbs (2 * val o+bt)).length≤33:=by
     rw [limbs_len_le,Nat.pow_succ]
     have:val o < val ys:=by rw [ap];exact Nat.mod_lt _ aq
     generalize (4294967296:Nat) ^ 32=B at *
     omega
    have bn:=LH ap
    simp only [] at Y
    rw [← bi.out,← bn.out] at Y
    have T:=LH Y
    clear Y ax ap bb
    obtain ⟨s,ae⟩:∃ s,Hid (qs[j]? = some s):=⟨_,LH (List.getElem?_eq_getElem (by rw [E.out];exact V))⟩
    have a9:=set_bit qs I i (by rw [Hj.out,E.out];exact V) _ S.out
    rw [Hj.out,Hr.out,getD_of_get ae.out] at a9
    obtain ⟨be,cx,bf⟩:=a9
    have b3:=I.of_get ae.out
    have bz:2 ^ r < 4294967296:=by
     have:=Nat.pow_lt_pow_right (a:=2) (by decide) hr
     simpa using this
    have cp:bits .or .u32 (s:Int) ((2 ^ r:Nat):Int)=((s+2 ^ r:Nat):Int):=by
     rw [u32_or_nat _ _ b3 bz,be]
    generalize b0:(2:Nat) ^ r=M at *
    have bm:=LH bf
    clear b0 be bf
    have ct:IntKind.u32.wrap (M:Int)=(M:Int):=by rw [IntKind.wrap_u32];omega
    have b1:(0:Int)≤(j:Int):=by omega
    have b2:(j:Int) < (xs.length:Int):=by omega
    by_cases x:val ys≤2 * val o+bt
    · have ai:decide (val ys≤2 * val o+bt)=true:=by simpa using x
      have ad:=LH (T.out.1 x)
      have bj:=LH x
      clear x T
      generalize H:2 * val o+bt=v2 at *
      have af:=LH H
      clear H
      go_wp2_with (first
       | (go_at_call 212;(with_reducible refine (nat_twice _ _ _ _ bt _ an lr a4 (by omega)).mono ?_);intro e w1 f;unfold RetNew at f;rw [af.out] at f;obtain ⟨C,c3,rfl,Z,g,a5⟩:=f)
       | (go_at_call 213;(with_reducible refine (nat_tk _ _ _ _ _ _ _ _ _ Z ((p.below q).below g) (limbs_lim _) ly ty (by omega)).mono ?_);intro e w2 f;unfold RetTk at f;rw [val_limbs,ai] at f;obtain ⟨D,c4,ts,rfl,ht,t,aj,ay⟩:=f))
      have G:=(W.below g X).below t (Nat.lt_of_lt_of_le X g.size)
      have cj:=own_cell G ae.out
      have cl:=G.frozen j
      have F:=q.size
      have ah:=g.size
      have hB:=(q.trans (g.mono F)).trans (t.mono (Nat.le_trans F ah))
      go_region
      go_wp2
      go_roundw
      case rel =>
       obtain ⟨ar,au⟩:=ad.out
       have bu:=nums_far ht (B:=w.heap.size) (fun b L h=>by have:=aj b L h;omega) j (.int .u32 ((s+M:Nat):Int))
       have b5:=G.set_ j (s+M)
       refine ⟨i,D,c4,qs.set j (s+M),ts,by go_num,by omega,rfl,bu.drew,fun b L h=>?_,b5.drew,(hB.setCell (by simp) _).drew,LH (by rw [List.length_set];exact E.out),?_,LH ?_,LH ?_⟩
       · have:=aj b L h;omega
       · intro v hv
         rcases List.mem_or_eq_of_mem_set hv with h | h
         · exact I v h
         · omega
       · rw [bm.out,S.out,au,Nat.pow_succ,Nat.add_mul,Nat.one_mul,← Nat.mul_assoc,Nat.mul_comm _ 2,Nat.mul_assoc]
       · rw [ay.out bj.out,ar]
      case measure=>simp [intOf] <;> omega
    · have ai:decide (val ys≤2 * val o+bt)=false:=by simpa using x
      have ad:=LH (T.out.2 (by omega))
      clear x T
      generalize H:2 * val o+bt=v2 at *
      have af:=LH H
      clear H
      go_wp2_with (first
       | (go_at_call 212;(with_reducible refine (nat_twice _ _ _ _ bt _ an lr a4 (by omega)).mono ?_);intro e w1 f;unfold RetNew at f;rw [af.out] at f;obtain ⟨C,c3,rfl,Z,g,a5⟩:=f)
       | (go_at_call 213;(with_reducible refine (nat_tk _ _ _ _ _ _ _ _ _ Z ((p.below q).below g) (limbs_lim _) ly ty (by omega)).mono ?_);intro e w2 f;unfold RetTk at f;rw [val_limbs,ai] at f;obtain ⟨D,c4,ts,rfl,ht,t,aj,ay⟩:=f))
      have G:=(W.below g X).below t (Nat.lt_of_lt_of_le X g.size)
      have F:=q.size
      have ah:=g.size
      have hB:=(q.trans (g.mono F)).trans (t.mono (Nat.le_trans F ah))
      go_roundw
      case rel =>
       obtain ⟨ar,au⟩:=ad.out
       refine ⟨i,C,c3,qs,limbs v2,by go_num,by omega,rfl,Z.below t,fun b L h=>?_,G,hB,E,I,LH ?_,LH ?_⟩
       · have:=a5 b L h;omega
       · rw [S.out,au,Nat.pow_succ,← Nat.mul_assoc,Nat.mul_comm _ 2,Nat.mul_assoc]
       · rw [ar]
      case measure=>simp [intOf] <;> omega
  · obtain rfl:k=0:=by omega
    have bx:=W.nums (n:=xs.length) (c:=xs.length) E.out (Nat.le_refl _) (by omega)
    have av:=LH (neatL_limbs _ I)
    have al:=S.out
    rw [Nat.pow_zero,Nat.div_one,Nat.mul_one] at al
    rw [al] at av
    have ao:=U.out
    rw [Nat.pow_zero,Nat.div_one] at ao
    have bl:=LH ao
    clear al ao
    go_wp2_with (go_at_call 199;(with_reducible refine (nat_neat _ _ _ _ _ bx).mono ?_);rintro e w' ⟨rfl,hN,rfl⟩)
    go_ret3
    rw [av.out] at hN ⊢
    rw [← bl.out]
    unfold RetQuo
    exact ⟨_,_,_,_,rfl,hN,an,q⟩
end Go.Proofs.YtggbjdmpjidhgaaGreatDoor
