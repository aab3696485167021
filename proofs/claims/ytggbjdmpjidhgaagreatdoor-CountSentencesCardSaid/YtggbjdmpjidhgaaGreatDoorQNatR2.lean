/- Walks: the reference's Mul, Div and Bits. -/
import Derived.Test.YtggbjdmpjidhgaaGreatDoorQCtK
set_option linter.unusedVariables false
set_option linter.unusedSimpArgs false
set_option maxHeartbeats 8000000
set_option maxRecDepth 100000
namespace Go.Proofs.YtggbjdmpjidhgaaGreatDoor
open Go.RowKit
def RMulRel (w:World) (xs ys:List Nat) (i:Value) (wr:World):Prop :=
 ∃ (k:Nat) (bs:List Nat),k≤xs.length∧i = .int .i64 (k:Int)∧bs.length=64∧Lim bs∧val bs=val (xs.take k) * val ys ∧
   Own wr w.heap.size 49 .u32 bs∧Below w.heap.size w wr
def RMulRel2 (w:World) (x:Nat) (ys bs:List Nat) (i:Nat) (c q:Value) (wr:World):Prop :=
 ∃ k:Nat,i+k≤64∧q = .int .i64 (k:Int)∧c = .int .u64 ((mulP x ys (bs.drop i) k).2:Int)∧Own wr w.heap.size 49 .u32 (mulBuf x ys bs i k)∧Below w.heap.size w wr
theorem zeros_lim (n:Nat):Lim (List.replicate n 0):=fun y hy=>by
 have:=List.eq_of_mem_replicate hy
 omega
theorem zeros_val (n:Nat):val (List.replicate n 0)=0:=by
 induction n with
 | zero=>rfl
 | succ n ih=>simp [List.replicate_succ,val,ih]
theorem i64w {n:Int} (h0:0≤n) (h1:n < 9223372036854775808):IntKind.i64.wrap n=n:=by rw [IntKind.wrap_i64];omega
theorem u64w {n:Int} (h0:0≤n) (h1:n < 18446744073709551616):IntKind.u64.wrap n=n:=by rw [IntKind.wrap_u64];omega
theorem val_take_le (xs:List Nat) (k:Nat):val (xs.take k)≤val xs:=by
 by_cases h:k≤xs.length
 · rw [val_split xs k h];omega
 · rw [List.take_of_length_le (by omega)];exact Nat.le_refl _
theorem mul_fits (xs ys:List Nat) (lx:Lim xs) (ly:Lim ys) (h1:xs.length≤32) (h2:ys.length≤32) (k:Nat) (hk:k < xs.length) :
 val (xs.take k) * val ys+4294967296 ^ k * (xs.getD k 0 * val ys) < 4294967296 ^ 64:=by
 have e:val (xs.take k) * val ys+4294967296 ^ k * (xs.getD k 0 * val ys)=val (xs.take (k+1)) * val ys:=by
  rw [val_take_succ,Nat.add_mul,Nat.mul_assoc]
 rw [e]
 have a1:=val_take_le xs (k+1)
 have a2:=val_lt xs lx
 have a3:=val_lt ys ly
 have b1:(4294967296:Nat) ^ xs.length≤4294967296 ^ 32:=Nat.pow_le_pow_right (by decide) h1
 have b2:(4294967296:Nat) ^ ys.length≤4294967296 ^ 32:=Nat.pow_le_pow_right (by decide) h2
 have e2:(4294967296:Nat) ^ 64=4294967296 ^ 32 * 4294967296 ^ 32:=by rw [← Nat.pow_add]
 rw [e2]
 exact Nat.mul_lt_mul'' (by omega) (by omega)
theorem ref_mul (A1:Option Addr) (n c1:Nat) (xs:List Nat) (A2:Option Addr) (m c2:Nat) (ys:List Nat) (w:World)
 (h1:Nums .u32 w A1 n c1 xs) (h2:Nums .u32 w A2 m c2 ys) (lx:Lim xs) (ly:Lim ys) :
 Calls Tryz.prog 60 #[.slice A1 n c1, .slice A2 m c2] w (RetNat w (mulN xs ys)):=by
 by_cases r1:rightB xs=true
 case neg =>
  have r1':rightB xs=false:=by simpa using r1
  have hfin:mulN xs ys=([],1):=by simp [mulN,r1']
  rw [hfin]
  clear hfin r1
  go_enter Tryz.func60,Tryz.ntmps60
  go_wp2_with (first
   | (go_at_call 78;(with_reducible refine (ref_right _ _ _ _ _ h1).mono ?_);rintro e w' ⟨rfl,rfl⟩)
   | (go_at_call 78;(with_reducible refine (ref_right _ _ _ _ _ h2).mono ?_);rintro e w' ⟨rfl,rfl⟩))
  go_ret2
  exact ⟨none,0,rfl,Nums.nil _ _ _ _ (by simp),Below.refl _ _⟩
 by_cases r2:rightB ys=true
 case neg =>
  have r2':rightB ys=false:=by simpa using r2
  have hfin:mulN xs ys=([],1):=by simp [mulN,r2']
  rw [hfin]
  clear hfin r2
  go_enter Tryz.func60,Tryz.ntmps60
  go_wp2_with (first
   | (go_at_call 78;(with_reducible refine (ref_right _ _ _ _ _ h1).mono ?_);rintro e w' ⟨rfl,rfl⟩)
   | (go_at_call 78;(with_reducible refine (ref_right _ _ _ _ _ h2).mono ?_);rintro e w' ⟨rfl,rfl⟩))
  go_ret2
  exact ⟨none,0,rfl,Nums.nil _ _ _ _ (by simp),Below.refl _ _⟩
 have hn32:=right_len xs r1
 have hm32:=right_len ys r2
 obtain rfl:=h1.len
 obtain rfl:=h2.len
 have hmk:=run_make_nums (P:=Tryz.prog) 31 49 .u32 4 Tryz.underlying31 Tryz.info34 64 (by omega) (by omega)
 have hmk':∀ w:World,(Instr.makeSlice 31 (.int .i64 64) (.int .i64 64)).run Tryz.prog w = .ok (.slice (some ⟨w.heap.size,0,none⟩) 64 64) (w.alloc (.cells (nums .u32 (List.replicate 64 0)).toArray 49)):=hmk
 clear hmk
 obtain ⟨z64,Hz64⟩:∃ zs,Hid (List.replicate 64 0=zs):=⟨_,LH rfl⟩
 rw [Hz64.out] at hmk'
 have hfin:mulN xs ys=fitN (val xs * val ys):=by simp [mulN,r1,r2]
 rw [hfin]
 clear hfin
 go_enter Tryz.func60,Tryz.ntmps60
 go_wp2_with (first
  | (go_at_call 78;(with_reducible refine (ref_right _ _ _ _ _ h1).mono ?_);rintro e w' ⟨rfl,rfl⟩)
  | (go_at_call 78;(with_reducible refine (ref_right _ _ _ _ _ h2).mono ?_);rintro e w' ⟨rfl,rfl⟩))
 go_loopw [7] (RMulRel w xs ys) (fun i _=>xs.length - (intOf i).toNat)
 case atStart =>
  refine ⟨0,z64,Nat.zero_le _,rfl,?_,?_,?_,Own.new _ _ _ _,(Below.refl _ _).alloc (Nat.le_refl _) _⟩
  · rw [← Hz64.out];rfl
  · rw [← Hz64.out]
    exact zeros_lim 64
  · rw [← Hz64.out,zeros_val]
    simp [val]
 case round =>
  obtain ⟨i,bs,hi,rfl,hbl,hblim,hbv,hown,hbel⟩:=hrel
  have Hbl:=LH hbl
  have Hbv:=LH hbv
  clear hbl hbv hmk'
  by_cases hlt:i < xs.length
  · obtain ⟨x,Hx⟩:∃ x,Hid (xs[i]? = some x):=⟨_,LH (List.getElem?_eq_getElem hlt)⟩
    have hxl:=lx.of_get Hx.out
    have hfits:=mul_fits xs ys lx ly hn32 hm32 i hlt
    rw [getD_of_get_n Hx.out] at hfits
    have Hfits:=LH hfits
    clear hfits
    go_wp2
    obtain ⟨wo,rfl⟩:∃ wo:World,wo=wr:=⟨_,rfl⟩
    go_loopw [8,9] (RMulRel2 w x ys bs i) (fun _ q _=>(64 - intOf q).toNat)
    case atStart=>exact ⟨0,by omega,rfl,rfl,by rw [mulBuf_zero];exact hown,hbel⟩
    case round =>
     clear hown hbel
     obtain ⟨k,hk,rfl,rfl,hown,hbel⟩:=hrel
     have hcar:=mulP_carry x ys (bs.drop i) hxl ly (hblim.drop _) k
     by_cases hlt2:i+k < 64
     · obtain ⟨b1,o1,x',rfl,hb1,Hx',hc1⟩:=(h1.below hbel).get (j:=i) hlt
       obtain rfl:x=x':=by have h1:=Hx.out;rw [Hx'.out] at h1;injection h1 with h1;exact h1.symm
       have hyl:=ly.getD k
       obtain ⟨y,Hy⟩:∃ y,Hid (ys.getD k 0=y):=⟨_,LH rfl⟩
       have Hlb:=LH (mulBuf_len x ys bs i k (by rw [Hbl.out];omega))
       obtain ⟨z,Hz,hcz⟩:=hown.cell (i:=i+k) (by rw [Hlb.out,Hbl.out];omega)
       have hfro:=hown.frozen (i+k)
       have Hz2:Hid (bs[i+k]? = some z):=LH (by rw [← mulBuf_get x ys bs i k (by rw [Hbl.out];omega)];exact Hz.out)
       have hzl:=hblim.of_get Hz2.out
       rw [Hy.out] at hyl
       have hb:=mul_bound hxl hyl hzl hcar
       have hxy0:(0:Int)≤(x:Int) * (y:Int):=by rw [← Int.natCast_mul];omega
       have hxy1:(x:Int) * (y:Int)+(z:Int)+((mulP x ys (bs.drop i) k).2:Int) < 18446744073709551616:=by rw [← Int.natCast_mul];omega
       have hxy2:(z:Int)+(x:Int) * (y:Int)+((mulP x ys (bs.drop i) k).2:Int) < 18446744073709551616:=by omega
       have Hset:=LH (mulBuf_succ x ys bs i k (by rw [Hbl.out];omega))
       have hl2:∀ q,Calls Tryz.prog 79 #[.slice A2 ys.length c2, .int .i64 (k:Int)] (wr.drewN q) fun e w'=>e = .returned (.int .u64 (y:Int))∧wr.drewN q=w':=fun q=>by
        have:=ref_limb A2 ys.length c2 ys k (wr.drewN q) ((h2.below hbel).drewN q) ly
        rw [Hy.out] at this
        exact this
       have Hl2:=LH hl2
       clear hb hl2
       have j1:(0:Int)≤(i:Int)+(k:Int):=by omega
       have j2:(i:Int)+(k:Int) < 64:=by omega
       have j3:(0:Int)≤(i:Int):=by omega
       have j4:(i:Int) < (xs.length:Int):=by omega
       have e1:IntKind.i64.wrap ((i:Int)+(k:Int))=(i:Int)+(k:Int):=i64w (by omega) (by omega)
       have e2:((i:Int)+(k:Int)).toNat=i+k:=by omega
       have e3:IntKind.u64.wrap ((x:Int) * (y:Int))=(x:Int) * (y:Int):=u64w (by omega) (by omega)
       have e4:IntKind.u64.wrap ((z:Int)+(x:Int) * (y:Int))=(z:Int)+(x:Int) * (y:Int):=u64w (by omega) (by omega)
       have e5:IntKind.u64.wrap ((z:Int)+(x:Int) * (y:Int)+((mulP x ys (bs.drop i) k).2:Int))=(z:Int)+(x:Int) * (y:Int)+((mulP x ys (bs.drop i) k).2:Int):=u64w (by omega) (by omega)
       go_wp2
       go_quiet ((go_at_call 79;exact quiet_left (Hl2.out _)))
       clear e1 e2 e3 e4 e5
       go_wp2
       go_roundw
       case rel =>
        refine ⟨k+1,by omega,by go_num,?_,?_,(below_drewN hbel _).setCell (by simp) _⟩
        · have hz2:=Hz2.out
          simp only [mulP,Hy.out]
          rw [show (bs.drop i).getD k 0=z from by simp [List.getElem?_drop,hz2]]
          go_num
        · have:=(hown.drewN nq).set_ (i+k) ((x * y+z+(mulP x ys (bs.drop i) k).2) % 4294967296)
          have hs:=Hset.out
          rw [Hy.out,getD_of_get_n Hz2.out] at hs
          rw [hs] at this
          rw [show ((z:Int)+(x:Int) * (y:Int)+((mulP x ys (bs.drop i) k).2:Int))=(x:Int) * (y:Int)+(z:Int)+((mulP x ys (bs.drop i) k).2:Int) from by omega]
          simpa using this
       case measure=>simp [intOf] <;> omega
     · obtain rfl:k=64 - i:=by omega
       have hrow:=mul_row_full x ys bs i (by rw [Hbl.out];omega) (by rw [Hbv.out,Hbl.out];exact Hfits.out) (by rw [Hbl.out];omega)
       rw [Hbl.out] at hrow
       have Hrow:=LH hrow
       have hge:¬ (i:Int)+((64 - i:Nat):Int) < 64:=by omega
       clear hrow
       go_wp2
       go_roundw
       case rel =>
        obtain ⟨e1,e2⟩:=Hrow.out
        refine ⟨i+1,_,by omega,by go_num,e2,mulBuf_lim x ys bs i _ hblim,?_,hown,hbel⟩
        rw [e1,Hbv.out,val_take_succ,getD_of_get_n Hx.out,Nat.add_mul,Nat.mul_assoc]
       case measure=>simp [intOf] <;> omega
  · obtain rfl:i=xs.length:=by omega
    have hval:=Hbv.out
    rw [List.take_length] at hval
    have hnums:=hown.nums (n:=64) (c:=64) Hbl.out (Nat.le_refl _) (by omega)
    have Hval:=LH hval
    clear hval
    go_wp2_with (go_at_call 112;(with_reducible refine (ref_small _ _ _ _ _ hnums hblim).mono ?_);rintro e w' ⟨A,c,rfl,hN,hB⟩)
    go_ret2
    rw [← Hval.out]
    exact ⟨A,c,rfl,hN,below_tail hbel hB⟩
end Go.Proofs.YtggbjdmpjidhgaaGreatDoor
