/- counts: the reference's table, as it lies in memory; one; a symbol's trees; what is told. -/
import Derived.Test.YtggbjdmpjidhgaaGreatDoorQCtR2
import Derived.Test.YtggbjdmpjidhgaaGreatDoorQCtK
import Derived.Test.YtggbjdmpjidhgaaGreatDoorQKit
set_option linter.unusedVariables false
set_option linter.unusedSimpArgs false
set_option maxHeartbeats 8000000
set_option maxRecDepth 100000
namespace Go.Proofs.YtggbjdmpjidhgaaGreatDoor
open Go.RowKit
def TabM (w:World) (A:Option Addr) (n c N:Nat) (tab:Nat→Nat→Nat):Prop:=n≤c∧c≤9223372036854775807∧(0 < n→∃ b off,A=some ⟨b,off,none⟩∧b < w.heap.size∧∀ m,m < n →
 ∃ g,w.cell? ⟨b,off+m,none⟩=some (.slice (some ⟨g,0,none⟩) N N)∧VRow w g 46 ((List.range N).map (tab m)))
theorem TabM.below {w w':World} {A:Option Addr} {n c N:Nat} {tab:Nat→Nat→Nat} (h:TabM w A n c N tab) (hb:Below w.heap.size w w'):TabM w' A n c N tab:=by
 refine ⟨h.1,h.2.1,fun hn=>?_⟩
 obtain ⟨b,off,e,hlt,hr⟩:=h.2.2 hn
 refine ⟨b,off,e,Nat.lt_of_lt_of_le hlt hb.size,fun m hm=>?_⟩
 obtain ⟨g,h1,h2⟩:=hr m hm
 exact ⟨g,(hb.cell (p:=⟨b,off+m,none⟩) hlt).trans h1,h2.below hb⟩
theorem capV_one:capV 1=([1],false):=by
 have h1:(1:Nat) < big:=by
  unfold big
  generalize hk:(1024:Nat)=k
  exact Nat.one_lt_two_pow (by omega)
 rw [capV_small h1]
 rfl
theorem rf_one22 (w:World):Calls Tryz.prog 94 #[] w (RetV w 1):=by
 have hB1:=alloc_below w (.cells #[.slice none 0 0, .bool false] 46)
 have hX:=Blk.new w 46 #[.slice none 0 0, .bool false]
 have e1:(w.alloc (.cells #[.slice none 0 0, .bool false] 46)).heap.size=w.heap.size+1:=alloc_size _ _
 go_enter Tryz.func94,Tryz.ntmps94
 go_upto_region 1 with fail
 generalize w.alloc (.cells #[.slice none 0 0, .bool false] 46)=W at *
 obtain ⟨g1,g2,g3⟩:=valcell_end hX hB1 (Nat.le_refl _) (some ⟨w.heap.size+1,0,none⟩) 1 1 false
 have hsz:((W.setCell ⟨w.heap.size,0,none⟩ (.slice (some ⟨w.heap.size+1,0,none⟩) 1 1)).setCell ⟨w.heap.size,1,none⟩ (.bool false)).heap.size=w.heap.size+1:=by rw [← e1];simp
 have hA:=alloc_below ((W.setCell ⟨w.heap.size,0,none⟩ (.slice (some ⟨w.heap.size+1,0,none⟩) 1 1)).setCell ⟨w.heap.size,1,none⟩ (.bool false)) (.cells #[.int .u32 1] 49)
 have hL:Nums .u32 (((W.setCell ⟨w.heap.size,0,none⟩ (.slice (some ⟨w.heap.size+1,0,none⟩) 1 1)).setCell ⟨w.heap.size,1,none⟩ (.bool false)).alloc (.cells #[.int .u32 1] 49)) (some ⟨((W.setCell ⟨w.heap.size,0,none⟩ (.slice (some ⟨w.heap.size+1,0,none⟩) 1 1)).setCell ⟨w.heap.size,1,none⟩ (.bool false)).heap.size,0,none⟩) 1 1 [1]:=lit_sl ((W.setCell ⟨w.heap.size,0,none⟩ (.slice (some ⟨w.heap.size+1,0,none⟩) 1 1)).setCell ⟨w.heap.size,1,none⟩ (.bool false)) 49 (nums .u32 [1]) 1 _ rfl rfl (by decide)
 rw [hsz] at hL
 have G1:=LH (below_tail g1 hA)
 have G2:=LH (Blk.ext g2 hA)
 have c0:W.cell? ⟨w.heap.size,0,none⟩=some (.slice none 0 0):=hX.cell 0
 have c1:W.cell? ⟨w.heap.size,1,none⟩=some (.bool false):=hX.cell 1
 have f0:=hX.frozen 0
 have f1:=hX.frozen 1
 have l1:=hX.lt
 have HL:=LH hL
 clear hX hB1 hA hL g1 g2 g3 hsz
 go_wp2_with fail
 refine bodyPost_ret (results_cell_row (p:=0) (by kernel_rfl) _ _ w.heap.size 46 #[.slice (some ⟨w.heap.size+1,0,none⟩) 1 1, .bool false] (0,0) _ rfl G2.out Tryz.underlying46 rfl (by kernel_rfl)) rfl ?_
 refine ⟨G1.out,_,_,_,_,rfl,?_⟩
 unfold ValN
 rw [capV_one]
 exact ⟨rfl,HL.out⟩
theorem rf_Tree (A:Option Addr) (n c N:Nat) (tab:Nat→Nat→Nat) (sym:Int) (k:Nat) (w:World) (hT:TabM w A n c N tab) (hk:k < n) (hN:N≤1000) (hkn:k≤1000) (hs:sym < 0→-(N:Int)≤sym) :
 Calls Tryz.prog 95 #[.slice A n c, .int .i64 sym, .int .i64 (k:Int)] w (RetV w (tabT tab sym k)):=by
 have hB1:=alloc_below w (.cells #[.slice none 0 0, .bool false] 46)
 have hX:=Blk.new w 46 #[.slice none 0 0, .bool false]
 have hT2:=hT.below hB1
 clear hT
 go_enter Tryz.func95,Tryz.ntmps95
 go_upto_region 1 with fail
 generalize w.alloc (.cells #[.slice none 0 0, .bool false] 46)=W at *
 have c0:W.cell? ⟨w.heap.size,0,none⟩=some (.slice none 0 0):=hX.cell 0
 have c1:W.cell? ⟨w.heap.size,1,none⟩=some (.bool false):=hX.cell 1
 have f0:=hX.frozen 0
 have f1:=hX.frozen 1
 have l1:=hX.lt
 by_cases h0:0≤sym
 · have hn:¬ (sym < 0):=by omega
   have hv:tabT tab sym k=oneT k:=by unfold tabT;rw [if_pos h0]
   have Hv:=LH hv
   clear hv hT2 hs
   by_cases hk1:k=1
   · subst hk1
     have HX:=LH hX
     have HB:=LH hB1
     clear hX hB1
     go_wp2_with fail
     (with_reducible refine (rf_one22 W).mono ?_)
     rintro e W2 ⟨hb,A3,m3,c3,b3,rfl,hv3⟩
     have X2:=HX.out.ext hb
     have Hend:=LH (valcell_end X2 (below_tail HB.out hb) (Nat.le_refl _) A3 m3 c3 b3)
     have c0':W2.cell? ⟨w.heap.size,0,none⟩=some (.slice none 0 0):=X2.cell 0
     have c1':W2.cell? ⟨w.heap.size,1,none⟩=some (.bool false):=X2.cell 1
     have f0':=X2.frozen 0
     have f1':=X2.frozen 1
     have l1':=X2.lt
     have Hv3:=LH hv3
     clear c0 c1 f0 f1 l1 X2 hv3 hb
     go_wp2_with fail
     refine bodyPost_ret (results_cell_row (p:=6) (by kernel_rfl) _ _ w.heap.size 46 #[.slice A3 m3 c3, .bool b3] (0,0) _ rfl Hend.out.2.1 Tryz.underlying46 rfl (by kernel_rfl)) rfl ?_
     refine ⟨Hend.out.1,_,_,_,_,rfl,?_⟩
     rw [Hv.out]
     exact Hv3.out.kept Hend.out.2.2
   · have hki:((k:Int) == 1)=false:=by rw [beq_eq_false_iff_ne];omega
     have hz:oneT k=0:=by unfold oneT;rw [if_neg hk1]
     have Hz:=LH hz
     have Hend:=LH (valcell_end hX hB1 (Nat.le_refl _) none 0 0 false)
     clear hX hB1 hz hk1
     go_wp2_with fail
     refine bodyPost_ret (results_cell_row (p:=6) (by kernel_rfl) _ _ w.heap.size 46 #[.slice none 0 0, .bool false] (0,0) _ rfl Hend.out.2.1 Tryz.underlying46 rfl (by kernel_rfl)) rfl ?_
     refine ⟨Hend.out.1,_,_,_,_,rfl,?_⟩
     rw [Hv.out,Hz.out]
     exact ValN.zero _ _ _ (by omega)
 · have hv:tabT tab sym k=tab k (nonI sym):=by unfold tabT;rw [if_neg h0]
   obtain ⟨j,hj,hnj,hw⟩:=non_place (s:=sym) (n:=N) (by omega) (hs (by omega)) hN
   rw [hnj] at hv
   obtain ⟨_,_,hT3⟩:=hT2
   obtain ⟨tb,tof,rfl,htl,hrow⟩:=hT3 (by omega)
   obtain ⟨g,hcg,hrg⟩:=hrow k hk
   obtain ⟨A3,m3,c3,b3,q0,q1,hv3⟩:=hrg.get (j:=j) (by simp;exact hj)
   have hgl:=hrg.lt
   have hval:((List.range N).map (tab k)).getD j 0=tab k j:=by rw [List.getD_eq_getElem?_getD,List.getElem?_map,List.getElem?_range hj];rfl
   rw [hval] at hv3
   have Hv:=LH hv
   have Hv3:=LH hv3
   have Hend:=LH (valcell_end hX hB1 (Nat.le_refl _) A3 m3 c3 b3)
   have hn:sym < 0:=by omega
   clear hv hv3 hval hrow hT3 hrg hX hB1 hs hnj
   go_wp2_with fail
   refine bodyPost_ret (results_cell_row (p:=6) (by kernel_rfl) _ _ w.heap.size 46 #[.slice A3 m3 c3, .bool b3] (0,0) _ rfl Hend.out.2.1 Tryz.underlying46 rfl (by kernel_rfl)) rfl ?_
   refine ⟨Hend.out.1,_,_,_,_,rfl,?_⟩
   rw [Hv.out]
   exact Hv3.out.kept Hend.out.2.2
theorem rf_told (A:Option Addr) (n c:Nat) (b:Bool) (x:Nat) (w:World) (h:ValN w A n c b x) :
 Calls Tryz.prog 52 #[.agg #[.slice A n c, .bool b]] w (RetNat w (fitN x)):=by
 have hB:=alloc_below w (.cells #[.slice A n c, .bool b] 46)
 have hX:=Blk.new w 46 #[.slice A n c, .bool b]
 have hN:=(h.2.below hB)
 have hl:=h.2.len
 have k:=h.cases
 have HN:=LH hN
 have HB:=LH hB
 clear h hN
 go_enter Tryz.func52,Tryz.ntmps52
 rcases k with ⟨hx,rfl,ex⟩ | ⟨hx,rfl,ex⟩
 · have hf:fitN x=(limbs x,0):=by unfold fitN;rw [if_pos hx]
   rw [ex] at hl HN
   have Hf:=LH hf
   have Hl:=LH hl
   clear hf ex hx hl
   go_wp2_with fail
   go_ret2
   unfold RetNat
   rw [Hf.out]
   exact ⟨A,c,by rw [← Hl.out];rfl,by rw [Hl.out];exact HN.out,HB.out⟩
 · have hf:fitN x=([],2):=by unfold fitN;rw [if_neg hx]
   have Hf:=LH hf
   clear hf ex hx hl
   go_wp2_with fail
   go_ret2
   unfold RetNat
   rw [Hf.out]
   exact ⟨none,0,rfl,Nums.nil _ _ _ _ (by omega),HB.out⟩
def MulRel (w:World) (xs ys:List Nat) (i:Value) (wr:World):Prop :=
 ∃ (k:Nat) (bs:List Nat),k≤xs.length∧i = .int .i64 (k:Int)∧bs.length=xs.length+ys.length∧Lim bs∧val bs=val (xs.take k) * val ys ∧
   (∀ j,k+ys.length≤j→bs.getD j 0=0)∧Own wr w.heap.size 49 .u32 bs∧Below w.heap.size w wr
def MulRel2 (w:World) (x:Nat) (ys bs:List Nat) (i:Nat) (c q:Value) (wr:World):Prop :=
 ∃ k:Nat,k≤ys.length∧q = .int .i64 (k:Int)∧c = .int .u64 ((mulP x ys (bs.drop i) k).2:Int)∧Own wr w.heap.size 49 .u32 (mulBuf x ys bs i k)∧Below w.heap.size w wr
theorem nat_mul_ok (A1:Option Addr) (n c1:Nat) (xs:List Nat) (A2:Option Addr) (m c2:Nat) (ys:List Nat) (w:World)
 (h1:Nums .u32 w A1 n c1 xs) (h2:Nums .u32 w A2 m c2 ys) (lx:Lim xs) (ly:Lim ys) (r1:rightB xs=true) (r2:rightB ys=true) :
 Calls Tryz.prog 177 #[.slice A1 n c1, .slice A2 m c2] w (RetNat w (mulN xs ys)):=by
 obtain rfl:=h1.len
 obtain rfl:=h2.len
 have hn32:xs.length≤32:=by simp [rightB] at r1;omega
 have hm32:ys.length≤32:=by simp [rightB] at r2;omega
 have hmk:=run_make_nums (P:=Tryz.prog) 31 49 .u32 4 Tryz.underlying31 Tryz.info34 (xs.length+ys.length) (by omega) (by omega)
 have hmk':∀ w:World,(Instr.makeSlice 31 (.int .i64 ((xs.length:Int)+(ys.length:Int))) (.int .i64 ((xs.length:Int)+(ys.length:Int)))).run Tryz.prog w = .ok (.slice (some ⟨w.heap.size,0,none⟩) (xs.length+ys.length) (xs.length+ys.length)) (w.alloc (.cells (nums .u32 (List.replicate (xs.length+ys.length) 0)).toArray 49)):=hmk
 clear hmk
 have hfin:mulN xs ys=fitN (val xs * val ys):=by simp [mulN,r1,r2]
 rw [hfin]
 clear hfin
 go_enter Tryz.func177,Tryz.ntmps177
 go_wp2_with (first
  | (go_at_call 75;(with_reducible refine (nat_right _ _ _ _ _ h1).mono ?_);rintro e w' ⟨rfl,rfl⟩)
  | (go_at_call 75;(with_reducible refine (nat_right _ _ _ _ _ h2).mono ?_);rintro e w' ⟨rfl,rfl⟩))
 go_loopw [29] (MulRel w xs ys) (fun i _=>xs.length - (intOf i).toNat)
 case atStart =>
  refine ⟨0,List.replicate (xs.length+ys.length) 0,Nat.zero_le _,rfl,by simp,?_,?_,?_,Own.new _ _ _ _,(Below.refl _ _).alloc (Nat.le_refl _) _⟩
  · intro y hy
    have:=List.eq_of_mem_replicate hy
    omega
  · have:=drop_zeros_val (List.replicate (xs.length+ys.length) 0) 0 (fun i _=>by simp [List.getElem?_replicate];split <;> rfl)
    simpa [val] using this
  · intro j _
    simp [List.getElem?_replicate]
    split <;> rfl
 case round =>
  obtain ⟨i,bs,hi,rfl,hbl,hblim,hbv,hbz,hown,hbel⟩:=hrel
  have Hbl:=LH hbl
  have Hbv:=LH hbv
  have Hbz:=LH hbz
  clear hbl hbv hbz
  by_cases hlt:i < xs.length
  · obtain ⟨b1,o1,x,rfl,hb1,Hx,hc1⟩:=(h1.below hbel).get (j:=i) hlt
    have hxl:=lx.of_get Hx.out
    go_wp2
    obtain ⟨wo,rfl⟩:∃ wo:World,wo=wr:=⟨_,rfl⟩
    go_loopw [9,36] (MulRel2 w x ys bs i) (fun _ q _=>ys.length - (intOf q).toNat)
    case atStart=>exact ⟨0,Nat.zero_le _,rfl,rfl,by rw [mulBuf_zero];exact hown,hbel⟩
    case round =>
     clear hown hbel hc1
     obtain ⟨k,hk,rfl,rfl,hown,hbel⟩:=hrel
     have hcar:=mulP_carry x ys (bs.drop i) hxl ly (hblim.drop _) k
     by_cases hlt2:k < ys.length
     · obtain ⟨b2,o2,y,rfl,hb2,Hy,hc2⟩:=(h2.below hbel).get (j:=k) hlt2
       have hyl:=ly.of_get Hy.out
       have Hlb:=LH (mulBuf_len x ys bs i k (by rw [Hbl.out];omega))
       obtain ⟨z,Hz,hcz⟩:=hown.cell (i:=i+k) (by rw [Hlb.out,Hbl.out];omega)
       have hfro:=hown.frozen (i+k)
       have Hz2:Hid (bs[i+k]? = some z):=LH (by rw [← mulBuf_get x ys bs i k (by rw [Hbl.out];omega)];exact Hz.out)
       have hzl:=hblim.of_get Hz2.out
       have hb:=mul_bound hxl hyl hzl hcar
       have hxy0:(0:Int)≤(x:Int) * (y:Int):=by rw [← Int.natCast_mul];omega
       have hxy1:(x:Int) * (y:Int)+(z:Int)+((mulP x ys (bs.drop i) k).2:Int) < 18446744073709551616:=by rw [← Int.natCast_mul];omega
       have Hset:=LH (mulBuf_succ x ys bs i k (by rw [Hbl.out];omega))
       clear hb
       go_wp2
       go_roundw
       case rel =>
        refine ⟨k+1,by omega,by go_num,?_,?_,hbel.setCell (by simp) _⟩
        · have hz2:=Hz2.out
          simp only [mulP,getD_of_get_n Hy.out]
          rw [show (bs.drop i).getD k 0=z from by simp [List.getElem?_drop,hz2]]
          go_num
        · have:=hown.set_ (i+k) ((x * y+z+(mulP x ys (bs.drop i) k).2) % 4294967296)
          have hs:=Hset.out
          rw [getD_of_get_n Hy.out,getD_of_get_n Hz2.out] at hs
          rw [hs] at this
          simpa using this
       case measure=>simp [intOf];omega
     · obtain rfl:k=ys.length:=by omega
       have hrow:=mul_row x ys bs i (by rw [Hbl.out];omega) Hbz.out
       have Hrow:=LH hrow
       clear hrow
       have Hlb:=LH (mulBuf_len x ys bs i ys.length (by rw [Hbl.out];omega))
       obtain ⟨z,Hz,hcz⟩:=hown.cell (i:=i+ys.length) (by rw [Hlb.out,Hbl.out];omega)
       have hfro:=hown.frozen (i+ys.length)
       go_wp2
       go_roundw
       case rel =>
        obtain ⟨e1,e2,e3⟩:=Hrow.out
        refine ⟨i+1,_,by omega,by go_num,?_,?_,?_,e3,?_,hbel.setCell (by simp) _⟩
        · rw [e2,Hbl.out]
        · intro v hv
          rcases List.mem_or_eq_of_mem_set hv with h | h
          · exact mulBuf_lim x ys bs i ys.length hblim v h
          · omega
        · rw [e1,Hbv.out,val_take_succ,getD_of_get_n Hx.out,Nat.add_mul,Nat.mul_assoc]
        · have:=hown.set_ (i+ys.length) (mulP x ys (bs.drop i) ys.length).2
          simpa using this
       case measure=>simp [intOf];omega
  · obtain rfl:i=xs.length:=by omega
    have hval:=Hbv.out
    rw [List.take_length] at hval
    have hnums:=hown.nums (n:=xs.length+ys.length) (c:=xs.length+ys.length) Hbl.out (Nat.le_refl _) (by omega)
    have Hval:=LH hval
    clear hval
    go_wp2_with (go_at_call 207;(with_reducible refine (nat_fit _ _ _ _ _ hnums hblim).mono ?_);rintro e w' ⟨A,c,rfl,hN,hB⟩)
    go_ret2
    rw [← Hval.out]
    exact ⟨A,c,rfl,hN,below_tail hbel hB⟩
theorem nat_mul (A1:Option Addr) (n c1:Nat) (xs:List Nat) (A2:Option Addr) (m c2:Nat) (ys:List Nat) (w:World)
 (h1:Nums .u32 w A1 n c1 xs) (h2:Nums .u32 w A2 m c2 ys) (lx:Lim xs) (ly:Lim ys) :
 Calls Tryz.prog 177 #[.slice A1 n c1, .slice A2 m c2] w (RetNat w (mulN xs ys)):=by
 by_cases r1:rightB xs=true
 case neg =>
  have r1':rightB xs=false:=by simpa using r1
  have hfin:mulN xs ys=([],1):=by simp [mulN,r1']
  rw [hfin]
  clear hfin r1
  go_enter Tryz.func177,Tryz.ntmps177
  go_wp2_with (first
   | (go_at_call 75;(with_reducible refine (nat_right _ _ _ _ _ h1).mono ?_);rintro e w' ⟨rfl,rfl⟩)
   | (go_at_call 75;(with_reducible refine (nat_right _ _ _ _ _ h2).mono ?_);rintro e w' ⟨rfl,rfl⟩))
  go_ret2
  exact ⟨none,0,rfl,Nums.nil _ _ _ _ (by simp),Below.refl _ _⟩
 by_cases r2:rightB ys=true
 case neg =>
  have r2':rightB ys=false:=by simpa using r2
  have hfin:mulN xs ys=([],1):=by simp [mulN,r2']
  rw [hfin]
  clear hfin r2
  go_enter Tryz.func177,Tryz.ntmps177
  go_wp2_with (first
   | (go_at_call 75;(with_reducible refine (nat_right _ _ _ _ _ h1).mono ?_);rintro e w' ⟨rfl,rfl⟩)
   | (go_at_call 75;(with_reducible refine (nat_right _ _ _ _ _ h2).mono ?_);rintro e w' ⟨rfl,rfl⟩))
  go_ret2
  exact ⟨none,0,rfl,Nums.nil _ _ _ _ (by simp),Below.refl _ _⟩
 exact nat_mul_ok A1 n c1 xs A2 m c2 ys w h1 h2 lx ly r1 r2
end Go.Proofs.YtggbjdmpjidhgaaGreatDoor
