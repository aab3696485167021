/- what is of use of a grammar, the program's side: numbers in a map; the copy of terminals; what the loops keep. -/
import Derived.Test.YtggbjdmpjidhgaaGreatDoorQCyR2
import Derived.Test.YtggbjdmpjidhgaaGreatDoorQCyW9
import Derived.Test.YtggbjdmpjidhgaaGreatDoorQPs8
import Derived.Maps.OwnSet
set_option linter.unusedVariables false
set_option linter.unusedSimpArgs false
set_option maxHeartbeats 8000000
set_option maxRecDepth 100000
namespace Go.Proofs.YtggbjdmpjidhgaaGreatDoor
open Go.RowKit
open Go.Maps (Keyed IsMap Tidy)
def nKey (i:Nat):Lit := .int .i64 (i:Int)
theorem nKey_ne {i j:Nat} (h:i ≠ j):nKey i ≠ nKey j:=by
 unfold nKey
 intro e
 injection e with _ e
 exact h (by omega)
theorem nKey_lit (i:Nat):WideAt.IsKeyLit (nKey i):=by unfold nKey;trivial
def numR:List Nat→DataW Unit
 | [] => .map []
 | i::r=>(numR r).put (nKey i) (.lit (.int .i64 (r.length:Int)))
def numD (old:List Nat):DataW Unit:=numR old.reverse
theorem numD_snoc (old:List Nat) (i:Nat):numD (old++[i])=(numD old).put (nKey i) (.lit (.int .i64 (old.length:Int))):=by
 unfold numD
 rw [List.reverse_append,List.reverse_singleton,List.singleton_append]
 show (numR old.reverse).put (nKey i) (.lit (.int .i64 (old.reverse.length:Int)))=_
 rw [List.length_reverse]
theorem isMap_numR:∀ r:List Nat,IsMap (numR r)
 | []=>Maps.isMap_empty
 | i::r=>(isMap_numR r).put _ _
theorem has_numR (i:Nat):∀ r:List Nat,Maps.has (numR r) (nKey i)=decide (i ∈ r)
 | []=>by simp [numR,Maps.has_eq]
 | j::r=>by
   show Maps.has ((numR r).put (nKey j) _) (nKey i)=_
   by_cases h:i=j
   · subst h
     rw [Maps.has_put_same (isMap_numR r) (nKey_lit i)]
     simp
   · rw [Maps.has_put_other (nKey_ne h),has_numR i r]
     simp [h]
theorem has_numD (old:List Nat) (i:Nat):Maps.has (numD old) (nKey i)=decide (i ∈ old):=by
 unfold numD
 rw [has_numR]
 simp
theorem toI_more {o:List Nat} {i j:Nat} (hj:j ∉ o) (h:i ≠ j):toI (o++[j]) i=toI o i:=by
 have e:=toL_set (n:=i+j+1) (o:=o) (i:=j) hj
 have h1:=toL_get (n:=i+j+1) (o:=o++[j]) (i:=i) (by omega)
 rw [← e,List.getElem?_set_ne (by omega),toL_get (by omega)] at h1
 exact (Option.some.inj h1).symm
theorem at_numD (z:DataW Unit) (i:Nat):∀ old:List Nat,old.Nodup→i ∈ old→(numD old).atKey (nKey i) z = .lit (.int .i64 (toI old i)):=by
 intro old
 induction old using snoc_ind with
 | h0=>intro _ h;cases h
 | h1 o j ih =>
   intro hn hm
   rw [numD_snoc]
   rw [List.nodup_append] at hn
   obtain ⟨hn1,_,hn3⟩:=hn
   have hj:j ∉ o:=fun h=>hn3 j h j (by simp) rfl
   by_cases h:i=j
   · subst h
     rw [Maps.atKey_put_same (by unfold numD;exact isMap_numR _) (nKey_lit i),toI_last hj]
   · rw [Maps.atKey_put_other (nKey_ne h),toI_more hj h]
     refine ih hn1 ?_
     rw [List.mem_append,List.mem_singleton] at hm
     exact hm.resolve_right h
theorem Tryz.keyInt:Keyed Tryz.prog 3:=Maps.int_keyed Tryz.underlying3
theorem Tryz.zeroInt (w:World):(zeroValue 3).run Tryz.prog w = .ok (.int .i64 0) w:=by kernel_rfl
theorem key_num (i:Nat) (hi:i≤1000):keyOf Tryz.prog 3 (.int .i64 (i:Int))=some (nKey i):=Maps.keyOf_int_mk Tryz.underlying3 (WalkArith.wf_i64 (by omega))
def NumM (w:World) (g:Nat) (old:List Nat):Prop:=w.ownsMap Tryz.prog 3 (plainElem (H:=Unit) Tryz.prog 3) g old.length (numD old)
theorem tr_CloneT (A:Option Addr) (n c:Nat) (ts:List Trm) (w:World) (h:Trms w A n c ts) (hn:n≤1000) :
 Calls Tryz.prog 107 #[.slice A n c] w fun e w'=>Below w.heap.size w w'∧∃ A' c',e = .returned (.slice A' n c')∧w'.ownsRow w.heap.size 91 3 (.slice A' n c') n (trmCs ts):=by
 have hlen:=h.len
 have hcap:=h.cap
 have HRt:Hid ((Tryz.prog.info? 91).map (fun i=>(i.zero,i.size,i.bytes))=some (some (.agg #[.string ByteArray.empty, .int .i64 0, .int .i64 0]),3,32)):=LH (by kernel_rfl)
 have Hown0:Hid ((w.alloc (.cells #[] 91)).ownsRow w.heap.size 91 3 (.slice (some ⟨w.heap.size,0,none⟩) 0 0) 0 []):=LH (World.ownsRow_made w #[] 0 (Nat.le_refl _) (Nat.zero_le _) rfl)
 have HB0:=LH (alloc_below w (.cells #[] 91))
 have Htm:=LH (trms_cells (h.below HB0.out))
 have Hlt:Hid ((trmCs ts).length=n * 3):=LH (by rw [trmCs_len,hlen])
 have hs0:(w.alloc (.cells #[] 91)).heap.size=w.heap.size+1:=alloc_size _ _
 rcases A with _ | a
 · obtain rfl:n=0:=(trms_cells h).1 rfl
   have hts:ts=[]:=List.eq_nil_of_length_eq_zero hlen
   subst hts
   clear Htm Hlt Hown0 HB0 HRt hs0 h hlen
   go_enter Tryz.func107,Tryz.ntmps107
   have he:∀ w:World,(binOp .eql 22 (.slice none 0 c) (.slice none 0 0)).run Tryz.prog w = .ok (.bool true) w:=fun _=>rfl
   go_wp2_with fail
   go_ret
   exact ⟨Below.refl _ _,none,0,rfl,World.ownsRow_nil _ _ _ _⟩
 · clear h hlen
   go_enter Tryz.func107,Tryz.ntmps107
   have he:∀ w:World,(binOp .eql 22 (.slice (some a) n c) (.slice none 0 0)).run Tryz.prog w = .ok (.bool false) w:=fun _=>rfl
   go_wp2_with (at_builtin;refine wpl_appendN rfl _ _ 22 rfl w.heap.size 91 _ 3 32 Tryz.underlying22 HRt.out (by decide) (by decide) (some ⟨w.heap.size,0,none⟩) 0 0 [] rfl Hown0.out (some a) n c (trmCs ts) Hlt.out rfl Htm.out.1 Htm.out.2 (trmCs_one _) (by omega) (by omega) (by omega) ?_;intro A4 c4 w9 ho hg ha;simp only [Nat.zero_add,List.nil_append] at ho hg ha)
   go_ret
   exact ⟨HB0.out.trans (grown_is_below hg HB0.out.size (Nat.le_refl _)),A4,c4,rfl,ho⟩
structure Red2M (W0:World) (gO gM:Nat) (v1:Value) (G:Gr) (w:World) (Ak:Option Addr) (ck:Nat) (An:Option Addr) (cn:Nat) (ks old:List Nat):Prop where
 off:Off (fun k=>k=gM∨k=gO) W0 w
 num:NumM w gM old
 out:Blk w gO 26 #[v1, .slice An old.length cn, .slice none 0 0, .int .i64 0]
 kept:w.ownsRow W0.heap.size 3 1 (.slice Ak ks.length ck) ks.length (ints .i64 (intsOf ks))
 nons:w.ownsRow W0.heap.size 9 1 (.slice An old.length cn) old.length (old.map fun i=>Value.string (nameO G i))
theorem NumM.block {w w':World} {g:Nat} {old:List Nat} (h:NumM w g old) (hb:w'.heap[g]? = w.heap[g]?):NumM w' g old:=by
 obtain ⟨es,clock,hh,r⟩:=h
 exact ⟨es,clock,hb.trans hh,r⟩
theorem Red2M.below {W0:World} {gO gM:Nat} {v1:Value} {G:Gr} {w w':World} {Ak:Option Addr} {ck:Nat} {An:Option Addr} {cn:Nat} {ks old:List Nat} (r:Red2M W0 gO gM v1 G w Ak ck An cn ks old) (hb:Below w.heap.size w w'):Red2M W0 gO gM v1 G w' Ak ck An cn ks old :=
 ⟨r.off.trans (Off.of_below (S:=fun k=>k=gM∨k=gO) hb) fun _ _ h=>h,r.num.block (hb.block gM r.num.lt),Blk.ext r.out hb,own_keep r.kept fun b _ hl=>hb.block b hl,own_keep r.nons fun b _ hl=>hb.block b hl⟩
theorem Red2M.put {W0:World} {gO gM:Nat} {v1:Value} {G:Gr} {w w1:World} {Ak:Option Addr} {ck:Nat} {An:Option Addr} {cn:Nat} {ks old:List Nat} (r:Red2M W0 gO gM v1 G w Ak ck An cn ks old)
 (hM:gM < W0.heap.size) (hO:gO < W0.heap.size) (j:Nat) (A':Option Addr) (c':Nat)
 (ho:w1.ownsRow W0.heap.size 3 1 (.slice A' (ks.length+1) c') (ks.length+1) (ints .i64 (intsOf ks)++[.int .i64 (j:Int)])) (hg:w.grownBy w1 (Value.slice Ak ks.length ck).ownBlock) :
 Red2M W0 gO gM v1 G w1 A' c' An cn (ks++[j]) old:=by
 have hx:=Off.of_grown hg
 have hk:∀ b,(Value.slice Ak ks.length ck).ownBlock=some b→W0.heap.size≤b:=fun b hb=>(r.kept.lt b hb).1
 refine ⟨r.off.trans hx fun k hk' h=>?_,r.num.block (hx.keep gM r.num.lt fun h=>?_),hx.blk r.out fun h=>?_,?_,hx.row r.nons fun b hb h=>own_apart r.kept r.nons (by decide) h hb⟩
 · have:=hk k h;omega
 · have:=hk gM h;omega
 · have:=hk gO h;omega
 · have e:ints .i64 (intsOf (ks++[j]))=ints .i64 (intsOf ks)++[.int .i64 (j:Int)]:=by simp [ints,intsOf]
   rw [e,List.length_append,List.length_singleton]
   exact ho
structure Mid2M (W0:World) (gO gM:Nat) (v1:Value) (G:Gr) (w:World) (Ak:Option Addr) (ck:Nat) (An:Option Addr) (cn:Nat) (ks old:List Nat) (l:Nat):Prop where
 off:Off (fun k=>k=gM∨k=gO) W0 w
 num:NumM w gM (old++[l])
 out:Blk w gO 26 #[v1, .slice An old.length cn, .slice none 0 0, .int .i64 0]
 kept:w.ownsRow W0.heap.size 3 1 (.slice Ak ks.length ck) ks.length (ints .i64 (intsOf ks))
 nons:w.ownsRow W0.heap.size 9 1 (.slice An old.length cn) old.length (old.map fun i=>Value.string (nameO G i))
theorem Red2M.number {W0:World} {gO gM:Nat} {v1:Value} {G:Gr} {w w1:World} {Ak:Option Addr} {ck:Nat} {An:Option Addr} {cn:Nat} {ks old:List Nat} (r:Red2M W0 gO gM v1 G w Ak ck An cn ks old)
 (hM:gM < W0.heap.size) (hO:gO < W0.heap.size) (hMO:gM ≠ gO) {l:Nat} (hl:l ∉ old)
 (ho:w1.ownsMap Tryz.prog 3 (plainElem (H:=Unit) Tryz.prog 3) gM (old.length+1) ((numD old).put (nKey l) (.lit (.int .i64 (old.length:Int))))) (hg:w.grownBy w1 (some gM)) :
 Mid2M W0 gO gM v1 G w1 Ak ck An cn ks old l:=by
 have hx:=Off.of_grown hg
 refine ⟨r.off.trans hx fun k _ h=>?_,?_,hx.blk r.out fun h=>?_,hx.row r.kept fun b hb h=>?_,hx.row r.nons fun b hb h=>?_⟩
 · injection h with h;exact .inl h.symm
 · unfold NumM
   rw [numD_snoc,List.length_append,List.length_singleton]
   exact ho
 · injection h with h;exact hMO h
 · injection h with h;have:=(r.kept.lt b hb).1;omega
 · injection h with h;have:=(r.nons.lt b hb).1;omega
theorem Mid2M.below {W0:World} {gO gM:Nat} {v1:Value} {G:Gr} {w w':World} {Ak:Option Addr} {ck:Nat} {An:Option Addr} {cn:Nat} {ks old:List Nat} {l:Nat} (r:Mid2M W0 gO gM v1 G w Ak ck An cn ks old l) (hb:Below w.heap.size w w'):Mid2M W0 gO gM v1 G w' Ak ck An cn ks old l :=
 ⟨r.off.trans (Off.of_below (S:=fun k=>k=gM∨k=gO) hb) fun _ _ h=>h,r.num.block (hb.block gM r.num.lt),Blk.ext r.out hb,own_keep r.kept fun b _ hl=>hb.block b hl,own_keep r.nons fun b _ hl=>hb.block b hl⟩
theorem Mid2M.name {W0:World} {gO gM:Nat} {v1:Value} {G:Gr} {w w1:World} {Ak:Option Addr} {ck:Nat} {An:Option Addr} {cn:Nat} {ks old:List Nat} {l:Nat} (r:Mid2M W0 gO gM v1 G w Ak ck An cn ks old l)
 (hM:gM < W0.heap.size) (hO:gO < W0.heap.size) (hMO:gM ≠ gO) (A':Option Addr) (c':Nat)
 (ho:w1.ownsRow W0.heap.size 9 1 (.slice A' (old.length+1) c') (old.length+1) ((old.map fun i=>Value.string (nameO G i))++[.string (nameO G l)]))
 (hg:w.grownBy w1 (Value.slice An old.length cn).ownBlock) :
 Red2M W0 gO gM v1 G (w1.setCell ⟨gO,1,none⟩ (.slice A' (old.length+1) c')) Ak ck A' c' ks (old++[l]):=by
 have hx:=Off.of_grown hg
 have hz:=Off.of_set w1 gO 1 (.slice A' (old.length+1) c')
 have hn:∀ b,(Value.slice An old.length cn).ownBlock=some b→W0.heap.size≤b:=fun b hb=>(r.nons.lt b hb).1
 have hk:∀ b,(Value.slice Ak ks.length ck).ownBlock=some b→W0.heap.size≤b:=fun b hb=>(r.kept.lt b hb).1
 have hapart:∀ b,(Value.slice Ak ks.length ck).ownBlock=some b→(Value.slice An old.length cn).ownBlock=some b→False:=fun b h1 h2=>own_apart r.kept r.nons (by decide) h1 h2
 refine ⟨(r.off.trans hx fun k hk' h=>?_).trans hz fun k _ h => .inr h,(r.num.block (hx.keep gM r.num.lt fun h=>?_)).block (hz.keep gM (Nat.lt_of_lt_of_le r.num.lt hx.size) hMO),?_,?_,?_⟩
 · have:=hn k h;omega
 · have:=hn gM h;omega
 · have h1:=hx.blk r.out fun h=>by have:=hn gO h;omega
   have:=Blk.set h1 1 (.slice A' (old.length+1) c')
   rw [List.length_append,List.length_singleton]
   exact this
 · exact hz.row (hx.row r.kept fun b hb h=>hapart b hb h) fun b hb h=>by have:=hk b hb;omega
 · rw [List.length_append,List.length_singleton,List.map_append]
   refine hz.row ho fun b hb h=>?_
   have:=(ho.lt b hb).1
   omega
end Go.Proofs.YtggbjdmpjidhgaaGreatDoor
