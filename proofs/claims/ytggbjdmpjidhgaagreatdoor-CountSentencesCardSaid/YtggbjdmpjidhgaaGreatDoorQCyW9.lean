/- the program's one, those, reach: walked. -/
import Derived.Test.YtggbjdmpjidhgaaGreatDoorQCtP4
import Derived.Test.YtggbjdmpjidhgaaGreatDoorQGrShelf
import Derived.Test.YtggbjdmpjidhgaaGreatDoorQPs8
set_option linter.unusedVariables false
set_option linter.unusedSimpArgs false
set_option maxHeartbeats 8000000
set_option maxRecDepth 100000
namespace Go.Proofs.YtggbjdmpjidhgaaGreatDoor
open Go.RowKit
theorem ofN_one (n:Int):ofN [n]=bitN n:=by simp [ofN]
theorem tr_one (n:Int) (w:World):Calls Tryz.prog 90 #[.int .i64 n] w fun e w'=>e = .returned (.int .u32 ((bitN n:Nat):Int))∧Below w.heap.size w w':=by
 have hb:=alloc_below w (.cells #[.int .i64 n] 3)
 have cO:=set_of (some ⟨w.heap.size,0,none⟩) 1 1 [n] (w.alloc (.cells #[.int .i64 n] 3)) (one_int w 3 n)
 rw [ofN_one] at cO
 have CO:=LH cO
 have Hb:=LH hb
 clear cO hb
 go_enter Tryz.func90,Tryz.ntmps90
 go_wp2_with (go_at_call 149;(with_reducible refine CO.out.mono ?_);rintro e w' ⟨rfl,rfl⟩)
 go_ret
 exact ⟨rfl,Hb.out⟩
theorem mems_get {R p:Nat} {s:Int} (h:(intsOf (memsN R))[p]? = some s):∃ k:Nat,s=(k:Int)∧(memsN R)[p]? = some k:=by
 unfold intsOf at h
 rw [List.getElem?_map] at h
 cases hk:(memsN R)[p]? with
 | none=>rw [hk] at h;cases h
 | some k=>rw [hk] at h;exact ⟨k,by injection h with h;exact h.symm,rfl⟩
theorem tr_reach (g n i:Nat) (S:List Nat) (w:World) (hT:SetT w g S) (hn:S.length=n) (hn2:n≤1000) (hi:i < n) (hs:Small S) (hI:InS S) (hTab:TabAt w) :
 Calls Tryz.prog 89 #[.slice (some ⟨g,0,none⟩) n n, .int .i64 (i:Int)] w fun e w'=>e = .returned (.int .u32 (((closeS S).getD i 0:Nat):Int))∧Below w.heap.size w w':=by
 subst hn
 have hat:=hT.at hi
 have HT:=LH hT
 have Hs:=LH hs
 have HI:=LH hI
 have HTab:=LH hTab
 have H0:=LH (ReachI.start hs hI hi)
 have hd:=HI.out
 have Hdone:=LH fun R (h:ReachI S i R) (he:moreN S R (memsN R)=R)=>ReachI.done HI.out hi h he
 generalize S.getD i 0=v0 at hat H0
 generalize (closeS S).getD i 0=cl at *
 clear hT hs hI hTab hd
 go_enter Tryz.func89,Tryz.ntmps89
 go_wp2_with fail
 go_loopw [5] (fun a wr=>∃ R:Nat,a = .int .u32 (R:Int)∧Hid (ReachI S i R)∧Hid (Below w.heap.size w wr)) (fun a _=>4294967296 - (intOf a).toNat)
 case atStart=>exact ⟨v0,rfl,H0,LH (Below.refl _ _)⟩
 case round =>
  obtain ⟨R,rfl,HR,HB⟩:=hrel
  have hlt:=HR.out.1
  have cM:=set_members R wr hlt (HTab.out.below HB.out)
  have CM:=LH cM
  have Hlen:=LH (mems_len R)
  clear cM
  go_wp2_with (go_at_call 148;(with_reducible refine CM.out.mono ?_);rintro e w2 ⟨A,c,rfl,hr,hb2⟩)
  have HB2:=LH (below_tail HB.out hb2)
  have Hr:=LH hr
  have HT2:Hid (SetT w2 g S):=LH (Blk.ext HT.out HB2.out)
  have Hnx:=LH (ReachI.next Hs.out HI.out hi HR.out)
  have Hle:=LH (moreN_le S (memsN R) R)
  clear hb2 hr hlt
  have hll:(intsOf (memsN R)).length=(memsN R).length:=intsOf_length _
  have Hll:=LH hll
  have hl32:(intsOf (memsN R)).length≤32:=by rw [hll];exact Hlen.out
  generalize hL:(intsOf (memsN R)).length=L at *
  have HL:=LH hL
  clear hL hll
  go_wp2_with fail
  go_loop [6,17] (fun m k=>∃ p:Nat,p≤L∧k = .int .i64 (p:Int)∧m = .int .u32 ((moreN S R ((memsN R).take p):Nat):Int)) (fun m k=>L - (intOf k).toNat)
  case atStart=>exact ⟨0,Nat.zero_le _,rfl,by simp [moreN]⟩
  case round =>
   obtain ⟨p,hp,rfl,rfl⟩:=hrel
   by_cases hpp:p < L
   case neg =>
    obtain rfl:p=L:=by omega
    have hall:moreN S R ((memsN R).take p)=moreN S R (memsN R):=by rw [List.take_of_length_le (by rw [← Hll.out];exact Nat.le_refl _)]
    rw [hall]
    have Hst:=Hdone.out R HR.out
    have hlt2:=Hnx.out.1
    clear hall
    generalize moreN S R (memsN R)=M at *
    by_cases heq:M=R
    · subst heq
      have hcl:=Hst (by trivial)
      clear Hst
      go_wp2_with fail
      go_ret
      exact ⟨by rw [← hcl];rfl,HB2.out⟩
    · have hne:((M:Int) == (R:Int))=false:=by rw [beq_eq_false_iff_ne];omega
      have hle:=Hle.out
      clear Hst
      go_wp2_with fail
      go_roundw
      case rel=>exact ⟨M,rfl,Hnx,HB2⟩
      case measure=>simp [intOf];omega
   case pos =>
    obtain ⟨bb,off,s,rfl,hb,Hsv,q0⟩:=Hr.out.get hpp
    obtain ⟨k,rfl,hk⟩:=mems_get Hsv.out
    have hkS:k < S.length:=((HR.out.2.2 k ((mems_mem R k).1 (List.mem_of_getElem? hk)).2)).1
    have hatk:=HT2.out.at hkS
    have hsn:moreN S R ((memsN R).take (p+1))=moreN S R ((memsN R).take p) ||| S.getD k 0:=by rw [take_snoc' hk,moreN_snoc]
    have hor:=or32 (moreN S R ((memsN R).take p)) (S.getD k 0) (moreN_lt Hs.out _ HR.out.1) (Hs.out.get k)
    generalize moreN S R ((memsN R).take p)=m0 at *
    generalize S.getD k 0=vk at *
    have Hsn:=LH hsn
    have Hk:=LH hk
    clear hsn hk
    go_wp2_with fail
    go_round
    case rel=>exact ⟨p+1,by omega,by go_num,by rw [Hsn.out]⟩
    case measure=>simp [intOf];omega

abbrev Sb (n:Nat):Type:={s:Int // -(n:Int)≤s∧s≤1000}
instance (n:Nat):Inhabited (Sb n):=⟨⟨0,by omega,by omega⟩⟩
def encB (n:Nat):Sb n→Value:=fun s => .int .i64 s.1
def BareW (W:World) (pb g n:Nat) (N:List Bool):Prop:=W.cell? ⟨pb,0,none⟩=some (.slice (some ⟨g,0,none⟩) n n)∧∀ i,i < n→W.cell? ⟨g,i,none⟩=some (.bool (N.getD i false))
theorem tr_bareS (pb g n:Nat) (N:List Bool) (s:Int) (W:World) (h:BareW W pb g n N) (hn:n≤1000) (h1:-(n:Int)≤s) (h2:s≤1000) :
 FnGives Tryz.prog 147 #[.pointer (some ⟨pb,0,none⟩)] #[.int .i64 s] (.bool (nulB N s)) W:=by
 show Calls Tryz.prog 147 #[.int .i64 s, .pointer (some ⟨pb,0,none⟩)] W _
 obtain ⟨hp,hc⟩:=h
 have Hc:=LH hc
 clear hc
 have hnl:nulB N s=(decide (s < 0) && N.getD (nonI s) false):=rfl
 have Hnl:=LH hnl
 clear hnl
 go_enter Tryz.func147,Tryz.ntmps147
 by_cases h0:s < 0
 · obtain ⟨j,hj,hnj,hw⟩:=non_place (s:=s) (n:=n) h0 h1 hn
   have c0:=Hc.out j hj
   rw [← hnj] at c0
   have hd:decide (s < 0)=true:=decide_eq_true h0
   generalize N.getD (nonI s) false=b at *
   rw [hnj] at c0
   go_wp2_with fail
   go_ret
   exact ⟨by rw [Hnl.out,hd];rfl,0,rfl⟩
 · have hd:decide (s < 0)=false:=decide_eq_false h0
   generalize N.getD (nonI s) false=b at *
   go_wp2_with fail
   go_ret
   exact ⟨by rw [Hnl.out,hd];rfl,0,rfl⟩
theorem BareW.ext {w W:World} {pb g n:Nat} {N:List Bool} (h:BareW w pb g n N) (hp:pb < w.heap.size) (hg:g < w.heap.size) (hb:Below w.heap.size w W):BareW W pb g n N :=
 ⟨(hb.cell (p:=⟨pb,0,none⟩) hp).trans h.1,fun i hi=>(hb.cell (p:=⟨g,i,none⟩) hg).trans (h.2 i hi)⟩
theorem pred_bare {w:World} {pb g n:Nat} {N:List Bool} (h:BareW w pb g n N) (hp:pb < w.heap.size) (hg:g < w.heap.size) (hn:n≤1000) :
 PredAt Tryz.prog 147 #[.pointer (some ⟨pb,0,none⟩)] (encB n) (fun s=>nulB N s.1) w :=
 fun W x hb=>tr_bareS pb g n N x.1 W (h.ext hp hg hb) hn x.2.1 x.2.2
open Go.Lib Go.Sort in
theorem over_bare {w:World} {pb g n:Nat} {N:List Bool} (h:BareW w pb g n N) (hp:pb < w.heap.size) (hg:g < w.heap.size) (hn:n≤1000) {blk:Nat} (off size:Nat) (hpb:pb ≠ blk) (hgb:g ≠ blk) :
 PredOver Tryz.prog 147 #[.pointer (some ⟨pb,0,none⟩)] (encB n) (fun s=>nulB N s.1) blk off size w :=
 fun k os dk x _=>tr_bareS pb g n N x.1 _ ⟨by
  unfold sortWorld
  rw [cell?_grow _ _ _ (by show pb < (putRow _ _ _ _ _).heap.size;rw [size_putRow];exact hp),cell?_putRow_other _ _ blk off _ _ (Or.inl hpb)]
  exact h.1,fun i hi=>by
  unfold sortWorld
  rw [cell?_grow _ _ _ (by show g < (putRow _ _ _ _ _).heap.size;rw [size_putRow];exact hg),cell?_putRow_other _ _ blk off _ _ (Or.inl hgb)]
  exact h.2 i hi⟩ hn x.2.1 x.2.2
theorem tr_Clone (A:Option Addr) (n c:Nat) (l:List Int) (w:World) (h:Ints .i64 w A n c l) (hn:n≤100000) :
 Calls Tryz.prog 70 #[.slice A n c] w fun e w'=>∃ v',e = .returned v'∧w'.ownsRow w.heap.size 3 1 v' n (ints .i64 l)∧Below w.heap.size w w':=by
 obtain rfl:=h.len
 rcases A with _ | a
 · have hl:l=[]:=by
    rcases l with _ | ⟨x,l⟩
    · rfl
    · obtain ⟨bb,off,s,he,_⟩:=h.get (j:=0) (by simp)
      cases he
   subst hl
   refine (Tryz.slices_Clone_int_nil 0 c w).mono ?_
   rintro e w' ⟨rfl,rfl⟩
   exact ⟨_,rfl,World.ownsRow_nil _ _ _ _,Below.refl _ _⟩
 · by_cases hl:l=[]
   · subst hl
     refine (Tryz.slices_Clone_int_zero a c w).mono ?_
     rintro e w' ⟨v',rfl,ho,_,hb⟩
     exact ⟨_,rfl,ho,hb⟩
   · have hl0:0 < l.length:=List.length_pos_iff.2 hl
     obtain ⟨bb,off,s,he,_⟩:=h.get hl0
     injection he with he
     subst he
     have hc:∀ j,j < l.length→w.cell? ⟨bb,off+j,none⟩=some (.int .i64 (l.getD j 0)):=fun j hj=>by
      obtain ⟨b2,o2,s2,he2,_,Hs2,q2⟩:=h.get hj
      injection he2 with he2
      injection he2 with e1 e2 e3
      subst e1
      subst e2
      rw [List.getD_eq_getElem?_getD,Hs2.out]
      exact q2
     refine (Tryz.slices_Clone_int bb off l.length c l w (Nat.le_refl _) (by omega) hc).mono ?_
     rintro e w' ⟨v',rfl,ho,_,hb⟩
     rw [List.take_of_length_le (Nat.le_refl _)] at ho
     exact ⟨_,rfl,ho,hb⟩
theorem put_grown {n:Nat} (w:World) (q g off:Nat) (d:Array (Sb n)):w.grownBy (Sort.putRow (encB n) (Sort.ahead w q) g off d) (some g):=by
 refine ⟨rfl,rfl,rfl,by simp,fun k hk hne=>?_⟩
 have:g ≠ k:=fun e=>hne (by rw [e])
 simp [Sort.putRow,Sort.mapBlock,Sort.ahead,Array.getElem?_modify,this]
section
variable {P:Program}
def StepsU (P:Program) (J:Array Bool→Act→World→Prop):Nat→List Oper→Prop
 | _,[]=>True
 | i,o::rest=>(o.guard=none∧∀ (Q:Exit→Act→World→Prop) (listed:Array Bool) (a:Act) (w:World),J listed a w→listed.getD i true=false→(∀ e ∈ o.after,Region.binds .any e=true→listed.getD e.on false=true) →
    ∀ K:Act→World→Prop,(∀ a' w',J (listed.setIfInBounds i true) a' w'→K a' w')→o.wp P a w K Q)∧StepsU P J (i+1) rest
theorem StepsU.nil {J:Array Bool→Act→World→Prop} {i:Nat}:StepsU P J i []:=trivial
theorem StepsU.cons {J:Array Bool→Act→World→Prop} {i:Nat} {o:Oper} {rest:List Oper} (hg:o.guard=none)
 (h:∀ (Q:Exit→Act→World→Prop) (listed:Array Bool) (a:Act) (w:World),J listed a w→listed.getD i true=false→(∀ e ∈ o.after,Region.binds .any e=true→listed.getD e.on false=true) →
   ∀ K:Act→World→Prop,(∀ a' w',J (listed.setIfInBounds i true) a' w'→K a' w')→o.wp P a w K Q)
 (t:StepsU P J (i+1) rest):StepsU P J i (o::rest):=⟨⟨hg,h⟩,t⟩
theorem StepsU.inv {J:Array Bool→Act→World→Prop} {ops:Array Oper} {Q:Exit→Act→World→Prop}:∀ {l:List Oper} {i:Nat},StepsU P J i l→InvSteps P ops Q J i l
 | [],_,_=>trivial
 | o::l,i,h=>by
   refine ⟨fun listed a w hJ hun hpre K hK=>?_,StepsU.inv h.2⟩
   have e:Region.wanted o (yielded ops a.tmps)=true:=by unfold Region.wanted;rw [h.1.1]
   rw [if_pos e]
   exact h.1.2 Q listed a w hJ hun hpre K hK
theorem wp_region_invU {id:Nat} {Q:Exit→Act→World→Prop} {a:Act} {w:World} {l:List Oper} (J:Array Bool→Act→World→Prop) (hm:P.follows .mixedOrders=true) (hb:backB l.toArray=true)
 (h0:J (Array.replicate l.length false) a w.drew) (hs:StepsU P J 0 l)
 (he:∀ (listed:Array Bool) (a:Act) (w:World),J listed a w→(∀ i,i < l.length→listed.getD i true=true)→Q .normal a w):(Code.region id l.toArray true).wp P Q a w :=
 wp_region_inv J hm hb h0 hs.inv he
end
end Go.Proofs.YtggbjdmpjidhgaaGreatDoor
