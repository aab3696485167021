/- words that the packed base lacks. -/
import Derived.Test.YtggbjdmpjidhgaaGreatDoorQCtP4
import Derived.Test.YtggbjdmpjidhgaaGreatDoorQCtW11
import Derived.Test.YtggbjdmpjidhgaaGreatDoorQCtA
import Derived.Test.YtggbjdmpjidhgaaGreatDoorQEntryI
set_option linter.unusedVariables false
set_option linter.unusedSimpArgs false
set_option maxHeartbeats 8000000
set_option maxRecDepth 100000
namespace Go.Proofs.YtggbjdmpjidhgaaGreatDoor
open Go.RowKit
set_option maxHeartbeats 8000000
set_option maxRecDepth 100000
section
variable {G:Gr}
end
set_option maxHeartbeats 8000000
set_option maxRecDepth 100000
open Ieee
def IsN (d:Datum) (n:Nat):Prop:=∃ k:Nat,d = .number false (n * 2 ^ k) (-(k:Int))
theorem IsN.zero (k:Nat):IsN (.number false 0 (-(k:Int))) 0:=⟨k,by rw [Nat.zero_mul]⟩
theorem Own.drew {w:World} {g:Nat} {t:TypeId} {k:IntKind} {zs:List Nat} (h:Own w g t k zs):Own w.drew g t k zs:=h
theorem Nums.drew {k:IntKind} {w:World} {A:Option Addr} {n c:Nat} {xs:List Nat} (h:Nums k w A n c xs):Nums k w.drew A n c xs:=h
theorem Same.drew {a w:World} (h:Same a w):Same a w.drew:=h.drewN 1
theorem Ints.drew {k:IntKind} {w:World} {A:Option Addr} {n c:Nat} {zs:List Int} (h:Ints k w A n c zs):Ints k w.drew A n c zs:=h
section
variable {P:Program} {w:World}
end
theorem forest_by_split (T:Int→Nat→Nat) (s:Int) (l:List Int) (n:Nat):forestT T (s::l) n=splitN T s l n 0 (n+1):=by
 simp only [splitN,Nat.zero_add]
 rfl
theorem forest_single (T:Int→Nat→Nat) (s:Int) (n:Nat):forestT T [s] n=T s n:=by
 have h0:∀ d,d≤n→splitN T s [] n 0 d=0:=by
  intro d
  induction d with
  | zero=>intro _;rfl
  | succ d ih =>
    intro hd
    rw [splitN_succ,ih (by omega),Nat.zero_add]
    have h1:forestT T [] (n - (0+d))=0:=by unfold forestT;rw [if_neg (by omega)]
    rw [h1,Nat.mul_zero]
 rw [forest_by_split,splitN_succ,h0 n (Nat.le_refl _),Nat.zero_add,Nat.zero_add,Nat.sub_self]
 show T s n * (if 0=0 then 1 else 0)=_
 rw [if_pos rfl,Nat.mul_one]
structure Told22 (G:Gr):Prop where
 red:isRed G=true
 cyc:cycG G=0
theorem ofN_fit {G:Gr} (hT:Told22 G) {l:List Int} {n:Nat} (hl:l.length≤6) (hn:n≤10) (hh:∀ s ∈ l,G.has s=true):ofN22 G l (n:Int)=fitN (forestT (treeN G) l n):=by
 unfold ofN22
 rw [if_neg,if_neg (by rw [hT.cyc];exact fun h=>h rfl),Int.toNat_natCast]
 rintro (h | h | h | h | ⟨s,hs,h⟩)
 · rw [hT.red] at h;cases h
 · omega
 · omega
 · omega
 · rw [hh s hs] at h;cases h
theorem val_of {w:World} {A:Option Addr} {n c x:Nat} (hx:x < big) (h:Nums .u32 w A n c (limbs x)):ValN w A n c false x:=⟨by rw [capV_small hx],by rw [capV_small hx];exact h⟩
theorem val_noInt {w:World} {g:Nat} {t:TypeId} {A:Option Addr} {n c:Nat} {b:Bool} (h:Blk w g t #[.slice A n c, .bool b]):NoInt w g:=by
 intro o k z hc
 rw [h.cell o] at hc
 rcases o with _ | _ | o
 · simp at hc
 · simp at hc
 · simp at hc
theorem two_set {w W3:World} {gS:Nat} {t:TypeId} {A A':Option Addr} {n c n' c':Nat} {b b':Bool} (hB:Blk w gS t #[.slice A n c, .bool b]) (h3:Below gS W3 w) {z:Nat} (hv:ValN w A' n' c' b' z) :
 Blk ((w.setCell ⟨gS,0,none⟩ (.slice A' n' c')).setCell ⟨gS,1,none⟩ (.bool b')) gS t #[.slice A' n' c', .bool b']∧ValN ((w.setCell ⟨gS,0,none⟩ (.slice A' n' c')).setCell ⟨gS,1,none⟩ (.bool b')) A' n' c' b' z∧Below gS W3 ((w.setCell ⟨gS,0,none⟩ (.slice A' n' c')).setCell ⟨gS,1,none⟩ (.bool b')):=by
 have h1:Blk (w.setCell ⟨gS,0,none⟩ (.slice A' n' c')) gS t #[.slice A' n' c', .bool b]:=hB.set 0 _
 have o1:=Off.of_set w gS 0 (.slice A' n' c')
 have o2:=Off.of_set (w.setCell ⟨gS,0,none⟩ (.slice A' n' c')) gS 1 (.bool b')
 have k1:IntKeep w (w.setCell ⟨gS,0,none⟩ (.slice A' n' c')):=IntKeep.of_off o1 fun g hg=>by subst hg;exact val_noInt hB
 have k2:IntKeep (w.setCell ⟨gS,0,none⟩ (.slice A' n' c')) ((w.setCell ⟨gS,0,none⟩ (.slice A' n' c')).setCell ⟨gS,1,none⟩ (.bool b')):=IntKeep.of_off o2 fun g hg=>by subst hg;exact val_noInt h1
 refine ⟨h1.set 1 _,hv.kept (k1.trans k2),(h3.trans (o1.is_below (Nat.le_of_lt hB.lt) fun k hk=>?_)).trans (o2.is_below (Nat.le_of_lt h1.lt) fun k hk=>?_)⟩
 · exact Nat.le_of_eq hk.symm
 · exact Nat.le_of_eq hk.symm
theorem u8_natC {a:Int} (h:(Lit.int .u8 a).wf=true):∃ n:Nat,a=(n:Int)∧n < 256:=by
 have h0:0≤a∧a≤255:=by
  simpa [Lit.wf,IntKind.min,IntKind.max,IntKind.bits,IntKind.signed] using h
 exact ⟨a.toNat,by omega,by omega⟩
theorem rules_part {T:Int→Nat→Nat} {rs:List Rul} {j:Nat} {r:Rul} (hr:rs[j]? = some r) {i:Nat} (hl:r.left.toNat=i) (n:Nat):forestT T r.right n≤rulesT T rs i n:=by
 have h1:=rulesT_take (T:=T) hr i n
 rw [if_pos hl] at h1
 have h2:∀ d,rulesT T (rs.take (j+1)) i n≤rulesT T (rs.take (j+1+d)) i n:=by
  intro d
  induction d with
  | zero=>exact Nat.le_refl _
  | succ d ih =>
    refine Nat.le_trans ih ?_
    cases hx:rs[j+1+d]? with
    | none =>
      have hl:rs.length≤j+1+d:=List.getElem?_eq_none_iff.1 hx
      rw [← Nat.add_assoc,List.take_of_length_le hl,List.take_of_length_le (by omega)]
      exact Nat.le_refl _
    | some x=>rw [← Nat.add_assoc,rulesT_take hx];exact Nat.le_add_right _ _
 have h3:=h2 rs.length
 rw [List.take_of_length_le (show rs.length≤j+1+rs.length by omega)] at h3
 omega
theorem countRules_walk (h:GH) (G:Gr) (x y:Int) (w:World) (hgi:GrIn w h G) (hx:(Lit.int .u8 x).wf=true) (hy:(Lit.int .u8 y).wf=true) (hTab:TabAt w) :
 Calls Tryz.prog 6 #[GV h G.start, .int .u8 x, .int .u8 y] w fun e w'=>e = .returned (.bool true)∧Below w.heap.size w w':=by
 obtain ⟨x0,rfl,hx0⟩:=u8_natC hx
 obtain ⟨n0,rfl,hn0⟩:=u8_natC hy
 obtain ⟨hg,hs,hst⟩:=hgi
 obtain ⟨a1,n1,c1,a2,n2,c2,a3,n3,c3⟩:=h
 have e1:G.terms.length=n1:=hg.terms.len
 have e2:G.nons.length=n2:=hg.nons.len
 have e3:G.rules.length=n3:=hg.rules.len
 have hB0:=alloc_below w (.cells #[.slice a1 n1 c1, .slice a2 n2 c2, .slice a3 n3 c3, .int .i64 G.start] 26)
 have hbox:=GBox.new w 26 ⟨a1,n1,c1,a2,n2,c2,a3,n3,c3⟩ G.start
 have CA:=Lib.hid alive22
 have Hg:=Lib.hid hg
 have Hs:=Lib.hid hs
 have HT:=Lib.hid hTab
 clear hst hg hs hx hy hTab
 go_enter Tryz.func6,Tryz.ntmps6
 go_wp2_with fail
 generalize w.alloc (.cells #[.slice a1 n1 c1, .slice a2 n2 c2, .slice a3 n3 c3, .int .i64 G.start] 26)=W0 at *
 (with_reducible refine (CA.out W0 (HT.out.below hB0)).mono ?_)
 rintro e W1 ⟨rfl,hb1⟩
 have hB1:=below_tail hB0 hb1
 have hbx1:=hbox.below hb1
 have ⟨y5,y0,y1,y2,y3⟩:=hbx1
 simp only [] at y0 y1 y2 y3
 have CG:=Lib.hid (rf_great ⟨a1,n1,c1,a2,n2,c2,a3,n3,c3⟩ G W1 (Hg.out.below hB1))
 have HB1:=Lib.hid hB1
 have Hbx1:=Lib.hid hbx1
 clear hbox hbx1 hb1 hB0 hB1
 rcases hgr:G.great with _ | _
 case true =>
  rw [hgr] at CG
  clear hgr
  go_wp2_with (go_at_call 14;(with_reducible refine CG.out.mono ?_);rintro e W2 ⟨rfl,hb2⟩)
  go_ret
  exact ⟨rfl,below_tail HB1.out hb2⟩
 obtain ⟨l1,l2,l3,_⟩:=great_falseC hgr
 rw [e1] at l1
 rw [e2] at l2
 rw [e3] at l3
 rw [hgr] at CG
 clear hgr
 have CI:Hid (∀ X,Below W1.heap.size W1 X→Calls Tryz.prog 27 #[GV ⟨a1,n1,c1,a2,n2,c2,a3,n3,c3⟩ G.start] X fun e w'=>e = .returned (.bool (isRed G))∧Below X.heap.size X w'):=Lib.hid fun X hb=>rf_Is ⟨a1,n1,c1,a2,n2,c2,a3,n3,c3⟩ G X ((Hg.out.below HB1.out).below hb) (by simp only [];omega) (by simp only [];omega) (by simp only [];omega)
 rcases hri:isRed G with _ | _
 case false =>
  rw [hri] at CI
  clear hri
  go_wp2_with (first
   | (go_at_call 14
      (with_reducible refine CG.out.mono ?_)
      rintro e W2 ⟨rfl,hb2⟩
      have HB2:=Lib.hid (below_tail HB1.out hb2)
      have CI2:=Lib.hid (CI.out W2 hb2)
      obtain ⟨x5,x0,x1,x2,x3⟩:=Hbx1.out.below hb2
      simp only [] at x0 x1 x2 x3
      clear hb2)
   | (go_at_call 27;(with_reducible refine CI2.out.mono ?_);rintro e W3 ⟨rfl,hb3⟩))
  go_ret
  exact ⟨rfl,below_tail HB2.out hb3⟩
 rw [hri] at CI
 obtain ⟨hok,hid'⟩:=isRed_iff.1 hri
 have hrt:G.right=true:=by unfold redOK at hok;rw [Bool.and_eq_true] at hok;exact hok.1
 have hfit:=Gr.fits hrt
 have hn2:0 < n2:=by have:=hfit.n2;omega
 have Hri:=Lib.hid hri
 have Hfit:=Lib.hid hfit
 have E1:=Lib.hid e1
 have E2:=Lib.hid e2
 have E3:=Lib.hid e3
 obtain ⟨a,ha,haN⟩:∃ a:Nat,(x0:Int) % (n2:Int)=(a:Int)∧a < n2:=⟨x0 % n2,by omega,Nat.mod_lt _ hn2⟩
 obtain ⟨k,hk,hk7⟩:∃ k:Nat,(n0:Int) % 8=(k:Int)∧k≤7:=⟨n0 % 8,by omega,by omega⟩
 have hn2z:((n2:Int) == 0)=false:=by rw [beq_eq_false_iff_ne];omega
 have hn2y:¬ ((n2:Int)=0):=by omega
 have hn2x:¬ (n2=0):=by omega
 clear hri hok hid' hrt hfit e1 e2 e3
 go_upto_region 5 with (first
  | (go_at_call 14
     (with_reducible refine CG.out.mono ?_)
     rintro e W2 ⟨rfl,hb2⟩
     have CI2:=Lib.hid (CI.out W2 hb2)
     have HB2:=Lib.hid (below_tail HB1.out hb2)
     have Hbx2:=Lib.hid (Hbx1.out.below hb2)
     obtain ⟨x5,x0,x1,x2,x3⟩:=Hbx2.out
     simp only [] at x0 x1 x2 x3
     clear hb2)
  | (go_at_call 27;(with_reducible refine CI2.out.mono ?_);rintro e W3 ⟨rfl,hb3⟩))
 have HB3:=Lib.hid (below_tail HB2.out hb3)
 have Hbx3:=Lib.hid (Hbx2.out.below hb3)
 clear x0 x1 x2 x3 x5 y0 y1 y2 y3 y5 hb3 CI CI2 CG Hbx2 Hbx1 HB1 HB2 CA
 have ⟨y5,y0,y1,y2,y3⟩:=Hbx3.out
 simp only [] at y0 y1 y2 y3
 go_upto_region 6 with fail
 have hwr:IntKind.i64.wrap (-1 - (a:Int))=-1 - (a:Int):=IntWalk.i64_in _ (by omega)
 have hlB:=alloc_below W3 (.cells #[.int .i64 (-1 - (a:Int))] 3)
 have hL:Ints .i64 (W3.alloc (.cells #[.int .i64 (-1 - (a:Int))] 3)) (some ⟨W3.heap.size,0,none⟩) 1 1 [-1 - (a:Int)]:=lit_sl W3 3 (ints .i64 [-1 - (a:Int)]) 1 _ rfl rfl (by decide)
 have CO:=Lib.hid (tr_cOf ⟨a1,n1,c1,a2,n2,c2,a3,n3,c3⟩ G (some ⟨W3.heap.size,0,none⟩) 1 [-1 - (a:Int)] (k:Int) (W3.alloc (.cells #[.int .i64 (-1 - (a:Int))] 3)) (Hg.out.below (below_tail HB3.out hlB)) Hs.out (HT.out.below (below_tail HB3.out hlB)) (by simp only [];omega) (by simp only [];omega) (by simp only [];omega) hL (fun s hs=>by rw [List.mem_singleton.1 hs];unfold InI64;omega))
 have HB4:=Lib.hid (below_tail HB3.out hlB)
 have Hbx4:=Lib.hid (Hbx3.out.below hlB)
 simp only [List.length_cons,List.length_nil,Nat.zero_add] at CO
 have hhas:∀ z ∈ [-1 - (a:Int)],G.has z=true:=fun z hz=>by
  rw [List.mem_singleton.1 hz]
  have:=E2.out
  unfold Gr.has
  rw [if_neg (by omega),decide_eq_true_iff]
  omega
 have hcyc:cycG G ≠ 0→ofN22 G [-1 - (a:Int)] (k:Int)=([],10):=fun hc=>by
  unfold ofN22
  rw [if_neg,if_pos hc]
  rintro (h | h | h | h | ⟨s,hs1,h⟩)
  · rw [Hri.out] at h;cases h
  · simp at h
  · omega
  · omega
  · rw [hhas s hs1] at h;cases h
 have hfitV:cycG G=0→ofN22 G [-1 - (a:Int)] (k:Int)=fitN (treeN G (-1 - (a:Int)) k):=fun hc=>by rw [ofN_fit ⟨Hri.out,hc⟩ (by simp) (by omega) hhas,forest_single]
 have hlt:=cycG_lt G
 clear hL hlB hhas
 by_cases hc:cycG G=0
 case neg =>
  as_aux_lemma =>
   rw [hcyc hc] at CO
   have i4:(((cycG G:Nat):Int) != 0)=true:=by rw [bne_iff_ne];omega
   have i5:((10:Int) == 10)=true:=rfl
   have i6:(((10:Nat):Int) != 0)=true:=rfl
   clear hcyc hfitV hc
   go_wp2_with fail
   (with_reducible refine CO.out.mono ?_)
   rintro e W5 ⟨A5,c5,rfl,hn5,hb5⟩
   have HB5:=Lib.hid (below_tail HB4.out hb5)
   have ⟨z5,z0,z1,z2,z3⟩:=Hbx4.out.below hb5
   simp only [] at z0 z1 z2 z3
   have CY:=Lib.hid (rf_Cycles ⟨a1,n1,c1,a2,n2,c2,a3,n3,c3⟩ G W5 (Hg.out.below HB5.out) (by simp only [];omega) (by simp only [];omega) (by simp only [];omega))
   clear hn5 hb5 CO y0 y1 y2 y3 y5
   go_wp2_with (go_at_call 28;(with_reducible refine CY.out.mono ?_);rintro e W6 ⟨hb6,rfl⟩)
   go_ret
   exact ⟨rfl,below_tail HB5.out hb6⟩
 case pos =>
  rw [hfitV hc] at CO
  have hokr:redOK G=true∧redG G=G:=isRed_iff.1 Hri.out
  have hP:Plain G:=by
   have h1:G.right=true∧(prodN G).getD G.start.toNat false=true:=by have:=hokr.1;unfold redOK at this;rw [Bool.and_eq_true] at this;exact this
   exact (reduced_plain h1.1 h1.2 hokr.2 hc).1
  have hrules:treeN G (-1 - (a:Int)) k=rulesT (treeN G) G.rules a k:=by rw [treeN_non hP (by omega) (by rw [nonI_of];have:=E2.out;omega),nonI_of]
  have HP:=Lib.hid hP
  have HR:=Lib.hid hrules
  have Hcz:=Lib.hid hc
  clear hcyc hfitV hokr hP hrules hlt
  generalize treeN G (-1 - (a:Int)) k=tv at *
  by_cases htv:tv < big
  case neg =>
   as_aux_lemma =>
    have hfb:fitN tv=([],2):=by unfold fitN;rw [if_neg htv]
    rw [hfb] at CO
    have i5:((2:Int) == 10)=false:=rfl
    have i6:(((2:Nat):Int) != 0)=true:=rfl
    have i4:(((cycG G:Nat):Int) != 0)=false:=by rw [hc];rfl
    clear htv hfb hc
    go_wp2_with fail
    (with_reducible refine CO.out.mono ?_)
    rintro e W5 ⟨A5,c5,rfl,hn5,hb5⟩
    have HB5:=Lib.hid (below_tail HB4.out hb5)
    have ⟨z5,z0,z1,z2,z3⟩:=Hbx4.out.below hb5
    simp only [] at z0 z1 z2 z3
    have CY:=Lib.hid (rf_Cycles ⟨a1,n1,c1,a2,n2,c2,a3,n3,c3⟩ G W5 (Hg.out.below HB5.out) (by simp only [];omega) (by simp only [];omega) (by simp only [];omega))
    clear hn5 hb5 CO y0 y1 y2 y3 y5
    go_wp2_with (go_at_call 28;(with_reducible refine CY.out.mono ?_);rintro e W6 ⟨hb6,rfl⟩)
    go_ret
    exact ⟨rfl,below_tail HB5.out hb6⟩
  case pos =>
   have hfb:fitN tv=(limbs tv,0):=by unfold fitN;rw [if_pos htv]
   rw [hfb] at CO
   have Htv:=Lib.hid htv
   have i6:(((0:Nat):Int) != 0)=false:=rfl
   clear htv hfb hc
   go_upto_region 9 with fail
   (with_reducible refine CO.out.mono ?_)
   rintro e W5 ⟨A5,c5,rfl,hn5,hb5⟩
   have HB5:=Lib.hid (below_tail HB4.out hb5)
   have Hbx5:=Lib.hid (Hbx4.out.below hb5)
   have HN5:=Lib.hid hn5
   clear hn5 hb5 CO y0 y1 y2 y3 y5 Hbx4 HB4 Hbx3 HB3
   go_upto_region 9 with fail
   have hblk:=Blk.new W5 46 #[.slice none 0 0, .bool false]
   have hlb:=alloc_below W5 (.cells #[.slice none 0 0, .bool false] 46)
   have hv0:ValN (W5.alloc (.cells #[.slice none 0 0, .bool false] 46)) none 0 0 false (rulesT (treeN G) (G.rules.take 0) a k):=ValN.zero _ _ _ (by omega)
   have Hblk:=Lib.hid hblk
   have Hlb:=Lib.hid hlb
   have Hv0:=Lib.hid hv0
   clear hblk hlb hv0
   go_upto_region 10 with fail
   generalize W5.alloc (.cells #[.slice none 0 0, .bool false] 46)=W6 at *
   have hgS:W5.heap.size≤W5.heap.size:=Nat.le_refl _
   generalize hgd:W5.heap.size=gS at *
   have Hgd:=Lib.hid hgd
   clear hgd
   go_wp2_with fail
   go_loopw [12] (fun i wr=>∃ (j:Nat) (A:Option Addr) (n c:Nat) (b:Bool),j≤n3∧i = .int .i64 (j:Int)∧Hid (Blk wr gS 46 #[.slice A n c, .bool b])∧Hid (ValN wr A n c b (rulesT (treeN G) (G.rules.take j) a k))∧Hid (Below gS W5 wr)) (fun i _=>n3 - (intOf i).toNat)
   case atStart=>exact ⟨0,none,0,0,false,Nat.zero_le _,rfl,Hblk,Hv0,Hlb⟩
   case round =>
    obtain ⟨j,A,n,c,b,hj,rfl,HB,HV,Hb⟩:=hrel
    have HbW:Hid (Below W5.heap.size W5 wr):=Lib.hid (by rw [Hgd.out];exact Hb.out)
    have ⟨y5,y0,y1,y2,y3⟩:=Hbx5.out.below HbW.out
    simp only [] at y0 y1 y2 y3
    have q0:wr.cell? ⟨gS,0,none⟩=some (.slice A n c):=HB.out.cell 0
    have q1:wr.cell? ⟨gS,1,none⟩=some (.bool b):=HB.out.cell 1
    have Hbw:=Lib.hid (below_tail HB5.out HbW.out)
    by_cases hjk:j < n3
    case neg =>
     as_aux_lemma =>
      obtain rfl:j=n3:=by omega
      have hv:=HV.out
      rw [List.take_of_length_le (by have:=E3.out;omega),← HR.out] at hv
      obtain ⟨rfl,hN⟩:=hv
      rw [capV_small Htv.out] at hN q1
      have e:=hN.len
      simp only [] at e hN q1
      subst e
      have cS:=ref_same A _ c (limbs tv) A5 _ c5 (limbs tv) wr hN (HN5.out.below HbW.out)
      rw [beq_self_eq_true] at cS
      have CS:=Lib.hid cS
      clear cS hN
      go_wp2_with (go_at_call 17;(with_reducible refine CS.out.mono ?_);rintro e w6 ⟨rfl,hS⟩)
      go_ret
      exact ⟨rfl,below_tail Hbw.out (hS.below _)⟩
    case pos =>
     obtain ⟨rb,roff,r,Ar,cr,rfl,hrb,Hr,p0,p1,p2,hrr⟩:=(Hg.out.below Hbw.out).rules.get hjk
     have hmem:=List.mem_of_getElem? Hr.out
     obtain ⟨jl,hjl⟩:∃ jl:Nat,r.left=(jl:Int):=⟨r.left.toNat,by have:=Hfit.out.left r hmem;omega⟩
     have Hjl:Hid (r.left.toNat=jl):=Lib.hid (by omega)
     rw [hjl] at p0
     have Hnx:=Lib.hid (rulesT_take (T:=treeN G) Hr.out a k)
     clear hjl
     by_cases hji:jl=a
     case neg =>
      as_aux_lemma =>
       have hcmp:((jl:Int) != (a:Int))=true:=by rw [bne_iff_ne];omega
       have HVn:Hid (rulesT (treeN G) (G.rules.take (j+1)) a k=rulesT (treeN G) (G.rules.take j) a k):=Lib.hid (by rw [Hnx.out,if_neg (by rw [Hjl.out];exact hji),Nat.add_zero])
       clear hji Hnx hmem hrr
       go_wp2_with fail
       go_roundw
       case rel=>exact ⟨j+1,A,n,c,b,by omega,by go_num,HB,by rw [HVn.out];exact HV,Hb⟩
       case measure=>simp [intOf];omega
     case pos =>
      subst hji
      have hcmp:((jl:Int) != (jl:Int))=false:=by simp
      have HVn:Hid (rulesT (treeN G) (G.rules.take (j+1)) jl k=rulesT (treeN G) (G.rules.take j) jl k+forestT (treeN G) r.right k):=Lib.hid (by rw [Hnx.out,if_pos Hjl.out])
      have hsy:∀ s ∈ r.right,G.has s=true:=fun s hs=>by
       have h1:=Hfit.out.sym r hmem s hs
       have h2:=E1.out
       have h3:=E2.out
       unfold Gr.has
       split
       · rw [decide_eq_true_iff];omega
       · rw [decide_eq_true_iff];omega
      have hlen:=Hfit.out.len r hmem
      have hbigR:forestT (treeN G) r.right k < big:=Nat.lt_of_le_of_lt (rules_part Hr.out Hjl.out k) (by rw [← HR.out];exact Htv.out)
      have hofr:ofN22 G r.right (k:Int)=(limbs (forestT (treeN G) r.right k),0):=by
       rw [ofN_fit ⟨Hri.out,Hcz.out⟩ hlen (by omega) hsy]
       unfold fitN
       rw [if_pos hbigR]
      have hir:∀ s ∈ r.right,InI64 s:=fun s hs=>by
       have h1:=Hfit.out.sym r hmem s hs
       have h2:=Hfit.out.n1
       have h3:=Hfit.out.n2
       unfold InI64
       omega
      generalize forestT (treeN G) r.right k=fv at *
      generalize rulesT (treeN G) (G.rules.take j) jl k=vN at *
      have C1:Hid (∀ X,Below wr.heap.size wr X→Calls Tryz.prog 15 #[.agg #[.slice a1 n1 c1, .slice a2 n2 c2, .slice (some ⟨rb,roff,none⟩) n3 c3, .int .i64 G.start], .slice Ar r.right.length cr, .int .i64 (k:Int)] X fun e w'=>∃ A c,e = .returned (.tuple #[.slice A (limbs fv).length c, .int .i64 0])∧Nums .u32 w' A (limbs fv).length c (limbs fv)∧Below wr.heap.size wr w'∧Hid (Below X.heap.size X w')):=Lib.hid fun X hb=>by
       have h:=tr_cOf ⟨a1,n1,c1,a2,n2,c2,some ⟨rb,roff,none⟩,n3,c3⟩ G Ar cr r.right (k:Int) X ((Hg.out.below Hbw.out).below hb) Hs.out ((HT.out.below Hbw.out).below hb) (by simp only [];omega) (by simp only [];omega) (by simp only [];omega) (hrr.below hb) hir
       rw [hofr] at h
       exact h.mono fun e w' ⟨A,c,he,hN,hB⟩=>⟨A,c,he,hN,below_tail hb hB,Lib.hid hB⟩
      have HS:Hid (∀ W',Below wr.heap.size wr W'→W'.cell? ⟨w.heap.size,0,none⟩=some (.slice a1 n1 c1)∧W'.cell? ⟨w.heap.size,1,none⟩=some (.slice a2 n2 c2)∧W'.cell? ⟨w.heap.size,2,none⟩=some (.slice (some ⟨rb,roff,none⟩) n3 c3)∧W'.cell? ⟨w.heap.size,3,none⟩=some (.int .i64 G.start)∧W'.cell? ⟨rb,roff+j * 3+1,none⟩=some (.slice Ar r.right.length cr)∧Below wr.heap.size wr W'):=Lib.hid fun W' hb=>⟨by rw [hb.cell (by exact y5)];exact y0,by rw [hb.cell (by exact y5)];exact y1,by rw [hb.cell (by exact y5)];exact y2,by rw [hb.cell (by exact y5)];exact y3,by rw [hb.cell (by exact hrb)];exact p1,hb⟩
      have HbigR:=Lib.hid hbigR
      clear hofr hsy hbigR hir Hnx hrr hmem hlen
      go_upto_region 14 with fail
      go_region_held3 (fun W'=>W'.cell? ⟨w.heap.size,0,none⟩=some (.slice a1 n1 c1)∧W'.cell? ⟨w.heap.size,1,none⟩=some (.slice a2 n2 c2)∧W'.cell? ⟨w.heap.size,2,none⟩=some (.slice (some ⟨rb,roff,none⟩) n3 c3)∧W'.cell? ⟨w.heap.size,3,none⟩=some (.int .i64 G.start)∧W'.cell? ⟨rb,roff+j * 3+1,none⟩=some (.slice Ar r.right.length cr)∧Below wr.heap.size wr W')
       ((refine HS.out _ ?_;(repeat (first | assumption | exact Below.refl _ _ | refine Below.drew ?_));done))
       (first
         | (go_at_call 15;with_reducible refine (C1.out _ (by (repeat (first | assumption | exact Below.refl _ _ | refine Below.drew ?_)))).mono ?_;rintro e w5 ⟨A6,k6,rfl,HN6,HB6,Hb6⟩))
      all_goals
       have HR6:=Lib.hid (below_tail Hbw.out HB6)
       have Hb6':=Lib.hid (show Below wr.heap.size wr w5 from HB6)
       have V6:=Lib.hid (val_of HbigR.out HN6)
       have HV6:=Lib.hid (HV.out.below Hb6'.out)
       have HBx:=Lib.hid (Blk.ext HB.out Hb6'.out)
       have r0:w5.cell? ⟨gS,0,none⟩=some (.slice A n c):=HBx.out.cell 0
       have r1:w5.cell? ⟨gS,1,none⟩=some (.bool b):=HBx.out.cell 1
       have r2:=HBx.out.lt
       have hgS5:gS≤wr.heap.size:=Nat.le_of_lt HB.out.lt
       clear HN6 HB6 Hb6 q0 q1 C1 HS
       have CP:=Lib.hid (rf_Plus A n c b vN A6 _ k6 false fv w5 HV6.out V6.out)
       go_wp2_with (
        go_at_call 25
        (with_reducible refine CP.out.mono ?_)
        rintro e w8 ⟨hb8,As,ns,cs,bs,rfl,hvs⟩
        have b8:=Blk.ext HBx.out hb8
        have j0:w8.cell? ⟨gS,0,none⟩=some (.slice A n c):=b8.cell 0
        have j1:w8.cell? ⟨gS,1,none⟩=some (.bool b):=b8.cell 1
        have j2:=b8.lt
        have j3:=b8.frozen 0
        have j4:=b8.frozen 1
        have Hb8:=Lib.hid hb8
        have Hvs:=Lib.hid hvs
        have HB8:=Lib.hid b8
        clear b8 hb8 hvs)
       have H2:=Lib.hid (two_set HB8.out (W3:=W5) (Hb.out.trans ((Hb6'.out.trans (Hb8.out.mono Hb6'.out.size)).mono hgS5)) Hvs.out)
       go_roundw
       case rel =>
        cases bs
        · exact ⟨j+1,As,ns,cs,false,by omega,by go_num,Lib.hid H2.out.1,by rw [HVn.out];exact Lib.hid H2.out.2.1,Lib.hid H2.out.2.2⟩
        · exact ⟨j+1,As,ns,cs,true,by omega,by go_num,Lib.hid H2.out.1,by rw [HVn.out];exact Lib.hid H2.out.2.1,Lib.hid H2.out.2.2⟩
       case measure=>simp [intOf] <;> omega
end Go.Proofs.YtggbjdmpjidhgaaGreatDoor
