/- words that the packed base lacks. -/
import Derived.Test.YtggbjdmpjidhgaaGreatDoorQCtP4
import Derived.Test.YtggbjdmpjidhgaaGreatDoorQCtW11
import Derived.Test.YtggbjdmpjidhgaaGreatDoorQCtA
import Derived.Test.YtggbjdmpjidhgaaGreatDoorQEntryI
set_option linter.unusedVariables false
set_option linter.unusedSimpArgs false
set_option maxHeartbeats 8000000
set_option maxRecDepth 100000
namespace Go.Proofs.YtggbjdmpjidhgaaGreatDoor
open Go.RowKit
set_option maxHeartbeats 8000000
set_option maxRecDepth 100000
section
variable {G:Gr}
end
set_option maxHeartbeats 8000000
set_option maxRecDepth 100000
open Ieee
def IsN (d:Datum) (n:Nat):Prop:=∃ k:Nat,d = .number false (n * 2 ^ k) (-(k:Int))
theorem IsN.zero (k:Nat):IsN (.number false 0 (-(k:Int))) 0:=⟨k,by rw [Nat.zero_mul]⟩
theorem Own.drew {w:World} {g:Nat} {t:TypeId} {k:IntKind} {zs:List Nat} (h:Own w g t k zs):Own w.drew g t k zs:=h
theorem Nums.drew {k:IntKind} {w:World} {A:Option Addr} {n c:Nat} {xs:List Nat} (h:Nums k w A n c xs):Nums k w.drew A n c xs:=h
theorem Same.drew {a w:World} (h:Same a w):Same a w.drew:=h.drewN 1
theorem Ints.drew {k:IntKind} {w:World} {A:Option Addr} {n c:Nat} {zs:List Int} (h:Ints k w A n c zs):Ints k w.drew A n c zs:=h
section
variable {P:Program} {w:World}
end
theorem forest_by_split (T:Int→Nat→Nat) (s:Int) (l:List Int) (n:Nat):forestT T (s::l) n=splitN T s l n 0 (n+1):=by
 simp only [splitN,Nat.zero_add]
 rfl
theorem forest_single (T:Int→Nat→Nat) (s:Int) (n:Nat):forestT T [s] n=T s n:=by
 have h0:∀ d,d≤n→splitN T s [] n 0 d=0:=by
  intro d
  induction d with
  | zero=>intro _;rfl
  | succ d ih =>
    intro hd
    rw [splitN_succ,ih (by omega),Nat.zero_add]
    have h1:forestT T [] (n - (0+d))=0:=by unfold forestT;rw [if_neg (by omega)]
    rw [h1,Nat.mul_zero]
 rw [forest_by_split,splitN_succ,h0 n (Nat.le_refl _),Nat.zero_add,Nat.zero_add,Nat.sub_self]
 show T s n * (if 0=0 then 1 else 0)=_
 rw [if_pos rfl,Nat.mul_one]
theorem fit_err {x:Nat} (h:(fitN x).2 ≠ 0):(fitN x).1=[]:=by
 unfold fitN at h ⊢
 split
 · rename_i hx;rw [if_pos hx] at h;exact absurd rfl h
 · rfl
theorem ofN_err {G:Gr} {l:List Int} {n:Int} (h:(ofN22 G l n).2 ≠ 0):(ofN22 G l n).1=[]:=by
 unfold ofN22 at h ⊢
 split
 · rfl
 · rename_i h1
   rw [if_neg h1] at h
   split
   · rfl
   · rename_i h2
     rw [if_neg h2] at h
     exact fit_err h
structure Told22 (G:Gr):Prop where
 red:isRed G=true
 cyc:cycG G=0
theorem ofN_told {G:Gr} {l:List Int} {n:Nat} (h:(ofN22 G l (n:Int)).2=0):Told22 G∧l.length≤6∧n≤10∧(∀ s ∈ l,G.has s=true)∧forestT (treeN G) l n < big:=by
 unfold ofN22 at h
 split at h
 · cases h
 · rename_i h1
   split at h
   · cases h
   · rename_i h2
     refine ⟨⟨?_,?_⟩,?_,?_,?_,?_⟩
     · cases hr:isRed G
       · exact absurd (.inl hr) h1
       · rfl
     · exact Classical.byContradiction h2
     · exact Classical.byContradiction fun hc=>h1 (.inr (.inl (by omega)))
     · exact Classical.byContradiction fun hc=>h1 (.inr (.inr (.inr (.inl (by omega)))))
     · intro s hs
       cases hh:G.has s
       · exact absurd (.inr (.inr (.inr (.inr ⟨s,hs,hh⟩)))) h1
       · rfl
     · rw [Int.toNat_natCast] at h
       unfold fitN at h
       exact Classical.byContradiction fun hc=>by rw [if_neg hc] at h;cases h
theorem ofN_fit {G:Gr} (hT:Told22 G) {l:List Int} {n:Nat} (hl:l.length≤6) (hn:n≤10) (hh:∀ s ∈ l,G.has s=true):ofN22 G l (n:Int)=fitN (forestT (treeN G) l n):=by
 unfold ofN22
 rw [if_neg,if_neg (by rw [hT.cyc];exact fun h=>h rfl),Int.toNat_natCast]
 rintro (h | h | h | h | ⟨s,hs,h⟩)
 · rw [hT.red] at h;cases h
 · omega
 · omega
 · omega
 · rw [hh s hs] at h;cases h
theorem fit_cases (x:Nat):(x < big∧fitN x=(limbs x,0))∨(¬ x < big∧fitN x=([],2)):=by
 by_cases h:x < big
 · exact .inl ⟨h,by unfold fitN;rw [if_pos h]⟩
 · exact .inr ⟨h,by unfold fitN;rw [if_neg h]⟩
theorem fit_pair {x:Nat} {xs:List Nat} {er:Nat} (h:fitN x=(xs,er)):(x < big∧xs=limbs x∧er=0)∨er=2:=by
 rcases fit_cases x with ⟨h1,h2⟩ | ⟨_,h2⟩
 · rw [h2] at h;injection h with ha hb;exact .inl ⟨h1,ha.symm,hb.symm⟩
 · rw [h2] at h;injection h with ha hb;exact .inr hb.symm
theorem val_of {w:World} {A:Option Addr} {n c x:Nat} (hx:x < big) (h:Nums .u32 w A n c (limbs x)):ValN w A n c false x:=⟨by rw [capV_small hx],by rw [capV_small hx];exact h⟩
theorem val_noInt {w:World} {g:Nat} {t:TypeId} {A:Option Addr} {n c:Nat} {b:Bool} (h:Blk w g t #[.slice A n c, .bool b]):NoInt w g:=by
 intro o k z hc
 rw [h.cell o] at hc
 rcases o with _ | _ | o
 · simp at hc
 · simp at hc
 · simp at hc
theorem two_set {w W3:World} {gS:Nat} {t:TypeId} {A A':Option Addr} {n c n' c':Nat} {b b':Bool} (hB:Blk w gS t #[.slice A n c, .bool b]) (h3:Below gS W3 w) {z:Nat} (hv:ValN w A' n' c' b' z) :
 Blk ((w.setCell ⟨gS,0,none⟩ (.slice A' n' c')).setCell ⟨gS,1,none⟩ (.bool b')) gS t #[.slice A' n' c', .bool b']∧ValN ((w.setCell ⟨gS,0,none⟩ (.slice A' n' c')).setCell ⟨gS,1,none⟩ (.bool b')) A' n' c' b' z∧Below gS W3 ((w.setCell ⟨gS,0,none⟩ (.slice A' n' c')).setCell ⟨gS,1,none⟩ (.bool b')):=by
 have h1:Blk (w.setCell ⟨gS,0,none⟩ (.slice A' n' c')) gS t #[.slice A' n' c', .bool b]:=hB.set 0 _
 have o1:=Off.of_set w gS 0 (.slice A' n' c')
 have o2:=Off.of_set (w.setCell ⟨gS,0,none⟩ (.slice A' n' c')) gS 1 (.bool b')
 have k1:IntKeep w (w.setCell ⟨gS,0,none⟩ (.slice A' n' c')):=IntKeep.of_off o1 fun g hg=>by subst hg;exact val_noInt hB
 have k2:IntKeep (w.setCell ⟨gS,0,none⟩ (.slice A' n' c')) ((w.setCell ⟨gS,0,none⟩ (.slice A' n' c')).setCell ⟨gS,1,none⟩ (.bool b')):=IntKeep.of_off o2 fun g hg=>by subst hg;exact val_noInt h1
 refine ⟨h1.set 1 _,hv.kept (k1.trans k2),(h3.trans (o1.is_below (Nat.le_of_lt hB.lt) fun k hk=>?_)).trans (o2.is_below (Nat.le_of_lt h1.lt) fun k hk=>?_)⟩
 · exact Nat.le_of_eq hk.symm
 · exact Nat.le_of_eq hk.symm
theorem u8_natC {a:Int} (h:(Lit.int .u8 a).wf=true):∃ n:Nat,a=(n:Int)∧n < 256:=by
 have h0:0≤a∧a≤255:=by
  simpa [Lit.wf,IntKind.min,IntKind.max,IntKind.bits,IntKind.signed] using h
 exact ⟨a.toNat,by omega,by omega⟩
theorem countSplits_walk (h:GH) (G:Gr) (Ar:Option Addr) (nr cr:Nat) (zs:List Int) (x:Int) (w:World) (hgi:GrIn w h G) (hrow:IsRow .i64 w Ar nr cr zs) (hx:(Lit.int .u8 x).wf=true) (hTab:TabAt w) :
 Calls Tryz.prog 5 #[GV h G.start, .slice Ar nr cr, .int .u8 x] w fun e w'=>e = .returned (.bool true)∧Below w.heap.size w w':=by
 obtain ⟨ss,hr,hwf⟩:=hrow.ints
 obtain ⟨n0,rfl,hn0⟩:=u8_natC hx
 have hw:∀ s ∈ ss,InI64 s:=fun s hs=>bounds_i64 (hwf s hs)
 obtain rfl:=hr.len
 have hcap:=hr.cap
 obtain ⟨hg,hs,hst⟩:=hgi
 obtain ⟨a1,n1,c1,a2,n2,c2,a3,n3,c3⟩:=h
 have e1:G.terms.length=n1:=hg.terms.len
 have e2:G.nons.length=n2:=hg.nons.len
 have e3:G.rules.length=n3:=hg.rules.len
 have hB0:=alloc_below w (.cells #[.slice a1 n1 c1, .slice a2 n2 c2, .slice a3 n3 c3, .int .i64 G.start] 26)
 have hbox:=GBox.new w 26 ⟨a1,n1,c1,a2,n2,c2,a3,n3,c3⟩ G.start
 have CA:=Lib.hid alive22
 have Hg:=Lib.hid hg
 have Hs:=Lib.hid hs
 have Hr:=Lib.hid hr
 have Hw:=Lib.hid hw
 have HT:=Lib.hid hTab
 clear hst hg hs hrow hwf hr hw hx hTab
 go_enter Tryz.func5,Tryz.ntmps5
 go_wp2_with fail
 generalize w.alloc (.cells #[.slice a1 n1 c1, .slice a2 n2 c2, .slice a3 n3 c3, .int .i64 G.start] 26)=W0 at *
 (with_reducible refine (CA.out W0 (HT.out.below hB0)).mono ?_)
 rintro e W1 ⟨rfl,hb1⟩
 have hB1:=below_tail hB0 hb1
 have hbx1:=hbox.below hb1
 have ⟨y5,y0,y1,y2,y3⟩:=hbx1
 simp only [] at y0 y1 y2 y3
 go_wp2_with fail
 (with_reducible refine (rf_great ⟨a1,n1,c1,a2,n2,c2,a3,n3,c3⟩ G W1 (Hg.out.below hB1)).mono ?_)
 rintro e W2 ⟨rfl,hb2⟩
 have hB2:=below_tail hB1 hb2
 have hbx2:=hbx1.below hb2
 clear y0 y1 y2 y3 y5 hbox hbx1
 have ⟨y5,y0,y1,y2,y3⟩:=hbx2
 simp only [] at y0 y1 y2 y3
 rcases hgr:G.great with _ | _
 case true =>
  clear hgr
  go_wp2_with fail
  go_ret
  exact ⟨rfl,hB2⟩
 obtain ⟨l1,l2,l3,_⟩:=great_falseC hgr
 rw [e1] at l1
 rw [e2] at l2
 rw [e3] at l3
 clear hgr
 by_cases h1:((ss.length:Nat):Int) < 1
 case pos =>
  go_wp2_with fail
  go_ret
  exact ⟨rfl,hB2⟩
 by_cases h6:(6:Int) < (ss.length:Int)
 case pos =>
  go_wp2_with fail
  go_ret
  exact ⟨rfl,hB2⟩
 obtain ⟨k,hk,hk7⟩:∃ k:Nat,(n0:Int) % 7=(k:Int)∧k≤6:=⟨n0 % 7,by omega,by omega⟩
 go_wp2_with fail
 rw [hk]
 have cO:=tr_cOf ⟨a1,n1,c1,a2,n2,c2,a3,n3,c3⟩ G Ar cr ss (k:Int) W2 (Hg.out.below hB2) Hs.out (HT.out.below hB2) (by simp only [];omega) (by simp only [];omega) (by simp only [];omega) (Hr.out.below hB2) Hw.out
 (with_reducible refine cO.mono ?_)
 rintro e W3 ⟨A3,k3,rfl,rN3,hb3⟩
 have hB3:=Lib.hid (below_tail hB2 hb3)
 have Hbx3:=Lib.hid (hbx2.below hb3)
 have RN3:=Lib.hid rN3
 have Herr:=Lib.hid (ofN_err (G:=G) (l:=ss) (n:=(k:Int)))
 have Hok:=Lib.hid (ofN_told (G:=G) (l:=ss) (n:=k))
 clear y0 y1 y2 y3 y5 hbx2 cO rN3 hb3 hB2 hk
 generalize hres:ofN22 G ss (k:Int)=res at *
 have Hres:=Lib.hid hres
 clear hres
 obtain ⟨whole,er⟩:=res
 simp only [] at Herr Hok RN3
 by_cases her:er=0
 case neg =>
  have hne:(((er:Nat):Int) != 0)=true:=by rw [bne_iff_ne];omega
  have hwl:whole=[]:=Herr.out her
  subst hwl
  go_wp2_with fail
  go_ret
  exact ⟨rfl,hB3.out⟩
 case pos =>
  subst her
  have hne:(((0:Nat):Int) != 0)=false:=rfl
  obtain ⟨hT22,_,_,hhas,hbig⟩:=Hok.out rfl
  have hwl:whole=limbs (forestT (treeN G) ss k):=by
   have h1:=ofN_fit hT22 (l:=ss) (n:=k) (by omega) (by omega) hhas
   rw [Hres.out] at h1
   unfold fitN at h1
   rw [if_pos hbig] at h1
   exact (Prod.mk.injEq _ _ _ _ ▸ h1).1
  have Hwl:=Lib.hid hwl
  have HT22:=Lib.hid hT22
  have Hhas:=Lib.hid hhas
  have Hbig:=Lib.hid hbig
  clear hwl hT22 hhas hbig Herr Hok Hres
  go_upto_region 10 with fail
  obtain ⟨s,l,hss⟩:∃ s l,ss=s::l:=by
   cases ss with
   | nil=>simp at h1
   | cons s l=>exact ⟨s,l,rfl⟩
  have hlen:ss.length=l.length+1:=by rw [hss];rfl
  have hI1:Ints .i64 w Ar 1 cr [s]:=by
   have h:=Hr.out.take 1 cr (by omega) (by omega) hcap.2
   rw [hss] at h
   exact h
  obtain ⟨b0,o0,z0,rfl,_,_,_⟩:=Hr.out.get (j:=0) (by omega)
  obtain ⟨At,cq,hAt,hIl2⟩:∃ At cq,((cr=1∧At=some ⟨b0,o0,none⟩∧cq=0)∨(cr ≠ 1∧At=some ⟨b0,o0+1,none⟩∧cq=cr - 1))∧Ints .i64 w At l.length cq l:=by
   by_cases he:cr=1
   · have hl0:l=[]:=List.eq_nil_of_length_eq_zero (by omega)
     subst hl0
     exact ⟨_,_, .inl ⟨he,rfl,rfl⟩,Ints.nil _ _ _ _ (by omega)⟩
   · have h:=Hr.out.part 1 l.length (cr - 1) (by omega) (by omega) (by omega)
     have e:(ss.drop 1).take l.length=l:=by rw [hss];simp
     rw [e] at h
     exact ⟨_,_, .inr ⟨he,rfl,rfl⟩,h⟩
  have HAt:=Lib.hid hAt
  clear hAt
  have Hws:Hid (∀ z ∈ [s],InI64 z):=Lib.hid fun z hz=>Hw.out z (by rw [hss,List.mem_singleton.1 hz];exact List.mem_cons_self)
  have Hwl2:Hid (∀ z ∈ l,InI64 z):=Lib.hid fun z hz=>Hw.out z (by rw [hss];exact List.mem_cons_of_mem _ hz)
  have HI1:=Lib.hid hI1
  have HIl:=Lib.hid hIl2
  have Fs:Hid (∀ j:Nat,j≤k→ofN22 G [s] (j:Int)=fitN (treeN G s j)):=Lib.hid fun j hj=>by
   rw [ofN_fit HT22.out (by simp) (by omega) (fun z hz=>Hhas.out z (by rw [hss,List.mem_singleton.1 hz];exact List.mem_cons_self)),forest_single]
  have Fl:Hid (∀ j:Nat,j≤k→ofN22 G l (j:Int)=fitN (forestT (treeN G) l j)):=Lib.hid fun j hj=>ofN_fit HT22.out (by omega) (by omega) fun z hz=>Hhas.out z (by rw [hss];exact List.mem_cons_of_mem _ hz)
  have Hsum:Hid (forestT (treeN G) ss k=splitN (treeN G) s l k 0 (k+1)):=Lib.hid (by rw [hss];exact forest_by_split _ _ _ _)
  clear hIl2 hI1 Hw Hr
  have hblk:=Blk.new W3 46 #[.slice none 0 0, .bool false]
  have hlb:=alloc_below W3 (.cells #[.slice none 0 0, .bool false] 46)
  have hv0:ValN (W3.alloc (.cells #[.slice none 0 0, .bool false] 46)) none 0 0 false (splitN (treeN G) s l k 0 0):=ValN.zero _ _ _ (by omega)
  have Hblk:=Lib.hid hblk
  have Hlb:=Lib.hid hlb
  have Hv0:=Lib.hid hv0
  clear hblk hlb hv0 hss
  generalize W3.alloc (.cells #[.slice none 0 0, .bool false] 46)=W4 at *
  have hgS:W3.heap.size≤W3.heap.size:=Nat.le_refl _
  generalize hgd:W3.heap.size=gS at *
  have Hgd:=Lib.hid hgd
  clear hgd
  go_wp2_with fail
  go_loopw [11] (fun i wr=>∃ (j:Nat) (A:Option Addr) (n c:Nat) (b:Bool),j≤k+1∧i = .int .i64 (j:Int)∧Hid (Blk wr gS 46 #[.slice A n c, .bool b])∧Hid (ValN wr A n c b (splitN (treeN G) s l k 0 j))∧Hid (Below gS W3 wr)) (fun i _=>k+2 - (intOf i).toNat)
  case atStart=>exact ⟨0,none,0,0,false,Nat.zero_le _,rfl,Hblk,Hv0,Hlb⟩
  case round =>
   obtain ⟨j,A,n,c,b,hj,rfl,HB,HV,Hb⟩:=hrel
   have HbW:Hid (Below W3.heap.size W3 wr):=Lib.hid (by rw [Hgd.out];exact Hb.out)
   have ⟨y5,y0,y1,y2,y3⟩:=Hbx3.out.below HbW.out
   simp only [] at y0 y1 y2 y3
   have q0:wr.cell? ⟨gS,0,none⟩=some (.slice A n c):=HB.out.cell 0
   have q1:wr.cell? ⟨gS,1,none⟩=some (.bool b):=HB.out.cell 1
   by_cases hjk:j≤k
   case neg =>
    obtain rfl:j=k+1:=by omega
    have hno:¬ (((k+1:Nat):Int)≤(k:Int)):=by omega
    have hv:=HV.out
    rw [← Hsum.out] at hv
    obtain ⟨rfl,hN⟩:=hv
    rw [capV_small Hbig.out] at hN q1
    have e:=hN.len
    simp only [] at e hN q1
    subst e
    have hbw:=below_tail hB3.out HbW.out
    have Hbw:=Lib.hid hbw
    have cS:=ref_same A _ c (limbs (forestT (treeN G) ss k)) A3 _ k3 (limbs (forestT (treeN G) ss k)) wr hN (by rw [← Hwl.out];exact RN3.out.below HbW.out)
    rw [beq_self_eq_true] at cS
    have CS:=Lib.hid cS
    have Hwl':=Hwl.out
    subst Hwl'
    clear hbw cS hN
    go_wp2_with (go_at_call 17;(with_reducible refine CS.out.mono ?_);rintro e w6 ⟨rfl,hS⟩)
    go_ret
    exact ⟨rfl,below_tail Hbw.out (hS.below _)⟩
   case pos =>
    have hle:((j:Nat):Int)≤(k:Int):=by omega
    have hfs:=Fs.out j hjk
    have hfl:=Fl.out (k - j) (by omega)
    have hkj:(((k - j:Nat)):Int)=(k:Int) - (j:Int):=by omega
    rw [hkj] at hfl
    have Hbw:=Lib.hid (below_tail hB3.out HbW.out)
    have Hstep:=Lib.hid (splitN_succ (treeN G) s l k 0 j)
    rw [Nat.zero_add] at Hstep
    generalize treeN G s j=x at *
    generalize forestT (treeN G) l (k - j)=y at *
    generalize hfx:fitN x=px at *
    generalize hfy:fitN y=py at *
    obtain ⟨xs,ex⟩:=px
    obtain ⟨ys,ey⟩:=py
    have Hpx:=Lib.hid (fit_pair hfx)
    have Hpy:=Lib.hid (fit_pair hfy)
    have C1:Hid (∀ X,Below wr.heap.size wr X→Calls Tryz.prog 15 #[.agg #[.slice a1 n1 c1, .slice a2 n2 c2, .slice a3 n3 c3, .int .i64 G.start], .slice (some ⟨b0,o0,none⟩) 1 cr, .int .i64 (j:Int)] X fun e w'=>∃ A c,e = .returned (.tuple #[.slice A xs.length c, .int .i64 (ex:Int)])∧Nums .u32 w' A xs.length c xs∧Below wr.heap.size wr w'∧Hid (Below X.heap.size X w')):=Lib.hid fun X hb=>by
     have h:=tr_cOf ⟨a1,n1,c1,a2,n2,c2,a3,n3,c3⟩ G (some ⟨b0,o0,none⟩) cr [s] (j:Int) X ((Hg.out.below Hbw.out).below hb) Hs.out ((HT.out.below Hbw.out).below hb) (by simp only [];omega) (by simp only [];omega) (by simp only [];omega) ((HI1.out.below Hbw.out).below hb) Hws.out
     rw [hfs] at h
     exact h.mono fun e w' ⟨A,c,he,hN,hB⟩=>⟨A,c,he,hN,below_tail hb hB,Lib.hid hB⟩
    have C2:Hid (∀ X,Below wr.heap.size wr X→Calls Tryz.prog 15 #[.agg #[.slice a1 n1 c1, .slice a2 n2 c2, .slice a3 n3 c3, .int .i64 G.start], .slice At l.length cq, .int .i64 ((k:Int) - (j:Int))] X fun e w'=>∃ A c,e = .returned (.tuple #[.slice A ys.length c, .int .i64 (ey:Int)])∧Nums .u32 w' A ys.length c ys∧Below wr.heap.size wr w'∧Hid (Below X.heap.size X w')):=Lib.hid fun X hb=>by
     have h:=tr_cOf ⟨a1,n1,c1,a2,n2,c2,a3,n3,c3⟩ G At cq l ((k:Int) - (j:Int)) X ((Hg.out.below Hbw.out).below hb) Hs.out ((HT.out.below Hbw.out).below hb) (by simp only [];omega) (by simp only [];omega) (by simp only [];omega) ((HIl.out.below Hbw.out).below hb) Hwl2.out
     rw [hfl] at h
     exact h.mono fun e w' ⟨A,c,he,hN,hB⟩=>⟨A,c,he,hN,below_tail hb hB,Lib.hid hB⟩
    have HS:Hid (∀ W',Below wr.heap.size wr W'→W'.cell? ⟨w.heap.size,0,none⟩=some (.slice a1 n1 c1)∧W'.cell? ⟨w.heap.size,1,none⟩=some (.slice a2 n2 c2)∧W'.cell? ⟨w.heap.size,2,none⟩=some (.slice a3 n3 c3)∧W'.cell? ⟨w.heap.size,3,none⟩=some (.int .i64 G.start)∧Below wr.heap.size wr W'):=Lib.hid fun W' hb=>⟨by rw [hb.cell (by exact y5)];exact y0,by rw [hb.cell (by exact y5)];exact y1,by rw [hb.cell (by exact y5)];exact y2,by rw [hb.cell (by exact y5)];exact y3,hb⟩
    clear hfs hfl hkj hfx hfy q0 q1
    have hc1:¬ ((cr:Int) < 1):=by omega
    have hc2:¬ ((ss.length:Int) < 1):=by omega
    have hc3:¬ ((l.length:Int)+1 < 1):=by omega
    have hc4:¬ (l.length+1 < 1):=by omega
    have hwr:IntKind.i64.wrap ((k:Int) - (j:Int))=(k:Int) - (j:Int):=IntWalk.i64_in _ (by omega)
    have hc5:(1:Int)≤(l.length:Int)+1:=by omega
    go_wp2_with fail
    rcases HAt.out with ⟨rfl,rfl,rfl⟩ | ⟨hcr,rfl,rfl⟩
    all_goals
     go_region_held3 (fun W'=>W'.cell? ⟨w.heap.size,0,none⟩=some (.slice a1 n1 c1)∧W'.cell? ⟨w.heap.size,1,none⟩=some (.slice a2 n2 c2)∧W'.cell? ⟨w.heap.size,2,none⟩=some (.slice a3 n3 c3)∧W'.cell? ⟨w.heap.size,3,none⟩=some (.int .i64 G.start)∧Below wr.heap.size wr W')
      ((refine HS.out _ ?_;(repeat (first | assumption | exact Below.refl _ _ | refine Below.drew ?_));done))
      (first
        | (go_at_call 15;with_reducible refine (C1.out _ (by (repeat (first | assumption | exact Below.refl _ _ | refine Below.drew ?_)))).mono ?_;rintro e w5 ⟨A5,k5,rfl,HN5,HB5,Hb5⟩))
    all_goals
     go_upto_region 14 with fail
     go_region_held3 (fun W'=>W'.cell? ⟨w.heap.size,0,none⟩=some (.slice a1 n1 c1)∧W'.cell? ⟨w.heap.size,1,none⟩=some (.slice a2 n2 c2)∧W'.cell? ⟨w.heap.size,2,none⟩=some (.slice a3 n3 c3)∧W'.cell? ⟨w.heap.size,3,none⟩=some (.int .i64 G.start)∧Below wr.heap.size wr W')
      ((refine HS.out _ ?_;(repeat (first | assumption | exact Below.refl _ _ | refine Below.drew ?_));done))
      (first
        | (go_at_call 15;with_reducible refine (C2.out _ (by (repeat (first | assumption | exact Below.refl _ _ | refine Below.drew ?_)))).mono ?_;rintro e w6 ⟨A6,k6,rfl,HN6,HB6,Hb6⟩))
    all_goals
     have HN5':Hid (Nums .u32 w6 A5 xs.length k5 xs):=Lib.hid (by first | exact HN5.below Hb6.out | exact HN5.drew.below Hb6.out)
     have HN6':=Lib.hid HN6
     have Hb6':=Lib.hid (HB6:Below wr.heap.size wr w6)
     have HR6:=Lib.hid (below_tail Hbw.out HB6)
     clear HN5 HN6 HB6 HB5 Hb5 Hb6
     have hne0:(((0:Nat):Int) == 2)=false:=rfl
     have hne2:(((2:Nat):Int) == 2)=true:=rfl
     rcases Hpx.out with ⟨hx,rfl,rfl⟩ | rfl
     case' inr =>
      go_wp2_with fail
      go_ret
      exact ⟨rfl,HR6.out⟩
     rcases Hpy.out with ⟨hy,rfl,rfl⟩ | rfl
     case' inr =>
      go_wp2_with fail
      go_ret
      exact ⟨rfl,HR6.out⟩
     have V5:=Lib.hid (val_of hx HN5'.out)
     have V6:=Lib.hid (val_of hy HN6'.out)
     have CT:=Lib.hid fun X (hb:Below w6.heap.size w6 X)=>rf_Times A5 _ k5 false x A6 _ k6 false y X (V5.out.below hb) (V6.out.below hb)
     have HV6:=Lib.hid (HV.out.below Hb6'.out)
     have HB6:=Lib.hid (Blk.ext HB.out Hb6'.out)
     have q0:w6.cell? ⟨gS,0,none⟩=some (.slice A n c):=HB6.out.cell 0
     have q1:w6.cell? ⟨gS,1,none⟩=some (.bool b):=HB6.out.cell 1
     have q2:=HB6.out.lt
     have q3:=HB6.out.frozen 0
     have q4:=HB6.out.frozen 1
     clear hx hy
     go_upto_region 19 with fail
     have CP:=Lib.hid fun X Ap np cp bp (hb:Below w6.heap.size w6 X) (hv:ValN X Ap np cp bp (x * y))=>rf_Plus A n c b (splitN (treeN G) s l k 0 j) Ap np cp bp (x * y) X (HV6.out.below hb) hv
     go_region_law (first
      | ((try go_simp);go_at_call 26;(with_reducible refine (CT.out _ (by (repeat (first | assumption | exact Below.refl _ _ | refine Below.drew ?_)))).mono ?_);rintro e w7 ⟨hb7,Ap,np,cp,bp,rfl,hvp⟩
         have Hb7:Hid (Below w6.heap.size w6 w7):=Lib.hid (below_tail (by (repeat (first | assumption | exact Below.refl _ _ | refine Below.drew ?_))) hb7)
         have i0:w7.cell? ⟨gS,0,none⟩=some (.slice A n c):=(Blk.ext HB6.out Hb7.out).cell 0
         have i1:w7.cell? ⟨gS,1,none⟩=some (.bool b):=(Blk.ext HB6.out Hb7.out).cell 1
         have i2:=(Blk.ext HB6.out Hb7.out).lt
         have Hvp:=Lib.hid hvp
         clear hb7 hvp)
      | ((try go_simp);go_at_call 25;(with_reducible refine (CP.out _ Ap np cp bp (by first | exact Hb7.out | exact Hb7.out.drew | exact Hb7.out.drew.drew) Hvp.out).mono ?_);rintro e w8 ⟨hb8,As,ns,cs,bs,rfl,hvs⟩
         have Hb8:Hid (Below w6.heap.size w6 w8):=Lib.hid (below_tail (by first | exact Hb7.out | exact Hb7.out.drew | exact Hb7.out.drew.drew) hb8)
         have b8:=Blk.ext HB6.out Hb8.out
         have j0:w8.cell? ⟨gS,0,none⟩=some (.slice A n c):=b8.cell 0
         have j1:w8.cell? ⟨gS,1,none⟩=some (.bool b):=b8.cell 1
         have j2:=b8.lt
         have j3:=b8.frozen 0
         have j4:=b8.frozen 1
         have Hvs:=Lib.hid hvs
         have HB8:=Lib.hid b8
         clear b8 hb8 hvs))
     all_goals
      have H2:=Lib.hid (two_set HB8.out (Hb.out.trans ((Hb6'.out.trans (Hb8.out.mono Hb6'.out.size)).mono (Nat.le_of_lt HB.out.lt))) (by rw [← Hstep.out] at Hvs;exact Hvs.out))
      go_wp2_with fail
      go_roundw
      case rel =>
       cases bs
       · exact ⟨j+1,by omega,by go_num,As,ns,cs, .inl ⟨Lib.hid H2.out.1,Lib.hid H2.out.2.1,Lib.hid H2.out.2.2⟩⟩
       · exact ⟨j+1,by omega,by go_num,As,ns,cs, .inr ⟨Lib.hid H2.out.1,Lib.hid H2.out.2.1,Lib.hid H2.out.2.2⟩⟩
      case measure=>simp [intOf] <;> omega
end Go.Proofs.YtggbjdmpjidhgaaGreatDoor
