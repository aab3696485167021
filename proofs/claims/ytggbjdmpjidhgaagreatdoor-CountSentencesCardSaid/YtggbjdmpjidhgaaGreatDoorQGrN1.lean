/- nullable: the reference's, walked. -/
import Derived.Test.YtggbjdmpjidhgaaGreatDoorQGrC3
import Derived.Deep.LoopGhost
import Derived.Deep.RegionWith
set_option linter.unusedVariables false
set_option linter.unusedSimpArgs false
set_option maxHeartbeats 8000000
set_option maxRecDepth 100000
namespace Go.Proofs.YtggbjdmpjidhgaaGreatDoor
open Go.RowKit
def bareP (b:Bool) (r:Rul) (N:List Bool):Bool:=allP b N r.right
def grownN (b:Bool) (G:Gr):List Bool:=iter (passN (bareP b) G.rules) G.nons.length (List.replicate G.nons.length false)
theorem nullN_grown (G:Gr):nullN G=grownN false G:=rfl
theorem passN_len (p:Rul→List Bool→Bool) (rs:List Rul) (N:List Bool):(passN p rs N).length=N.length:=(passN_grows p rs).len N
theorem iterN_len (p:Rul→List Bool→Bool) (rs:List Rul) (N:List Bool):∀ k,(iter (passN p rs) k N).length=N.length
 | 0=>rfl
 | k+1=>by rw [iter,passN_len,iterN_len p rs N k]
theorem take_snoc' {α:Type} {l:List α} {k:Nat} {x:α} (h:l[k]? = some x):l.take (k+1)=l.take k++[x]:=by rw [List.take_add_one,h];rfl
theorem Gr.Fits.symB {G:Gr} (F:G.Fits) {r:Rul} (hr:r ∈ G.rules):∀ s ∈ r.right,-(G.nons.length:Int)≤s∧s≤1000:=fun s hs=>by
 have:=F.sym r hr s hs
 have:=F.n1
 omega
theorem rf_grown (h:GH) (G:Gr) (b:Bool) (w:World) (hg:GrAt w h G) (h1:h.n1≤100) (h2:h.n2≤100) (h3:h.n3≤100) :
 Calls Tryz.prog 171 #[GV h G.start, .bool b] w fun e w'=>Below w.heap.size w w' ∧
  ((G.right=false∧e = .returned (.slice none 0 0))∨(G.right=true∧∃ g,w.heap.size≤g∧e = .returned (.slice (some ⟨g,0,none⟩) h.n2 h.n2)∧BoolT w' g (grownN b G))):=by
 obtain ⟨a1,n1,c1,a2,n2,c2,a3,n3,c3⟩:=h
 have e1:G.terms.length=n1:=hg.terms.len
 have e2:G.nons.length=n2:=hg.nons.len
 have e3:G.rules.length=n3:=hg.rules.len
 have k3:=hg.rules.cap
 have k2:=hg.nons.cap
 simp only [] at h1 h2 h3 k3 k2
 have Hg:=LH hg
 have hB0:=alloc_below w (.cells #[.slice a1 n1 c1, .slice a2 n2 c2, .slice a3 n3 c3, .int .i64 G.start] 26)
 have hbox:=GBox.new w 26 ⟨a1,n1,c1,a2,n2,c2,a3,n3,c3⟩ G.start
 have hmk:=make_bools n2 (by omega)
 have hX0:=Blk.new w 26 #[.slice a1 n1 c1, .slice a2 n2 c2, .slice a3 n3 c3, .int .i64 G.start]
 go_enter Tryz.func171,Tryz.ntmps171
 have ⟨z5,z0,z1,z2,z3⟩:=hbox
 simp only [] at z0 z1 z2 z3
 go_wp2_with fail
 generalize w.alloc (.cells #[.slice a1 n1 c1, .slice a2 n2 c2, .slice a3 n3 c3, .int .i64 G.start] 26)=W0 at *
 have cR:=rf_right9 ⟨a1,n1,c1,a2,n2,c2,a3,n3,c3⟩ G W0 (hg.below hB0) (by simp only [];omega) (by simp only [];omega) (by simp only [];omega)
 (with_reducible refine cR.mono ?_)
 rintro e W1 ⟨rfl,hb1⟩
 have hB1:=below_tail hB0 hb1
 have hbx1:=hbox.below hb1
 have ⟨y5,y0,y1,y2,y3⟩:=hbx1
 simp only [] at y0 y1 y2 y3
 rcases hrt:G.right with _ | _
 · go_wp2_with fail
   go_ret
   exact ⟨hB1, .inl ⟨hrt,rfl⟩⟩
 · have hfit:=Gr.fits hrt
   have Hrt:=LH hrt
   have Hfit:=LH hfit
   have cA:=fun Ar cr (r:Rul) (N:List Bool) w' (hr:r ∈ G.rules) (hrr:Ints .i64 w' Ar r.right.length cr r.right) (hN:BoolT w' W1.heap.size N) (hl:N.length=n2)=>rf_all Ar r.right.length cr W1.heap.size n2 r.right N b w' hrr hN hl (by omega) (by have:=hfit.symB hr;rwa [e2] at this)
   have CA:=LH cA
   clear hrt hfit cA
   go_wp2_with fail
   have hT0:=BoolT.new W1 (List.replicate n2 false)
   have hB10:=alloc_below W1 (.cells (bools (List.replicate n2 false)).toArray 4)
   generalize W1.alloc (.cells (bools (List.replicate n2 false)).toArray 4)=W2 at *
   have hsz:=hT0.lt
   clear y0 y1 y2 y3 z0 z1 z2 z3
   go_loopw [6,7] (fun i _ wr=>∃ (k:Nat),k≤n2∧i = .int .i64 (k:Int)∧Below W1.heap.size W1 wr∧BoolT wr W1.heap.size (iter (passN (bareP b) G.rules) k (List.replicate n2 false))) (fun i _ _=>n2 - (intOf i).toNat)
   case atStart=>exact ⟨0,Nat.zero_le _,rfl,hB10,hT0⟩
   case round =>
    clear hT0 hB10 hsz
    obtain ⟨k,hk,rfl,hB,hT⟩:=hrel
    have ⟨y5,y0,y1,y2,y3⟩:=hbx1.below hB
    simp only [] at y0 y1 y2 y3
    by_cases hkk:k < n2
    · go_wp2_with fail
      clear y0 y1 y2 y3
      have hNl:(iter (passN (bareP b) G.rules) k (List.replicate n2 false)).length=n2:=by rw [iterN_len];simp
      have Hit:Hid (passN (bareP b) G.rules (iter (passN (bareP b) G.rules) k (List.replicate n2 false))=iter (passN (bareP b) G.rules) (k+1) (List.replicate n2 false)):=LH rfl
      generalize iter (passN (bareP b) G.rules) k (List.replicate n2 false)=N at *
      go_loopw [7] (fun i wz=>∃ (j:Nat),j≤n3∧i = .int .i64 (j:Int)∧Below W1.heap.size W1 wz∧BoolT wz W1.heap.size (passN (bareP b) (G.rules.take j) N)) (fun i _=>n3 - (intOf i).toNat)
      case atStart=>exact ⟨0,Nat.zero_le _,rfl,hB,by simpa [passN] using hT⟩
      case round =>
       clear hB hT
       obtain ⟨j,hj,rfl,hB,hT⟩:=hrel
       have ⟨y5,y0,y1,y2,y3⟩:=hbx1.below hB
       simp only [] at y0 y1 y2 y3
       by_cases hjj:j < n3
       · obtain ⟨bb,off,r,Ar,cr,rfl,hb,Hr,q0,q1,q2,hrr⟩:=Hg.out.rules.get hjj
         have hBw:=below_tail hB1 hB
         rw [← hBw.cell (by exact hb)] at q0 q1 q2
         have hmem:=List.mem_of_getElem? Hr.out
         have hNj:(passN (bareP b) (G.rules.take j) N).length=n2:=by rw [passN_len];exact hNl
         have hnx:passN (bareP b) (G.rules.take (j+1)) N=growN (bareP b) r (passN (bareP b) (G.rules.take j) N):=by rw [take_snoc' Hr.out,passN_snoc]
         have hlt:W1.heap.size < wr.heap.size:=hT.lt
         have hfz:∀ i,wr.frozen? ⟨W1.heap.size,i,none⟩=false:=fun i=>Blk.frozen hT i
         have cA:=CA.out Ar cr r _ wr hmem (hrr.below hBw) hT hNj
         obtain ⟨l1,l2⟩:=Hfit.out.left r hmem
         obtain ⟨jl,hjl⟩:∃ jl:Nat,r.left=(jl:Int):=⟨r.left.toNat,by omega⟩
         have hnx2:passN (bareP b) (G.rules.take (j+1)) N=if allP b (passN (bareP b) (G.rules.take j) N) r.right then (passN (bareP b) (G.rules.take j) N).set jl true else passN (bareP b) (G.rules.take j) N:=by
          rw [hnx];unfold growN bareP;rw [show r.left.toNat=jl by omega]
         rw [hjl] at q0
         have hjl2:jl < n2:=by omega
         have Hput:=LH (hT.put jl true)
         have Hnx:=LH hnx2
         have HT:=LH hT
         have HB:=LH hB
         have hcell:=hT.at (i:=jl) (by omega)
         generalize (passN (bareP b) (G.rules.take j) N).getD jl false=old at *
         generalize allP b (passN (bareP b) (G.rules.take j) N) r.right=tst at *
         have CB:=LH cA
         clear cA hnx hnx2 hT hrr hB hjl l1 l2
         rcases (by cases tst <;> simp:tst=false∨tst=true) with rfl | rfl
         · go_wp2_with (go_at_call 111;(with_reducible refine CB.out.mono ?_);rintro e w3 ⟨rfl,rfl⟩)
           go_roundw
           case rel=>exact ⟨j+1,by omega,by go_num,HB.out,by rw [Hnx.out];exact HT.out⟩
           case measure=>simp [intOf];omega
         · go_wp2_with (go_at_call 111;(with_reducible refine CB.out.mono ?_);rintro e w3 ⟨rfl,rfl⟩)
           go_roundw
           case rel=>exact ⟨j+1,by omega,by go_num,HB.out.trans (grown_is_below (grown_set _ _ _ _) (Nat.le_of_lt hlt) (Nat.le_refl _)),by rw [Hnx.out];exact Hput.out⟩
           case measure=>simp [intOf];omega
       · obtain rfl:j=n3:=by omega
         rw [List.take_of_length_le (by omega),Hit.out] at hT
         go_wp2_with fail
         go_roundw
         case rel=>exact ⟨k+1,by omega,by go_num,hB,hT⟩
         case measure=>simp [intOf];omega
    · obtain rfl:k=n2:=by omega
      have hfin:grownN b G=iter (passN (bareP b) G.rules) k (List.replicate k false):=by unfold grownN;rw [e2]
      rw [← hfin] at hT
      go_wp2_with fail
      go_ret
      exact ⟨below_tail hB1 hB, .inr ⟨Hrt.out,W1.heap.size,hB1.size,rfl,hT⟩⟩
theorem rf_Nullable (h:GH) (G:Gr) (w:World) (hg:GrAt w h G) (h1:h.n1≤100) (h2:h.n2≤100) (h3:h.n3≤100) :
 Calls Tryz.prog 113 #[GV h G.start] w fun e w'=>Below w.heap.size w w' ∧
  ((G.right=false∧e = .returned (.slice none 0 0))∨(G.right=true∧∃ g,w.heap.size≤g∧e = .returned (.slice (some ⟨g,0,none⟩) h.n2 h.n2)∧BoolT w' g (nullN G))):=by
 obtain ⟨a1,n1,c1,a2,n2,c2,a3,n3,c3⟩:=h
 simp only [] at h1 h2 h3
 have hB0:=alloc_below w (.cells #[.slice a1 n1 c1, .slice a2 n2 c2, .slice a3 n3 c3, .int .i64 G.start] 26)
 have hbox:=GBox.new w 26 ⟨a1,n1,c1,a2,n2,c2,a3,n3,c3⟩ G.start
 go_enter Tryz.func113,Tryz.ntmps113
 have ⟨z5,z0,z1,z2,z3⟩:=hbox
 simp only [] at z0 z1 z2 z3
 go_wp2_with fail
 generalize w.alloc (.cells #[.slice a1 n1 c1, .slice a2 n2 c2, .slice a3 n3 c3, .int .i64 G.start] 26)=W0 at *
 (with_reducible refine (rf_grown ⟨a1,n1,c1,a2,n2,c2,a3,n3,c3⟩ G false W0 (hg.below hB0) (by simp only [];omega) (by simp only [];omega) (by simp only [];omega)).mono ?_)
 rintro e W1 ⟨hb,⟨hr,rfl⟩ | ⟨hr,g,hgs,rfl,hT⟩⟩
 · go_wp2_with fail
   go_ret
   exact ⟨below_tail hB0 hb, .inl ⟨hr,rfl⟩⟩
 · go_wp2_with fail
   go_ret
   exact ⟨below_tail hB0 hb, .inr ⟨hr,g,Nat.le_trans hB0.size hgs,rfl,hT⟩⟩
theorem enters_bare1:∀ args w,(callFunc 198 args).run Tryz.prog w = .ok (.enter 198 args) w:=fun args w=>by kernel_rfl
theorem enters_within1:∀ args w,(callFunc 170 args).run Tryz.prog w = .ok (.enter 170 args) w:=fun args w=>by kernel_rfl
theorem tr_bare1 (s:Int) (w:World):Calls Tryz.prog 198 #[.int .i64 s] w fun e w'=>e = .returned (.bool (decide (0≤s)))∧w=w':=by
 go_enter Tryz.func198,Tryz.ntmps198
 go_wp2_with fail
 go_ret
 exact ⟨rfl,rfl⟩
def offN (N:List Bool) (s:Int):Bool:=decide (s < 0) && !N.getD (nonI s) false
theorem tr_within1 (s:Int) (b g n:Nat) (N:List Bool) (w:World) (hb:w.cell? ⟨b,0,none⟩=some (.slice (some ⟨g,0,none⟩) n n)) (hN:BoolT w g N) (hn:N.length=n) (hn2:n≤1000) (hs:-(n:Int)≤s∧s≤1000) :
 Calls Tryz.prog 170 #[.int .i64 s, .pointer (some ⟨b,0,none⟩)] w fun e w'=>e = .returned (.bool (offN N s))∧w=w':=by
 by_cases h0:s < 0
 · obtain ⟨j,hj,hnj,hw⟩:=non_place h0 hs.1 hn2
   have c0:=hN.at (i:=j) (by omega)
   have Hf:Hid (offN N s=!N.getD j false):=LH (by unfold offN;rw [decide_eq_true h0,hnj];rfl)
   generalize N.getD j false=x at *
   clear hN
   go_enter Tryz.func170,Tryz.ntmps170
   go_wp2_with fail
   go_ret
   exact ⟨by rw [Hf.out];rfl,rfl⟩
 · have Hf:Hid (offN N s=false):=LH (by unfold offN;rw [decide_eq_false h0];rfl)
   clear hN
   go_enter Tryz.func170,Tryz.ntmps170
   go_wp2_with fail
   go_ret
   exact ⟨by rw [Hf.out];rfl,rfl⟩
theorem tr_bare (left:Int) (Ar:Option Addr) (cr:Nat) (ss:List Int) (prec:Int) (w:World) (hr:Ints .i64 w Ar ss.length cr ss) :
 Calls Tryz.prog 152 #[.agg #[.int .i64 left, .slice Ar ss.length cr, .int .i64 prec]] w fun e w'=>e = .returned (.bool (!ss.any fun s=>decide (0≤s)))∧Below w.heap.size w w':=by
 have hB0:=alloc_below w (.cells #[.int .i64 left, .slice Ar ss.length cr, .int .i64 prec] 52)
 have hbox:=RBox.new w 52 left Ar ss.length cr prec
 go_enter Tryz.func152,Tryz.ntmps152
 have ⟨z5,z0,z1,z2⟩:=hbox
 go_wp2_with fail
 generalize w.alloc (.cells #[.int .i64 left, .slice Ar ss.length cr, .int .i64 prec] 52)=W0 at *
 have hT:Tells 198 #[] (Value.int .i64) W0 ss (fun s=>decide (0≤s)):=fun s _ w' _=>by
  show Calls Tryz.prog 198 #[.int .i64 s] w' _
  exact (tr_bare1 s w').mono fun e w'' hh=>⟨hh.1,by rw [← hh.2];exact Below.refl _ _⟩
 (with_reducible refine (sl_contains_ints Ar ss.length cr ss 198 #[] (fun s=>decide (0≤s)) W0 enters_bare1 (hr.below hB0) hT).mono ?_)
 rintro e W1 ⟨rfl,hb⟩
 go_wp2_with fail
 go_ret
 exact ⟨rfl,below_tail hB0 hb⟩
theorem tr_within (left:Int) (Ar:Option Addr) (cr g n:Nat) (ss:List Int) (prec:Int) (N:List Bool) (w:World) (hr:Ints .i64 w Ar ss.length cr ss) (hN:BoolT w g N) (hn:N.length=n) (hn2:n≤1000) (hs:∀ s ∈ ss,-(n:Int)≤s∧s≤1000) :
 Calls Tryz.prog 108 #[.agg #[.int .i64 left, .slice Ar ss.length cr, .int .i64 prec], .slice (some ⟨g,0,none⟩) n n] w fun e w'=>e = .returned (.bool (!ss.any (offN N)))∧Below w.heap.size w w':=by
 have hB0:=alloc_below w (.cells #[.int .i64 left, .slice Ar ss.length cr, .int .i64 prec] 52)
 have hbox:=RBox.new w 52 left Ar ss.length cr prec
 go_enter Tryz.func108,Tryz.ntmps108
 have hB1:=hB0.alloc hB0.size (.cells #[.slice (some ⟨g,0,none⟩) n n] 97)
 have hbx:=hbox.below (alloc_below _ (.cells #[.slice (some ⟨g,0,none⟩) n n] 97))
 have hpb:=Blk.new (w.alloc (.cells #[.int .i64 left, .slice Ar ss.length cr, .int .i64 prec] 52)) 97 #[.slice (some ⟨g,0,none⟩) n n]
 have hsz:=alloc_size w (.cells #[.int .i64 left, .slice Ar ss.length cr, .int .i64 prec] 52)
 rw [hsz] at hpb
 have ⟨z5,z0,z1,z2⟩:=hbx
 clear hsz
 go_wp2_with fail
 generalize (w.alloc (.cells #[.int .i64 left, .slice Ar ss.length cr, .int .i64 prec] 52)).alloc (.cells #[.slice (some ⟨g,0,none⟩) n n] 97)=W0 at *
 have hT:Tells 170 #[.pointer (some ⟨w.heap.size+1,0,none⟩)] (Value.int .i64) W0 ss (offN N):=fun s hs' w' hb'=>by
  have hc:w'.cell? ⟨w.heap.size+1,0,none⟩=some (.slice (some ⟨g,0,none⟩) n n):=by
   have:=Blk.cell (Blk.ext hpb hb') 0
   simpa using this
  exact (tr_within1 s (w.heap.size+1) g n N w' hc (Blk.ext (Blk.ext hN hB1) hb') hn hn2 (hs s hs')).mono fun e w'' hh=>⟨hh.1,by rw [← hh.2];exact Below.refl _ _⟩
 (with_reducible refine (sl_contains_ints Ar ss.length cr ss 170 _ (offN N) W0 enters_within1 (hr.below hB1) hT).mono ?_)
 rintro e W1 ⟨rfl,hb⟩
 go_wp2_with fail
 go_ret
 exact ⟨rfl,below_tail hB1 hb⟩
def setI (N:List Bool) (ids:List Int):List Bool:=ids.foldl (fun N s=>N.set s.toNat true) N
def growI (ids:Rul→List Bool→List Int) (r:Rul) (N:List Bool):List Bool:=setI N (ids r N)
def passI (ids:Rul→List Bool→List Int) (rs:List Rul) (N:List Bool):List Bool:=rs.foldl (fun N r=>growI ids r N) N
theorem setI_snoc (N:List Bool) (l:List Int) (s:Int):setI N (l++[s])=(setI N l).set s.toNat true:=by simp [setI]
theorem passI_snoc (ids:Rul→List Bool→List Int) (rs:List Rul) (r:Rul) (N:List Bool):passI ids (rs++[r]) N=growI ids r (passI ids rs N):=by simp [passI]
def LeB (a b:List Bool):Prop:=a.length=b.length∧∀ i:Nat,a[i]? = some true→b[i]? = some true
theorem LeB.refl (a:List Bool):LeB a a:=⟨rfl,fun _ h=>h⟩
theorem LeB.trans {a b c:List Bool} (h:LeB a b) (k:LeB b c):LeB a c:=⟨h.1.trans k.1,fun i hi=>k.2 i (h.2 i hi)⟩
theorem LeB.anti {a b:List Bool} (h:LeB a b) (k:LeB b a):a=b:=bools_ext h.1 h.2 k.2
theorem LeB.set (a:List Bool) (i:Nat):LeB a (a.set i true):=⟨by simp,fun j hj=>by
 rw [List.getElem?_set]
 split
 · rename_i he;subst he;simp [(List.getElem?_eq_some_iff.1 hj).1]
 · exact hj⟩
theorem setI_le (N:List Bool):∀ (l:List Int),LeB N (setI N l):=fun l=>by
 induction l generalizing N with
 | nil=>exact LeB.refl N
 | cons s l ih=>exact (LeB.set N s.toNat).trans (ih _)
theorem passI_grows (ids:Rul→List Bool→List Int):∀ rs,Grows (passI ids rs)
 | []=>Grows.id
 | r::rs=>Grows.comp (f:=growI ids r) ⟨fun N=>((setI_le N (ids r N)).1).symm,fun N i h=>(setI_le N (ids r N)).2 i h⟩ (passI_grows ids rs)
theorem passI_len (ids:Rul→List Bool→List Int) (rs:List Rul) (N:List Bool):(passI ids rs N).length=N.length:=(passI_grows ids rs).len N
theorem passI_le (ids:Rul→List Bool→List Int) (rs:List Rul) (N:List Bool):LeB N (passI ids rs N):=⟨(passI_len ids rs N).symm,fun i h=>(passI_grows ids rs).up N i h⟩
theorem setI_len (N:List Bool) (l:List Int):(setI N l).length=N.length:=(setI_le N l).1.symm
def Apart (A:Option Addr) (g:Nat):Prop:=∀ b off,A=some ⟨b,off,none⟩→b ≠ g
def grewB (N cur:List Bool):Bool:=!decide (cur=N)
theorem grew_start (N:List Bool):grewB N N=false:=by simp [grewB]
theorem grew_set {N cur:List Bool} (h:LeB N cur) {i:Nat} (hi:i < cur.length):grewB N (cur.set i true)=(grewB N cur || !cur.getD i false):=by
 unfold grewB
 by_cases he:cur=N
 · subst he
   cases hx:cur.getD i false
   · have:cur.set i true ≠ cur:=fun hc=>by
      have:=congrArg (fun l:List Bool=>l.getD i false) hc
      simp [List.getD_eq_getElem?_getD,hi] at this hx
      rw [this] at hx
      cases hx
     simp [this]
   · have:cur.set i true=cur:=by
      rw [List.getD_eq_getElem?_getD,List.getElem?_eq_getElem hi] at hx
      have hx:cur[i]=true:=hx
      rw [← hx,List.set_getElem_self]
     simp [this]
 · have:cur.set i true ≠ N:=fun hc=>he ((LeB.anti h (by rw [← hc];exact LeB.set cur i)).symm)
   simp [he,this]
theorem iterI_len (ids:Rul→List Bool→List Int) (rs:List Rul) (N:List Bool):∀ k,(iter (passI ids rs) k N).length=N.length
 | 0=>rfl
 | k+1=>by rw [iter,passI_len,iterI_len ids rs N k]
theorem tr_grow (h:GH) (G:Gr) (gf:FuncId) (caps:Array Value) (eg:∀ args w,(callFunc gf args).run Tryz.prog w = .ok (.enter gf args) w) (ids:Rul→List Bool→List Int) (g n:Nat) (N0:List Bool) (WB w:World)
 (hg:GrAt WB h G) (hWB:Below WB.heap.size WB w) (hgB:WB.heap.size≤g) (hn:n≤1000) (hN0:BoolT w g N0) (hl0:N0.length=n) (h3:h.n3≤1000)
 (hids:∀ r ∈ G.rules,∀ N,N.length=n→∀ s ∈ ids r N,0≤s∧s < (n:Int))
 (hnext:∀ r ∈ G.rules,∀ Ar cr N w',w.grownBy w' (some g)→Ints .i64 w' Ar r.right.length cr r.right→BoolT w' g N→N.length=n →
   Calls Tryz.prog gf (#[.agg #[.int .i64 r.left, .slice Ar r.right.length cr, .int .i64 r.prec], .slice (some ⟨g,0,none⟩) n n]++caps) w' fun e w''=>Below w'.heap.size w' w''∧∃ A m c,e = .returned (.slice A m c)∧Ints .i64 w'' A m c (ids r N)∧Apart A g) :
 Calls Tryz.prog 150 #[GV h G.start, .slice (some ⟨g,0,none⟩) n n, .func (.func gf) #[] caps] w fun e w' =>
  e = .returned (.slice (some ⟨g,0,none⟩) n n)∧w.grownBy w' (some g)∧BoolT w' g (iter (passI ids G.rules) n N0):=by
 obtain ⟨a1,n1,c1,a2,n2,c2,a3,n3,c3⟩:=h
 have e3:G.rules.length=n3:=hg.rules.len
 have k3:=hg.rules.cap
 simp only [] at h3 k3
 have Hg:=LH hg
 have Hids:=LH hids
 have Hnext:=LH hnext
 have HWB:=LH hWB
 clear hids hnext hg hWB
 have hgr0:=grown_below (some g) (alloc_below w (.cells #[.slice a1 n1 c1, .slice a2 n2 c2, .slice a3 n3 c3, .int .i64 G.start] 26))
 have hbox:=GBox.new w 26 ⟨a1,n1,c1,a2,n2,c2,a3,n3,c3⟩ G.start
 have hX0:=Blk.new w 26 #[.slice a1 n1 c1, .slice a2 n2 c2, .slice a3 n3 c3, .int .i64 G.start]
 have hT0:BoolT (w.alloc (.cells #[.slice a1 n1 c1, .slice a2 n2 c2, .slice a3 n3 c3, .int .i64 G.start] 26)) g N0:=Blk.ext hN0 (alloc_below _ _)
 have hgw:g < w.heap.size:=hN0.lt
 clear hN0
 go_enter Tryz.func150,Tryz.ntmps150
 have ⟨z5,z0,z1,z2,z3⟩:=hbox
 simp only [] at z0 z1 z2 z3
 go_wp2_with fail
 generalize w.alloc (.cells #[.slice a1 n1 c1, .slice a2 n2 c2, .slice a3 n3 c3, .int .i64 G.start] 26)=W0 at *
 clear z0 z1 z2 z3 hbox
 go_loopg [7] (n+2) (fun q v wr=>∃ (m:Nat) (b:Bool),v = .bool b∧q+m=n+2∧Hid (b=true→m≤n)∧w.grownBy wr (some g)∧Blk wr w.heap.size 26 #[.slice a1 n1 c1, .slice a2 n2 c2, .slice a3 n3 c3, .int .i64 G.start]∧BoolT wr g (iter (passI ids G.rules) m N0) ∧
  Hid (b=false→passI ids G.rules (iter (passI ids G.rules) m N0)=iter (passI ids G.rules) m N0))
 case atStart=>exact ⟨0,true,rfl,by omega,LH fun _=>by omega,hgr0,hX0,hT0,LH fun h=>by cases h⟩
 case round =>
  clear hgr0 hX0 hT0
  obtain ⟨m,b,rfl,hq,Hm,hgr,hX,hT,Hfx⟩:=hrel
  have x2:=Blk.cell hX 2
  simp only [List.getElem?_toArray,List.getElem?_cons_zero,List.getElem?_cons_succ] at x2
  rcases (by cases b <;> simp:b=false∨b=true) with rfl | rfl
  · have hfx:=Hfx.out rfl
    have hall:=(passI_grows ids G.rules).fix N0
    rw [hl0] at hall
    rw [iter_done hall hfx] at hT
    have HT:=LH hT
    clear hT Hm Hfx hfx hall
    go_wp2_with fail
    go_ret
    exact ⟨rfl,hgr,HT.out⟩
  · have hmn:=Hm.out rfl
    go_wp2_with fail
    have hNl:(iter (passI ids G.rules) m N0).length=n:=by rw [iterI_len];exact hl0
    have Hit:Hid (passI ids G.rules (iter (passI ids G.rules) m N0)=iter (passI ids G.rules) (m+1) N0):=LH rfl
    have Hmore:Hid (passI ids G.rules (iter (passI ids G.rules) m N0) ≠ iter (passI ids G.rules) m N0→m < n):=LH fun hne=>by
     have hall:=(passI_grows ids G.rules).fix N0
     rw [hl0] at hall
     exact iter_more hall hne
    generalize iter (passI ids G.rules) m N0=N at *
    go_loopw [7,9,16] (fun v _ i wz=>∃ (j:Nat),j≤n3∧i = .int .i64 (j:Int)∧v = .bool (grewB N (passI ids (G.rules.take j) N))∧w.grownBy wz (some g)∧Blk wz w.heap.size 26 #[.slice a1 n1 c1, .slice a2 n2 c2, .slice a3 n3 c3, .int .i64 G.start]∧BoolT wz g (passI ids (G.rules.take j) N)) (fun _ _ i _=>n3 - (intOf i).toNat)
    case atStart=>exact ⟨0,Nat.zero_le _,rfl,by rw [show passI ids (G.rules.take 0) N=N from rfl,grew_start],hgr,hX,hT⟩
    case round =>
     clear hgr hX hT x2
     obtain ⟨j,hj,rfl,rfl,hgr,hX,hT⟩:=hrel
     by_cases hjj:j < n3
     · obtain ⟨bb,off,r,Ar,cr,rfl,hb,Hr,q0,q1,q2,hrr⟩:=Hg.out.rules.get hjj
       have hBw:Below WB.heap.size WB wr:=HWB.out.trans (grown_is_below hgr HWB.out.size hgB)
       rw [← hBw.cell (by exact hb)] at q0 q1 q2
       have hmem:=List.mem_of_getElem? Hr.out
       have hcl:(passI ids (G.rules.take j) N).length=n:=by rw [passI_len];exact hNl
       have hnx:passI ids (G.rules.take (j+1)) N=setI (passI ids (G.rules.take j) N) (ids r (passI ids (G.rules.take j) N)):=by rw [take_snoc' Hr.out,passI_snoc];rfl
       have hle:LeB N (passI ids (G.rules.take j) N):=passI_le ids _ N
       have Hnx:=LH hnx
       have Hle:=LH hle
       clear hnx hle
       generalize passI ids (G.rules.take j) N=cur at *
       have hB1:=alloc_below wr (.cells #[.int .i64 r.left, .slice Ar r.right.length cr, .int .i64 r.prec] 52)
       have hgr1:=grown_trans hgr (grown_below (some g) hB1)
       have hX1:=Blk.ext hX hB1
       have hT1:BoolT (wr.alloc (.cells #[.int .i64 r.left, .slice Ar r.right.length cr, .int .i64 r.prec] 52)) g cur:=Blk.ext hT hB1
       have hrr1:=(hrr.below hBw).below hB1
       have hy1:=RBox.new wr 52 r.left Ar r.right.length cr r.prec
       clear hgr hX hT
       have ⟨u5,u0,u1,u2⟩:=hy1
       have hC:=Hnext.out r hmem Ar cr cur _ hgr1 hrr1 hT1 hcl
       have hL:=Hids.out r hmem cur hcl
       generalize ids r cur=L at *
       have HC:=LH hC
       have HL:=LH hL
       clear hC hL hrr1 hy1
       go_wp2_with (go_at_fn gf;refine HC.out.mono ?_;rintro e w2 ⟨hb2,Ai,mi,ci,rfl,hI,hap⟩)
       generalize wr.alloc (.cells #[.int .i64 r.left, .slice Ar r.right.length cr, .int .i64 r.prec] 52)=W1 at *
       have hgr2:=grown_trans hgr1 (grown_below (some g) hb2)
       have hX2:=Blk.ext hX1 hb2
       have hT2:BoolT w2 g cur:=Blk.ext hT1 hb2
       have hLl:L.length=mi:=hI.len
       have hIc:=hI.cap
       have HI:=LH hI
       have Hap:=LH hap
       have Hgr2:=LH hgr2
       have hgw2:g < w2.heap.size:=hT2.lt
       clear q0 q1 q2 hrr HC hgr1 hX1 hT1 hI hap
       go_loopw [7,11,25] (fun v _ i wz=>∃ (p:Nat),p≤mi∧i = .int .i64 (p:Int)∧v = .bool (grewB N (setI cur (L.take p)))∧w2.grownBy wz (some g)∧Blk wz w.heap.size 26 #[.slice a1 n1 c1, .slice a2 n2 c2, .slice (some ⟨bb,off,none⟩) n3 c3, .int .i64 G.start]∧BoolT wz g (setI cur (L.take p))) (fun _ _ i _=>mi - (intOf i).toNat)
       case atStart=>exact ⟨0,Nat.zero_le _,rfl,rfl,grown_refl _ _,hX2,hT2⟩
       case round =>
        clear hX2 hT2
        obtain ⟨p,hp,rfl,rfl,hgr,hX,hT⟩:=hrel
        by_cases hpp:p < mi
        · obtain ⟨ib,io,s,rfl,hib,Hs,hsc⟩:=HI.out.get hpp
          have hne:=Hap.out ib io rfl
          have q3:=(grown_frozen hgr (b:=ib) (o:=io+p) hib hne).trans hsc
          obtain ⟨s1,s2⟩:=HL.out s (List.mem_of_getElem? Hs.out)
          obtain ⟨sj,rfl⟩:∃ sj:Nat,s=(sj:Int):=⟨s.toNat,by omega⟩
          have hnx:setI cur (L.take (p+1))=(setI cur (L.take p)).set sj true:=by rw [take_snoc' Hs.out,setI_snoc];simp
          have hcl2:(setI cur (L.take p)).length=n:=by rw [setI_len];exact hcl
          have hle2:LeB N (setI cur (L.take p)):=Hle.out.trans (setI_le cur _)
          have hgs:=grew_set hle2 (i:=sj) (by omega)
          have hat:=hT.at (i:=sj) (by omega)
          have hput:=hT.put sj true
          have hfz:=Blk.frozen hT sj
          have hX3:=hX.other g sj (.bool true) (by omega)
          have Hnx:=LH hnx
          have Hgs:=LH hgs
          have Hput:=LH hput
          have HX3:=LH hX3
          have Hgr:=LH hgr
          have hsj:sj < n:=by omega
          clear hnx hle2 hgs hput hX3 hgr hX hT hcl2
          generalize (setI cur (L.take p)).getD sj false=x at *
          generalize grewB N (setI cur (L.take p))=y at *
          rcases (by cases y <;> simp:y=false∨y=true) with rfl | rfl
          all_goals
           go_wp2_with fail
           go_roundw
           case rel=>exact ⟨p+1,by omega,by go_num,by rw [Hnx.out,Hgs.out];simp,grown_trans Hgr.out (grown_set _ _ _ _),HX3.out,by rw [Hnx.out];exact Hput.out⟩
           case measure=>simp [intOf];omega
        · obtain rfl:p=mi:=by omega
          rw [List.take_of_length_le (by omega)] at hT ⊢
          rw [← Hnx.out] at hT ⊢
          go_wp2_with fail
          go_roundw
          case rel=>exact ⟨j+1,by omega,by go_num,rfl,grown_trans Hgr2.out hgr,hX,hT⟩
          case measure=>simp [intOf];omega
     · obtain rfl:j=n3:=by omega
       rw [List.take_of_length_le (by omega)] at hT ⊢
       have Hgf:Hid (grewB N (passI ids G.rules N)=true→m+1≤n):=LH fun hgt=>by
        have:m < n:=Hmore.out (by intro he;rw [he,grew_start] at hgt;cases hgt)
        omega
       have Hgf2:Hid (grewB N (passI ids G.rules N)=false→passI ids G.rules (iter (passI ids G.rules) (m+1) N0)=iter (passI ids G.rules) (m+1) N0):=LH fun hgt=>by
        have he:passI ids G.rules N=N:=by simpa [grewB] using hgt
        rw [← Hit.out,he,he]
       generalize grewB N (passI ids G.rules N)=y at *
       rw [Hit.out] at hT
       go_wp2_with fail
       go_roundg (n+1 - m)
       case rel=>exact ⟨m+1,y,rfl,by omega,Hgf,hgr,hX,hT,Hgf2⟩
       case measure=>omega
def nullI (r:Rul) (N:List Bool):List Int:=if allP false N r.right then [r.left] else []
theorem passI_null (rs:List Rul) (N:List Bool):passI nullI rs N=passN (bareP false) rs N:=by
 unfold passI passN
 congr 1
 funext N r
 unfold growI nullI growN bareP setI
 split <;> simp
theorem iterI_null (rs:List Rul) (N:List Bool):∀ k,iter (passI nullI rs) k N=iter (passN (bareP false) rs) k N
 | 0=>rfl
 | k+1=>by rw [iter,iter,iterI_null rs N k,passI_null]
theorem all_split (N:List Bool) (ss:List Int):((!ss.any fun s=>decide (0≤s)) && !ss.any (offN N))=allP false N ss:=by
 unfold allP
 induction ss with
 | nil=>rfl
 | cons s ss ih =>
   rw [List.all_cons,← ih,List.any_cons,List.any_cons]
   unfold offN
   by_cases h:0≤s
   · simp [h]
   · have h2:s < 0:=by omega
     cases N.getD (nonI s) false <;> simp [h,h2]
theorem enters_null1:∀ args w,(callFunc 151 args).run Tryz.prog w = .ok (.enter 151 args) w:=fun args w=>by kernel_rfl
theorem one_int (w:World) (t:TypeId) (x:Int):Ints .i64 (w.alloc (.cells #[.int .i64 x] t)) (some ⟨w.heap.size,0,none⟩) 1 1 [x]:=by
 have:=own_sl (own_made w t 1 [.int .i64 x] rfl (by omega))
 exact this
theorem tr_null1 (r:Rul) (Ar:Option Addr) (cr g n:Nat) (N:List Bool) (w:World) (hr:Ints .i64 w Ar r.right.length cr r.right) (hN:BoolT w g N) (hn:N.length=n) (hn2:n≤1000) (hs:∀ s ∈ r.right,-(n:Int)≤s∧s≤1000) :
 Calls Tryz.prog 151 #[.agg #[.int .i64 r.left, .slice Ar r.right.length cr, .int .i64 r.prec], .slice (some ⟨g,0,none⟩) n n] w fun e w'=>Below w.heap.size w w'∧∃ A m c,e = .returned (.slice A m c)∧Ints .i64 w' A m c (nullI r N)∧Apart A g:=by
 have hgl:g < w.heap.size:=hN.lt
 have hB0:=alloc_below w (.cells #[.int .i64 r.left, .slice Ar r.right.length cr, .int .i64 r.prec] 52)
 have hbox:=RBox.new w 52 r.left Ar r.right.length cr r.prec
 have hsp:=all_split N r.right
 go_enter Tryz.func151,Tryz.ntmps151
 have ⟨z5,z0,z1,z2⟩:=hbox
 have cB:=fun w' (hb:Below w.heap.size w w')=>tr_bare r.left Ar cr r.right r.prec w' (hr.below hb)
 have cW:=fun w' (hb:Below w.heap.size w w')=>tr_within r.left Ar cr g n r.right r.prec N w' (hr.below hb) (Blk.ext hN hb) hn hn2 hs
 generalize (!r.right.any fun s=>decide (0≤s))=b1 at *
 generalize (!r.right.any (offN N))=b2 at *
 have Hnl:Hid (nullI r N=if (b1 && b2) then [r.left] else []):=LH (by unfold nullI;rw [hsp])
 have CB:=LH cB
 have CW:=LH cW
 clear cB cW hsp
 go_wp2_with fail
 generalize w.alloc (.cells #[.int .i64 r.left, .slice Ar r.right.length cr, .int .i64 r.prec] 52)=W0 at *
 have cB:=(CB.out W0 hB0).mono fun e w' hh=>And.intro hh.1 (And.intro (bcell hh.2).1 (LH (below_tail hB0 hh.2)))
 have CB0:=LH cB
 clear cB
 (with_reducible refine CB0.out.mono ?_)
 rintro e w1 ⟨rfl,hc1,Hb1⟩
 have y0:=(hc1 _ 0 z5).trans z0
 have y1:=(hc1 _ 1 z5).trans z1
 have y2:=(hc1 _ 2 z5).trans z2
 have hlt1:w.heap.size < w1.heap.size:=by
  rcases Nat.lt_or_ge w.heap.size w1.heap.size with h | h
  · exact h
  · simp [World.cell?,Array.getElem?_eq_none h] at y0
 rcases (by cases b1 <;> cases b2 <;> simp:b1=false∨(b1=true∧b2=false)∨(b1=true∧b2=true)) with rfl | ⟨rfl,rfl⟩ | ⟨rfl,rfl⟩
 · go_wp2_with fail
   go_ret
   exact ⟨Hb1.out,none,0,0,rfl,by rw [Hnl.out];exact Ints.nil _ _ _ _ (by omega),fun b o h=>by cases h⟩
 · have cW:=(CW.out w1 Hb1.out).mono fun e w' hh=>And.intro hh.1 (And.intro (bcell hh.2).1 (LH (below_tail Hb1.out hh.2)))
   have CW0:=LH cW
   clear cW
   go_wp2_with (go_at_call 108;(with_reducible refine CW0.out.mono ?_);rintro e w2 ⟨rfl,hc2,Hb2⟩)
   go_ret
   exact ⟨Hb2.out,none,0,0,rfl,by rw [Hnl.out];exact Ints.nil _ _ _ _ (by omega),fun b o h=>by cases h⟩
 · have cW:=(CW.out w1 Hb1.out).mono fun e w' hh=>And.intro hh.1 (And.intro (bcell hh.2).1 (LH (below_tail Hb1.out hh.2)))
   have CW0:=LH cW
   clear cW
   go_wp2_with (go_at_call 108;(with_reducible refine CW0.out.mono ?_);rintro e w2 ⟨rfl,hc2,Hb2⟩;have x0:=(hc2 _ 0 hlt1).trans y0)
   go_ret
   refine ⟨Hb2.out.alloc Hb2.out.size _,_,1,1,rfl,by rw [Hnl.out];exact one_int _ _ _,fun b o h=>?_⟩
   injection h with h
   injection h with h _
   have:=Hb2.out.size
   omega
theorem tr_Nullable (h:GH) (G:Gr) (w:World) (hg:GrAt w h G) (hs:∀ t ∈ G.terms,t.name.size≤maxLen) (h1:h.n1≤100) (h2:h.n2≤100) (h3:h.n3≤100) :
 Calls Tryz.prog 91 #[GV h G.start] w fun e w'=>Below w.heap.size w w' ∧
  ((G.right=false∧e = .returned (.slice none 0 0))∨(G.right=true∧∃ g,w.heap.size≤g∧e = .returned (.slice (some ⟨g,0,none⟩) h.n2 h.n2)∧BoolT w' g (nullN G))):=by
 obtain ⟨a1,n1,c1,a2,n2,c2,a3,n3,c3⟩:=h
 have e2:G.nons.length=n2:=hg.nons.len
 have k2:=hg.nons.cap
 simp only [] at h1 h2 h3 k2
 have hB0:=alloc_below w (.cells #[.slice a1 n1 c1, .slice a2 n2 c2, .slice a3 n3 c3, .int .i64 G.start] 26)
 have hbox:=GBox.new w 26 ⟨a1,n1,c1,a2,n2,c2,a3,n3,c3⟩ G.start
 have hmk:=make_bools n2 (by omega)
 go_enter Tryz.func91,Tryz.ntmps91
 have ⟨z5,z0,z1,z2,z3⟩:=hbox
 simp only [] at z0 z1 z2 z3
 go_wp2_with fail
 generalize w.alloc (.cells #[.slice a1 n1 c1, .slice a2 n2 c2, .slice a3 n3 c3, .int .i64 G.start] 26)=W0 at *
 (with_reducible refine (cf_Right ⟨a1,n1,c1,a2,n2,c2,a3,n3,c3⟩ G W0 (hg.below hB0) hs (by simp only [];omega) (by simp only [];omega)).mono ?_)
 rintro e W1 ⟨rfl,hb1⟩
 have hB1:=below_tail hB0 hb1
 have hbx1:=hbox.below hb1
 have ⟨y5,y0,y1,y2,y3⟩:=hbx1
 simp only [] at y0 y1 y2 y3
 rcases hrt:G.right with _ | _
 · go_wp2_with fail
   go_ret
   exact ⟨hB1, .inl ⟨hrt,rfl⟩⟩
 · have hfit:=Gr.fits hrt
   have Hrt:=LH hrt
   have Hfit:=LH hfit
   have hT0:=BoolT.new W1 (List.replicate n2 false)
   have hB10:=alloc_below W1 (.cells (bools (List.replicate n2 false)).toArray 4)
   have hg1:=hg.below hB1
   have hq:=fun W hT hB=>tr_grow ⟨a1,n1,c1,a2,n2,c2,a3,n3,c3⟩ G 151 #[] enters_null1 nullI W1.heap.size n2 (List.replicate n2 false) W1 W hg1 hB (Nat.le_refl _) (by omega) hT (by simp) (by simp only [];omega)
    (fun r hr N hN s hsm=>by
      unfold nullI at hsm
      split at hsm
      · rw [List.mem_singleton] at hsm
        subst hsm
        have:=hfit.left r hr
        rw [e2] at this
        exact this
      · cases hsm)
    (fun r hr Ar cr N w' _ hrr hN hl=>tr_null1 r Ar cr W1.heap.size n2 N w' hrr hN hl (by omega) (by have:=hfit.symB hr;rwa [e2] at this))
   have HQ:=LH hq
   clear hrt hfit hq hg hg1
   go_wp2_with fail
   go_region_with (go_at_call 150;(with_reducible refine (HQ.out _ ?_ ?_).mono ?_);exact hT0;exact ⟨hB10.os,hB10.tape,hB10.output,hB10.size,hB10.block⟩;rintro e w2 ⟨rfl,hgr,hT⟩)
   all_goals
    have hbf:Below W1.heap.size W1 w2:=by
     refine Below.trans ?_ (grown_is_below hgr hB10.size (Nat.le_refl _))
     exact ⟨hB10.os,hB10.tape,hB10.output,hB10.size,hB10.block⟩
    have hfin:nullN G=iter (passI nullI G.rules) n2 (List.replicate n2 false):=by rw [iterI_null];unfold nullN;rw [e2];rfl
    rw [← hfin] at hT
    have HT:=LH hT
    clear hT hfin hgr HQ hT0 hB10 hmk y0 y1 y2 y3 z0 z1 z2 z3
    go_wp2_with fail
    go_ret
    exact ⟨below_tail hB1 hbf, .inr ⟨Hrt.out,W1.heap.size,hB1.size,rfl,HT.out⟩⟩
theorem ref_ints (A1:Option Addr) (n c1:Nat) (xs:List Int) (A2:Option Addr) (m c2:Nat) (ys:List Int) (w:World)
 (h1:Ints .i64 w A1 n c1 xs) (h2:Ints .i64 w A2 m c2 ys) :
 Calls Tryz.prog 37 #[.slice A1 n c1, .slice A2 m c2] w fun e w'=>e = .returned (.bool (xs == ys))∧Same w w':=by
 obtain rfl:=h1.len
 obtain rfl:=h2.len
 have hcap1:=h1.cap
 have hcap2:=h2.cap
 by_cases hne:xs.length=ys.length
 case neg =>
  have e:(xs == ys)=false:=by rw [beq_eq_false_iff_ne];intro h;exact hne (by rw [h])
  have hi:((xs.length:Int) != (ys.length:Int))=true:=by rw [bne_iff_ne];omega
  rw [e]
  clear e hne
  go_enter Tryz.func37,Tryz.ntmps37
  go_wp2
  go_ret
  exact ⟨rfl,Same.refl _⟩
 have hi:((xs.length:Int) != (ys.length:Int))=false:=by rw [bne_eq_false_iff_eq];omega
 have Hne:=LH hne
 clear hne
 go_enter Tryz.func37,Tryz.ntmps37
 go_wp2
 go_loopw [5] (fun i wr=>∃ k:Nat,k≤xs.length∧i = .int .i64 (k:Int)∧Hid (xs.take k=ys.take k)∧Same w wr) (fun i _=>xs.length - (intOf i).toNat)
 case atStart=>exact ⟨0,Nat.zero_le _,rfl,LH rfl,Same.refl _⟩
 case round =>
  obtain ⟨k,hk,rfl,Ht,hS⟩:=hrel
  by_cases hlt:k < xs.length
  · obtain ⟨b1,o1,x,rfl,hb1,Hx,hc1⟩:=(h1.same hS).get (j:=k) hlt
    obtain ⟨b2,o2,y,rfl,hb2,Hy,hc2⟩:=(h2.same hS).get (j:=k) (by have:=Hne.out;omega)
    have g0:(0:Int)≤(k:Int):=by omega
    have g1:(k:Int) < (xs.length:Int):=by omega
    have g2:(k:Int) < (ys.length:Int):=by have:=Hne.out;omega
    by_cases hxy:x=y
    · subst hxy
      go_wp2
      go_quiet (fail)
      go_wp2
      go_roundw
      case rel=>exact ⟨k+1,by omega,by go_num,LH (by rw [List.take_add_one,List.take_add_one,Ht.out,Hx.out,Hy.out]),hS.drewN _⟩
      case measure=>simp [intOf];omega
    · have e:(xs == ys)=false:=by
       rw [beq_eq_false_iff_ne]
       rintro rfl
       have:=Hx.out.symm.trans Hy.out
       exact hxy (by simpa using this)
      have hd:(x != y)=true:=by rw [bne_iff_ne];exact hxy
      have He:=LH e
      clear e hxy
      go_wp2
      go_quiet (fail)
      go_wp2
      go_ret
      exact ⟨by rw [He.out];rfl,hS.drewN _⟩
  · have e:(xs == ys)=true:=by
     have:=Ht.out
     have:=Hne.out
     rw [List.take_of_length_le (by omega),List.take_of_length_le (by omega)] at *
     simpa using ‹_=_›
    have He:=LH e
    clear e
    go_wp2
    go_ret
    exact ⟨by rw [He.out];rfl,hS⟩
theorem bD_set {C:Nat} {w w':World} (h:Below C w w') (hC:C≤w.heap.size) (g i:Nat) (v:Value) (hg:C≤g):Below C w (w'.setCell ⟨g,i,none⟩ v):=h.trans (grown_is_below (grown_set _ _ _ _) (Nat.le_trans hC h.size) hg)
def prodN (G:Gr):List Bool:=grownN true G
def prodI (r:Rul) (N:List Bool):List Int:=if allP true N r.right then [r.left] else []
theorem passI_prod (rs:List Rul) (N:List Bool):passI prodI rs N=passN (bareP true) rs N:=by
 unfold passI passN
 congr 1
 funext N r
 unfold growI prodI growN bareP setI
 split <;> simp
theorem iterI_prod (rs:List Rul) (N:List Bool):∀ k,iter (passI prodI rs) k N=iter (passN (bareP true) rs) k N
 | 0=>rfl
 | k+1=>by rw [iter,iter,iterI_prod rs N k,passI_prod]
theorem all_off (N:List Bool) (ss:List Int):(!ss.any (offN N))=allP true N ss:=by
 unfold allP
 induction ss with
 | nil=>rfl
 | cons s ss ih =>
   rw [List.all_cons,← ih,List.any_cons]
   unfold offN
   by_cases h:0≤s
   · simp [h]
   · have h2:s < 0:=by omega
     cases N.getD (nonI s) false <;> simp [h,h2]
theorem rf_Productive (h:GH) (G:Gr) (w:World) (hg:GrAt w h G) (h1:h.n1≤100) (h2:h.n2≤100) (h3:h.n3≤100) :
 Calls Tryz.prog 109 #[GV h G.start] w fun e w'=>Below w.heap.size w w' ∧
  ((G.right=false∧e = .returned (.slice none 0 0))∨(G.right=true∧∃ g,w.heap.size≤g∧e = .returned (.slice (some ⟨g,0,none⟩) h.n2 h.n2)∧BoolT w' g (prodN G))):=by
 obtain ⟨a1,n1,c1,a2,n2,c2,a3,n3,c3⟩:=h
 simp only [] at h1 h2 h3
 have hB0:=alloc_below w (.cells #[.slice a1 n1 c1, .slice a2 n2 c2, .slice a3 n3 c3, .int .i64 G.start] 26)
 have hbox:=GBox.new w 26 ⟨a1,n1,c1,a2,n2,c2,a3,n3,c3⟩ G.start
 go_enter Tryz.func109,Tryz.ntmps109
 have ⟨z5,z0,z1,z2,z3⟩:=hbox
 simp only [] at z0 z1 z2 z3
 go_wp2_with fail
 generalize w.alloc (.cells #[.slice a1 n1 c1, .slice a2 n2 c2, .slice a3 n3 c3, .int .i64 G.start] 26)=W0 at *
 (with_reducible refine (rf_grown ⟨a1,n1,c1,a2,n2,c2,a3,n3,c3⟩ G true W0 (hg.below hB0) (by simp only [];omega) (by simp only [];omega) (by simp only [];omega)).mono ?_)
 rintro e W1 ⟨hb,⟨hr,rfl⟩ | ⟨hr,g,hgs,rfl,hT⟩⟩
 · go_wp2_with fail
   go_ret
   exact ⟨below_tail hB0 hb, .inl ⟨hr,rfl⟩⟩
 · go_wp2_with fail
   go_ret
   exact ⟨below_tail hB0 hb, .inr ⟨hr,g,Nat.le_trans hB0.size hgs,rfl,hT⟩⟩
theorem enters_prod1:∀ args w,(callFunc 168 args).run Tryz.prog w = .ok (.enter 168 args) w:=fun args w=>by kernel_rfl
theorem tr_prod1 (r:Rul) (Ar:Option Addr) (cr g n:Nat) (N:List Bool) (w:World) (hr:Ints .i64 w Ar r.right.length cr r.right) (hN:BoolT w g N) (hn:N.length=n) (hn2:n≤1000) (hs:∀ s ∈ r.right,-(n:Int)≤s∧s≤1000) :
 Calls Tryz.prog 168 #[.agg #[.int .i64 r.left, .slice Ar r.right.length cr, .int .i64 r.prec], .slice (some ⟨g,0,none⟩) n n] w fun e w'=>Below w.heap.size w w'∧∃ A m c,e = .returned (.slice A m c)∧Ints .i64 w' A m c (prodI r N)∧Apart A g:=by
 have hgl:g < w.heap.size:=hN.lt
 have hB0:=alloc_below w (.cells #[.int .i64 r.left, .slice Ar r.right.length cr, .int .i64 r.prec] 52)
 have hbox:=RBox.new w 52 r.left Ar r.right.length cr r.prec
 have hsp:=all_off N r.right
 go_enter Tryz.func168,Tryz.ntmps168
 have ⟨z5,z0,z1,z2⟩:=hbox
 have cW:=fun w' (hb:Below w.heap.size w w')=>tr_within r.left Ar cr g n r.right r.prec N w' (hr.below hb) (Blk.ext hN hb) hn hn2 hs
 generalize (!r.right.any (offN N))=b2 at *
 have Hnl:Hid (prodI r N=if b2 then [r.left] else []):=LH (by unfold prodI;rw [hsp])
 have CW:=LH cW
 clear cW hsp
 go_wp2_with fail
 generalize w.alloc (.cells #[.int .i64 r.left, .slice Ar r.right.length cr, .int .i64 r.prec] 52)=W0 at *
 have cW:=(CW.out W0 hB0).mono fun e w' hh=>And.intro hh.1 (And.intro (bcell hh.2).1 (LH (below_tail hB0 hh.2)))
 have CW0:=LH cW
 clear cW
 (with_reducible refine CW0.out.mono ?_)
 rintro e w2 ⟨rfl,hc2,Hb2⟩
 have x0:=(hc2 _ 0 z5).trans z0
 rcases (by cases b2 <;> simp:b2=false∨b2=true) with rfl | rfl
 · go_wp2_with fail
   go_ret
   exact ⟨Hb2.out,none,0,0,rfl,by rw [Hnl.out];exact Ints.nil _ _ _ _ (by omega),fun b o h=>by cases h⟩
 · go_wp2_with fail
   go_ret
   refine ⟨Hb2.out.alloc Hb2.out.size _,_,1,1,rfl,by rw [Hnl.out];exact one_int _ _ _,fun b o h=>?_⟩
   injection h with h
   injection h with h _
   have:=Hb2.out.size
   omega
theorem tr_Productive (h:GH) (G:Gr) (w:World) (hg:GrAt w h G) (hs:∀ t ∈ G.terms,t.name.size≤maxLen) (h1:h.n1≤100) (h2:h.n2≤100) (h3:h.n3≤100) :
 Calls Tryz.prog 105 #[GV h G.start] w fun e w'=>Below w.heap.size w w' ∧
  ((G.right=false∧e = .returned (.slice none 0 0))∨(G.right=true∧∃ g,w.heap.size≤g∧e = .returned (.slice (some ⟨g,0,none⟩) h.n2 h.n2)∧BoolT w' g (prodN G))):=by
 obtain ⟨a1,n1,c1,a2,n2,c2,a3,n3,c3⟩:=h
 have e2:G.nons.length=n2:=hg.nons.len
 have k2:=hg.nons.cap
 simp only [] at h1 h2 h3 k2
 have hB0:=alloc_below w (.cells #[.slice a1 n1 c1, .slice a2 n2 c2, .slice a3 n3 c3, .int .i64 G.start] 26)
 have hbox:=GBox.new w 26 ⟨a1,n1,c1,a2,n2,c2,a3,n3,c3⟩ G.start
 have hmk:=make_bools n2 (by omega)
 go_enter Tryz.func105,Tryz.ntmps105
 have ⟨z5,z0,z1,z2,z3⟩:=hbox
 simp only [] at z0 z1 z2 z3
 go_wp2_with fail
 generalize w.alloc (.cells #[.slice a1 n1 c1, .slice a2 n2 c2, .slice a3 n3 c3, .int .i64 G.start] 26)=W0 at *
 (with_reducible refine (cf_Right ⟨a1,n1,c1,a2,n2,c2,a3,n3,c3⟩ G W0 (hg.below hB0) hs (by simp only [];omega) (by simp only [];omega)).mono ?_)
 rintro e W1 ⟨rfl,hb1⟩
 have hB1:=below_tail hB0 hb1
 have hbx1:=hbox.below hb1
 have ⟨y5,y0,y1,y2,y3⟩:=hbx1
 simp only [] at y0 y1 y2 y3
 rcases hrt:G.right with _ | _
 · go_wp2_with fail
   go_ret
   exact ⟨hB1, .inl ⟨hrt,rfl⟩⟩
 · have hfit:=Gr.fits hrt
   have Hrt:=LH hrt
   have Hfit:=LH hfit
   have hT0:=BoolT.new W1 (List.replicate n2 false)
   have hB10:=alloc_below W1 (.cells (bools (List.replicate n2 false)).toArray 4)
   have hg1:=hg.below hB1
   have hq:=fun W hT hB=>tr_grow ⟨a1,n1,c1,a2,n2,c2,a3,n3,c3⟩ G 168 #[] enters_prod1 prodI W1.heap.size n2 (List.replicate n2 false) W1 W hg1 hB (Nat.le_refl _) (by omega) hT (by simp) (by simp only [];omega)
    (fun r hr N hN s hsm=>by
      unfold prodI at hsm
      split at hsm
      · rw [List.mem_singleton] at hsm
        subst hsm
        have:=hfit.left r hr
        rw [e2] at this
        exact this
      · cases hsm)
    (fun r hr Ar cr N w' _ hrr hN hl=>tr_prod1 r Ar cr W1.heap.size n2 N w' hrr hN hl (by omega) (by have:=hfit.symB hr;rwa [e2] at this))
   have HQ:=LH hq
   clear hrt hfit hq hg hg1
   go_wp2_with fail
   go_region_with (go_at_call 150;(with_reducible refine (HQ.out _ ?_ ?_).mono ?_);exact hT0;exact ⟨hB10.os,hB10.tape,hB10.output,hB10.size,hB10.block⟩;rintro e w2 ⟨rfl,hgr,hT⟩)
   all_goals
    have hbf:Below W1.heap.size W1 w2:=by
     refine Below.trans ?_ (grown_is_below hgr hB10.size (Nat.le_refl _))
     exact ⟨hB10.os,hB10.tape,hB10.output,hB10.size,hB10.block⟩
    have hfin:prodN G=iter (passI prodI G.rules) n2 (List.replicate n2 false):=by rw [iterI_prod];unfold prodN grownN;rw [e2]
    rw [← hfin] at hT
    have HT:=LH hT
    clear hT hfin hgr HQ hT0 hB10 hmk y0 y1 y2 y3 z0 z1 z2 z3
    go_wp2_with fail
    go_ret
    exact ⟨below_tail hB1 hbf, .inr ⟨Hrt.out,W1.heap.size,hB1.size,rfl,HT.out⟩⟩
end Go.Proofs.YtggbjdmpjidhgaaGreatDoor
