/- nullable: the reference's, walked. -/
import Derived.Test.YtggbjdmpjidhgaaGreatDoorVQGrC3
import Derived.Deep.LoopGhost
import Derived.Deep.RegionWith
set_option linter.unusedVariables false
set_option linter.unusedSimpArgs false
set_option maxHeartbeats 8000000
set_option maxRecDepth 100000
namespace Go.Proofs.YtggbjdmpjidhgaaGreatDoor
open Go.RowKit
def bareP (b:Bool) (r:Rul) (N:List Bool):Bool:=allP b N r.right
def grownN (b:Bool) (G:Gr):List Bool:=iter (passN (bareP b) G.rules) G.nons.length (List.replicate G.nons.length false)
theorem nullN_grown (G:Gr):nullN G=grownN false G:=rfl
theorem passN_len (p:Rul→List Bool→Bool) (a:List Rul) (N:List Bool):(passN p a N).length=N.length:=(passN_grows p a).len N
theorem iterN_len (p:Rul→List Bool→Bool) (a:List Rul) (N:List Bool):∀ k,(iter (passN p a) k N).length=N.length
 | 0=>rfl
 | k+1=>by rw [iter,passN_len,iterN_len p a N k]
theorem take_snoc' {α:Type} {l:List α} {k:Nat} {x:α} (h:l[k]? = some x):l.take (k+1)=l.take k++[x]:=by rw [List.take_add_one,h];rfl
theorem Gr.Fits.symB {G:Gr} (F:G.Fits) {r:Rul} (a:r ∈ G.rules):∀ s ∈ r.right,-(G.nons.length:Int)≤s∧s≤1000:=fun s b=>by
 have:=F.sym r a s b
 have:=F.n1
 omega
theorem rf_grown (h:GH) (G:Gr) (b:Bool) (w:World) (l:GrAt w h G) (X:h.n1≤100) (Y:h.n2≤100) (Z:h.n3≤100) :
 Calls Tryz.prog 171 #[GV h G.start, .bool b] w fun e w'=>Below w.heap.size w w' ∧
  ((G.right=false∧e = .returned (.slice none 0 0))∨(G.right=true∧∃ g,w.heap.size≤g∧e = .returned (.slice (some ⟨g,0,none⟩) h.n2 h.n2)∧BoolT w' g (grownN b G))):=by
 obtain ⟨a1,n1,c1,a2,n2,c2,a3,n3,c3⟩:=h
 have e1:G.terms.length=n1:=l.terms.len
 have z:G.nons.length=n2:=l.nons.len
 have e3:G.rules.length=n3:=l.rules.len
 have k3:=l.rules.cap
 have k2:=l.nons.cap
 simp only [] at X Y Z k3 k2
 have R:=LH l
 have A:=alloc_below w (.cells #[.slice a1 n1 c1, .slice a2 n2 c2, .slice a3 n3 c3, .int .i64 G.start] 26)
 have E:=GBox.new w 26 ⟨a1,n1,c1,a2,n2,c2,a3,n3,c3⟩ G.start
 have a8:=make_bools n2 (by omega)
 have ay:=Blk.new w 26 #[.slice a1 n1 c1, .slice a2 n2 c2, .slice a3 n3 c3, .int .i64 G.start]
 go_enter Tryz.func171,Tryz.ntmps171
 have ⟨z5,z0,z1,z2,z3⟩:=E
 simp only [] at z0 z1 z2 z3
 go_wp2_with fail
 generalize w.alloc (.cells #[.slice a1 n1 c1, .slice a2 n2 c2, .slice a3 n3 c3, .int .i64 G.start] 26)=V at *
 have W:=rf_right9 ⟨a1,n1,c1,a2,n2,c2,a3,n3,c3⟩ G V (l.below A) (by simp only [];omega) (by simp only [];omega) (by simp only [];omega)
 (with_reducible refine W.mono ?_)
 rintro e a ⟨rfl,D⟩
 have n:=below_tail A D
 have s:=E.below D
 have ⟨y5,y0,y1,y2,y3⟩:=s
 simp only [] at y0 y1 y2 y3
 rcases p:G.right with _ | _
 · go_wp2_with fail
   go_ret
   exact ⟨n, .inl ⟨p,rfl⟩⟩
 · have t:=Gr.fits p
   have U:=LH p
   have P:=LH t
   have m:=fun Ar cr (r:Rul) (N:List Bool) w' (hr:r ∈ G.rules) (o:Ints .i64 w' Ar r.right.length cr r.right) (hN:BoolT w' a.heap.size N) (hl:N.length=n2)=>rf_all Ar r.right.length cr a.heap.size n2 r.right N b w' o hN hl (by omega) (by have:=t.symB hr;rwa [z] at this)
   have CA:=LH m
   clear p t m
   go_wp2_with fail
   have q:=BoolT.new a (List.replicate n2 false)
   have B:=alloc_below a (.cells (bools (List.replicate n2 false)).toArray 4)
   generalize a.alloc (.cells (bools (List.replicate n2 false)).toArray 4)=W2 at *
   have ak:=q.lt
   clear y0 y1 y2 y3 z0 z1 z2 z3
   go_loopw [6,7] (fun i _ wr=>∃ (k:Nat),k≤n2∧i = .int .i64 (k:Int)∧Below a.heap.size a wr∧BoolT wr a.heap.size (iter (passN (bareP b) G.rules) k (List.replicate n2 false))) (fun i _ _=>n2 - (intOf i).toNat)
   case atStart=>exact ⟨0,Nat.zero_le _,rfl,B,q⟩
   case round =>
    clear q B ak
    obtain ⟨k,hk,rfl,d,c⟩:=hrel
    have ⟨y5,y0,y1,y2,y3⟩:=s.below d
    simp only [] at y0 y1 y2 y3
    by_cases a7:k < n2
    · go_wp2_with fail
      clear y0 y1 y2 y3
      have ad:(iter (passN (bareP b) G.rules) k (List.replicate n2 false)).length=n2:=by rw [iterN_len];simp
      have S:Hid (passN (bareP b) G.rules (iter (passN (bareP b) G.rules) k (List.replicate n2 false))=iter (passN (bareP b) G.rules) (k+1) (List.replicate n2 false)):=LH rfl
      generalize iter (passN (bareP b) G.rules) k (List.replicate n2 false)=N at *
      go_loopw [7] (fun i M=>∃ (j:Nat),j≤n3∧i = .int .i64 (j:Int)∧Below a.heap.size a M∧BoolT M a.heap.size (passN (bareP b) (G.rules.take j) N)) (fun i _=>n3 - (intOf i).toNat)
      case atStart=>exact ⟨0,Nat.zero_le _,rfl,d,by simpa [passN] using c⟩
      case round =>
       clear d c
       obtain ⟨j,hj,rfl,d,c⟩:=hrel
       have ⟨y5,y0,y1,y2,y3⟩:=s.below d
       simp only [] at y0 y1 y2 y3
       by_cases ag:j < n3
       · obtain ⟨bb,a9,r,Ar,cr,rfl,hb,y,L,q1,q2,o⟩:=R.out.rules.get ag
         have C:=below_tail n d
         rw [← C.cell (by exact hb)] at L q1 q2
         have H:=List.mem_of_getElem? y.out
         have ab:(passN (bareP b) (G.rules.take j) N).length=n2:=by rw [passN_len];exact ad
         have I:passN (bareP b) (G.rules.take (j+1)) N=growN (bareP b) r (passN (bareP b) (G.rules.take j) N):=by rw [take_snoc' y.out,passN_snoc]
         have ai:a.heap.size < wr.heap.size:=c.lt
         have a0:∀ i,wr.frozen? ⟨a.heap.size,i,none⟩=false:=fun i=>Blk.frozen c i
         have m:=CA.out Ar cr r _ wr H (o.below C) c ab
         obtain ⟨l1,l2⟩:=P.out.left r H
         obtain ⟨f,F⟩:∃ f:Nat,r.left=(f:Int):=⟨r.left.toNat,by omega⟩
         have J:passN (bareP b) (G.rules.take (j+1)) N=if allP b (passN (bareP b) (G.rules.take j) N) r.right then (passN (bareP b) (G.rules.take j) N).set f true else passN (bareP b) (G.rules.take j) N:=by
          rw [I];unfold growN bareP;rw [show r.left.toNat=f by omega]
         rw [F] at L
         have a5:f < n2:=by omega
         have T:=LH (c.put f true)
         have x:=LH J
         have O:=LH c
         have v:=LH d
         have az:=c.at (i:=f) (by omega)
         generalize (passN (bareP b) (G.rules.take j) N).getD f false=ba at *
         generalize allP b (passN (bareP b) (G.rules.take j) N) r.right=tst at *
         have u:=LH m
         clear m I J c o d F l1 l2
         rcases (by cases tst <;> simp:tst=false∨tst=true) with rfl | rfl
         · go_wp2_with (go_at_call 111;(with_reducible refine u.out.mono ?_);rintro e w3 ⟨rfl,rfl⟩)
           go_roundw
           case rel=>exact ⟨j+1,by omega,by go_num,v.out,by rw [x.out];exact O.out⟩
           case measure=>simp [intOf];omega
         · go_wp2_with (go_at_call 111;(with_reducible refine u.out.mono ?_);rintro e w3 ⟨rfl,rfl⟩)
           go_roundw
           case rel=>exact ⟨j+1,by omega,by go_num,v.out.trans (grown_is_below (grown_set _ _ _ _) (Nat.le_of_lt ai) (Nat.le_refl _)),by rw [x.out];exact T.out⟩
           case measure=>simp [intOf];omega
       · obtain rfl:j=n3:=by omega
         rw [List.take_of_length_le (by omega),S.out] at c
         go_wp2_with fail
         go_roundw
         case rel=>exact ⟨k+1,by omega,by go_num,d,c⟩
         case measure=>simp [intOf];omega
    · obtain rfl:k=n2:=by omega
      have af:grownN b G=iter (passN (bareP b) G.rules) k (List.replicate k false):=by unfold grownN;rw [z]
      rw [← af] at c
      go_wp2_with fail
      go_ret
      exact ⟨below_tail n d, .inr ⟨U.out,a.heap.size,n.size,rfl,c⟩⟩
theorem enters_bare1:∀ args w,(callFunc 198 args).run Tryz.prog w = .ok (.enter 198 args) w:=fun args w=>by kernel_rfl
theorem enters_within1:∀ args w,(callFunc 170 args).run Tryz.prog w = .ok (.enter 170 args) w:=fun args w=>by kernel_rfl
theorem tr_bare1 (s:Int) (w:World):Calls Tryz.prog 198 #[.int .i64 s] w fun e w'=>e = .returned (.bool (decide (0≤s)))∧w=w':=by
 go_enter Tryz.func198,Tryz.ntmps198
 go_wp2_with fail
 go_ret
 exact ⟨rfl,rfl⟩
def offN (N:List Bool) (s:Int):Bool:=decide (s < 0) && !N.getD (nonI s) false
theorem tr_within1 (s:Int) (b g n:Nat) (N:List Bool) (w:World) (l:w.cell? ⟨b,0,none⟩=some (.slice (some ⟨g,0,none⟩) n n)) (d:BoolT w g N) (o:N.length=n) (f:n≤1000) (k:-(n:Int)≤s∧s≤1000) :
 Calls Tryz.prog 170 #[.int .i64 s, .pointer (some ⟨b,0,none⟩)] w fun e w'=>e = .returned (.bool (offN N s))∧w=w':=by
 by_cases c:s < 0
 · obtain ⟨j,m,h,p⟩:=non_place c k.1 f
   have c0:=d.at (i:=j) (by omega)
   have a:Hid (offN N s=!N.getD j false):=LH (by unfold offN;rw [decide_eq_true c,h];rfl)
   generalize N.getD j false=x at *
   clear d
   go_enter Tryz.func170,Tryz.ntmps170
   go_wp2_with fail
   go_ret
   exact ⟨by rw [a.out];rfl,rfl⟩
 · have a:Hid (offN N s=false):=LH (by unfold offN;rw [decide_eq_false c];rfl)
   clear d
   go_enter Tryz.func170,Tryz.ntmps170
   go_wp2_with fail
   go_ret
   exact ⟨by rw [a.out];rfl,rfl⟩
theorem tr_bare (left:Int) (Ar:Option Addr) (cr:Nat) (ss:List Int) (a:Int) (w:World) (j:Ints .i64 w Ar ss.length cr ss) :
 Calls Tryz.prog 152 #[.agg #[.int .i64 left, .slice Ar ss.length cr, .int .i64 a]] w fun e w'=>e = .returned (.bool (!ss.any fun s=>decide (0≤s)))∧Below w.heap.size w w':=by
 have c:=alloc_below w (.cells #[.int .i64 left, .slice Ar ss.length cr, .int .i64 a] 52)
 have h:=RBox.new w 52 left Ar ss.length cr a
 go_enter Tryz.func152,Tryz.ntmps152
 have ⟨z5,z0,z1,z2⟩:=h
 go_wp2_with fail
 generalize w.alloc (.cells #[.int .i64 left, .slice Ar ss.length cr, .int .i64 a] 52)=b at *
 have f:Tells 198 #[] (Value.int .i64) b ss (fun s=>decide (0≤s)):=fun s _ w' _=>by
  show Calls Tryz.prog 198 #[.int .i64 s] w' _
  exact (tr_bare1 s w').mono fun e l d=>⟨d.1,by rw [← d.2];exact Below.refl _ _⟩
 (with_reducible refine (sl_contains_ints Ar ss.length cr ss 198 #[] (fun s=>decide (0≤s)) b enters_bare1 (j.below c) f).mono ?_)
 rintro e k ⟨rfl,g⟩
 go_wp2_with fail
 go_ret
 exact ⟨rfl,below_tail c g⟩
theorem tr_within (left:Int) (Ar:Option Addr) (cr g n:Nat) (ss:List Int) (a:Int) (N:List Bool) (w:World) (v:Ints .i64 w Ar ss.length cr ss) (l:BoolT w g N) (t:N.length=n) (u:n≤1000) (x:∀ s ∈ ss,-(n:Int)≤s∧s≤1000) :
 Calls Tryz.prog 108 #[.agg #[.int .i64 left, .slice Ar ss.length cr, .int .i64 a], .slice (some ⟨g,0,none⟩) n n] w fun e w'=>e = .returned (.bool (!ss.any (offN N)))∧Below w.heap.size w w':=by
 have d:=alloc_below w (.cells #[.int .i64 left, .slice Ar ss.length cr, .int .i64 a] 52)
 have p:=RBox.new w 52 left Ar ss.length cr a
 go_enter Tryz.func108,Tryz.ntmps108
 have b:=d.alloc d.size (.cells #[.slice (some ⟨g,0,none⟩) n n] 97)
 have q:=p.below (alloc_below _ (.cells #[.slice (some ⟨g,0,none⟩) n n] 97))
 have j:=Blk.new (w.alloc (.cells #[.int .i64 left, .slice Ar ss.length cr, .int .i64 a] 52)) 97 #[.slice (some ⟨g,0,none⟩) n n]
 have k:=alloc_size w (.cells #[.int .i64 left, .slice Ar ss.length cr, .int .i64 a] 52)
 rw [k] at j
 have ⟨z5,z0,z1,z2⟩:=q
 clear k
 go_wp2_with fail
 generalize (w.alloc (.cells #[.int .i64 left, .slice Ar ss.length cr, .int .i64 a] 52)).alloc (.cells #[.slice (some ⟨g,0,none⟩) n n] 97)=c at *
 have m:Tells 170 #[.pointer (some ⟨w.heap.size+1,0,none⟩)] (Value.int .i64) c ss (offN N):=fun s y w' f=>by
  have r:w'.cell? ⟨w.heap.size+1,0,none⟩=some (.slice (some ⟨g,0,none⟩) n n):=by
   have:=Blk.cell (Blk.ext j f) 0
   simpa using this
  exact (tr_within1 s (w.heap.size+1) g n N w' r (Blk.ext (Blk.ext l b) f) t u (x s y)).mono fun e A h=>⟨h.1,by rw [← h.2];exact Below.refl _ _⟩
 (with_reducible refine (sl_contains_ints Ar ss.length cr ss 170 _ (offN N) c enters_within1 (v.below b) m).mono ?_)
 rintro e z ⟨rfl,o⟩
 go_wp2_with fail
 go_ret
 exact ⟨rfl,below_tail b o⟩
def setI (N:List Bool) (ids:List Int):List Bool:=ids.foldl (fun N s=>N.set s.toNat true) N
def growI (ids:Rul→List Bool→List Int) (r:Rul) (N:List Bool):List Bool:=setI N (ids r N)
def passI (ids:Rul→List Bool→List Int) (a:List Rul) (N:List Bool):List Bool:=a.foldl (fun N r=>growI ids r N) N
theorem setI_snoc (N:List Bool) (l:List Int) (s:Int):setI N (l++[s])=(setI N l).set s.toNat true:=by simp [setI]
theorem passI_snoc (ids:Rul→List Bool→List Int) (a:List Rul) (r:Rul) (N:List Bool):passI ids (a++[r]) N=growI ids r (passI ids a N):=by simp [passI]
def LeB (a b:List Bool):Prop:=a.length=b.length∧∀ i:Nat,a[i]? = some true→b[i]? = some true
theorem LeB.refl (a:List Bool):LeB a a:=⟨rfl,fun _ h=>h⟩
theorem LeB.trans {a b c:List Bool} (h:LeB a b) (k:LeB b c):LeB a c:=⟨h.1.trans k.1,fun i hi=>k.2 i (h.2 i hi)⟩
theorem LeB.anti {a b:List Bool} (h:LeB a b) (k:LeB b a):a=b:=bools_ext h.1 h.2 k.2
theorem LeB.set (a:List Bool) (i:Nat):LeB a (a.set i true):=⟨by simp,fun j b=>by
 rw [List.getElem?_set]
 split
 · rename_i c;subst c;simp [(List.getElem?_eq_some_iff.1 b).1]
 · exact b⟩
theorem setI_le (N:List Bool):∀ (l:List Int),LeB N (setI N l):=fun l=>by
 induction l generalizing N with
 | nil=>exact LeB.refl N
 | cons s l a=>exact (LeB.set N s.toNat).trans (a _)
theorem passI_grows (ids:Rul→List Bool→List Int):∀ a,Grows (passI ids a)
 | []=>Grows.id
 | r::a=>Grows.comp (f:=growI ids r) ⟨fun N=>((setI_le N (ids r N)).1).symm,fun N i h=>(setI_le N (ids r N)).2 i h⟩ (passI_grows ids a)
theorem passI_len (ids:Rul→List Bool→List Int) (a:List Rul) (N:List Bool):(passI ids a N).length=N.length:=(passI_grows ids a).len N
theorem passI_le (ids:Rul→List Bool→List Int) (a:List Rul) (N:List Bool):LeB N (passI ids a N):=⟨(passI_len ids a N).symm,fun i h=>(passI_grows ids a).up N i h⟩
theorem setI_len (N:List Bool) (l:List Int):(setI N l).length=N.length:=(setI_le N l).1.symm
def Apart (A:Option Addr) (g:Nat):Prop:=∀ b a,A=some ⟨b,a,none⟩→b ≠ g
def grewB (N a:List Bool):Bool:=!decide (a=N)
theorem grew_start (N:List Bool):grewB N N=false:=by simp [grewB]
theorem grew_set {N a:List Bool} (h:LeB N a) {i:Nat} (hi:i < a.length):grewB N (a.set i true)=(grewB N a || !a.getD i false):=by
 unfold grewB
 by_cases d:a=N
 · subst d
   cases b:a.getD i false
   · have:a.set i true ≠ a:=fun c=>by
      have:=congrArg (fun l:List Bool=>l.getD i false) c
      simp [List.getD_eq_getElem?_getD,hi] at this b
      rw [this] at b
      cases b
     simp [this]
   · have:a.set i true=a:=by
      rw [List.getD_eq_getElem?_getD,List.getElem?_eq_getElem hi] at b
      have b:a[i]=true:=b
      rw [← b,List.set_getElem_self]
     simp [this]
 · have:a.set i true ≠ N:=fun c=>d ((LeB.anti h (by rw [← c];exact LeB.set a i)).symm)
   simp [d,this]
theorem iterI_len (ids:Rul→List Bool→List Int) (a:List Rul) (N:List Bool):∀ k,(iter (passI ids a) k N).length=N.length
 | 0=>rfl
 | k+1=>by rw [iter,passI_len,iterI_len ids a N k]
theorem tr_grow (h:GH) (G:Gr) (gf:FuncId) (ag:Array Value) (eg:∀ args w,(callFunc gf args).run Tryz.prog w = .ok (.enter gf args) w) (ids:Rul→List Bool→List Int) (g n:Nat) (d:List Bool) (z w:World)
 (J:GrAt z h G) (al:Below z.heap.size z w) (b3:z.heap.size≤g) (hn:n≤1000) (O:BoolT w g d) (V:d.length=n) (h3:h.n3≤1000)
 (ax:∀ r ∈ G.rules,∀ N,N.length=n→∀ s ∈ ids r N,0≤s∧s < (n:Int))
 (a4:∀ r ∈ G.rules,∀ Ar cr N w',w.grownBy w' (some g)→Ints .i64 w' Ar r.right.length cr r.right→BoolT w' g N→N.length=n →
   Calls Tryz.prog gf (#[.agg #[.int .i64 r.left, .slice Ar r.right.length cr, .int .i64 r.prec], .slice (some ⟨g,0,none⟩) n n]++ag) w' fun e bf=>Below w'.heap.size w' bf∧∃ A m c,e = .returned (.slice A m c)∧Ints .i64 bf A m c (ids r N)∧Apart A g) :
 Calls Tryz.prog 150 #[GV h G.start, .slice (some ⟨g,0,none⟩) n n, .func (.func gf) #[] ag] w fun e w' =>
  e = .returned (.slice (some ⟨g,0,none⟩) n n)∧w.grownBy w' (some g)∧BoolT w' g (iter (passI ids G.rules) n d):=by
 obtain ⟨a1,n1,c1,a2,n2,c2,a3,n3,c3⟩:=h
 have e3:G.rules.length=n3:=J.rules.len
 have k3:=J.rules.cap
 simp only [] at h3 k3
 have Hg:=LH J
 have bs:=LH ax
 have bv:=LH a4
 have Z:=LH al
 clear ax a4 J al
 have av:=grown_below (some g) (alloc_below w (.cells #[.slice a1 n1 c1, .slice a2 n2 c2, .slice a3 n3 c3, .int .i64 G.start] 26))
 have ar:=GBox.new w 26 ⟨a1,n1,c1,a2,n2,c2,a3,n3,c3⟩ G.start
 have am:=Blk.new w 26 #[.slice a1 n1 c1, .slice a2 n2 c2, .slice a3 n3 c3, .int .i64 G.start]
 have ak:BoolT (w.alloc (.cells #[.slice a1 n1 c1, .slice a2 n2 c2, .slice a3 n3 c3, .int .i64 G.start] 26)) g d:=Blk.ext O (alloc_below _ _)
 have cm:g < w.heap.size:=O.lt
 clear O
 go_enter Tryz.func150,Tryz.ntmps150
 have ⟨z5,z0,z1,z2,z3⟩:=ar
 simp only [] at z0 z1 z2 z3
 go_wp2_with fail
 generalize w.alloc (.cells #[.slice a1 n1 c1, .slice a2 n2 c2, .slice a3 n3 c3, .int .i64 G.start] 26)=W0 at *
 clear z0 z1 z2 z3 ar
 go_loopg [7] (n+2) (fun q v wr=>∃ (m:Nat) (b:Bool),v = .bool b∧q+m=n+2∧Hid (b=true→m≤n)∧w.grownBy wr (some g)∧Blk wr w.heap.size 26 #[.slice a1 n1 c1, .slice a2 n2 c2, .slice a3 n3 c3, .int .i64 G.start]∧BoolT wr g (iter (passI ids G.rules) m d) ∧
  Hid (b=false→passI ids G.rules (iter (passI ids G.rules) m d)=iter (passI ids G.rules) m d))
 case atStart=>exact ⟨0,true,rfl,by omega,LH fun _=>by omega,av,am,ak,LH fun h=>by cases h⟩
 case round =>
  clear av am ak
  obtain ⟨m,b,rfl,hq,Hm,k,l,a,aa⟩:=hrel
  have x2:=Blk.cell l 2
  simp only [List.getElem?_toArray,List.getElem?_cons_zero,List.getElem?_cons_succ] at x2
  rcases (by cases b <;> simp:b=false∨b=true) with rfl | rfl
  · have au:=aa.out rfl
    have B:=(passI_grows ids G.rules).fix d
    rw [V] at B
    rw [iter_done B au] at a
    have HT:=LH a
    clear a Hm aa au B
    go_wp2_with fail
    go_ret
    exact ⟨rfl,k,HT.out⟩
  · have cp:=Hm.out rfl
    go_wp2_with fail
    have b0:(iter (passI ids G.rules) m d).length=n:=by rw [iterI_len];exact V
    have ab:Hid (passI ids G.rules (iter (passI ids G.rules) m d)=iter (passI ids G.rules) (m+1) d):=LH rfl
    have bu:Hid (passI ids G.rules (iter (passI ids G.rules) m d) ≠ iter (passI ids G.rules) m d→m < n):=LH fun W=>by
     have B:=(passI_grows ids G.rules).fix d
     rw [V] at B
     exact iter_more B W
    generalize iter (passI ids G.rules) m d=N at *
    go_loopw [7,9,16] (fun v _ i u=>∃ (j:Nat),j≤n3∧i = .int .i64 (j:Int)∧v = .bool (grewB N (passI ids (G.rules.take j) N))∧w.grownBy u (some g)∧Blk u w.heap.size 26 #[.slice a1 n1 c1, .slice a2 n2 c2, .slice a3 n3 c3, .int .i64 G.start]∧BoolT u g (passI ids (G.rules.take j) N)) (fun _ _ i _=>n3 - (intOf i).toNat)
    case atStart=>exact ⟨0,Nat.zero_le _,rfl,by rw [show passI ids (G.rules.take 0) N=N from rfl,grew_start],k,l,a⟩
    case round =>
     clear k l a x2
     obtain ⟨j,hj,rfl,rfl,k,l,a⟩:=hrel
     by_cases b6:j < n3
     · obtain ⟨bb,ca,r,Ar,cr,rfl,hb,Hr,q0,q1,q2,a6⟩:=Hg.out.rules.get b6
       have ah:Below z.heap.size z wr:=Z.out.trans (grown_is_below k Z.out.size b3)
       rw [← ah.cell (by exact hb)] at q0 q1 q2
       have a0:=List.mem_of_getElem? Hr.out
       have T:(passI ids (G.rules.take j) N).length=n:=by rw [passI_len];exact b0
       have C:passI ids (G.rules.take (j+1)) N=setI (passI ids (G.rules.take j) N) (ids r (passI ids (G.rules.take j) N)):=by rw [take_snoc' Hr.out,passI_snoc];rfl
       have ay:LeB N (passI ids (G.rules.take j) N):=passI_le ids _ N
       have E:=LH C
       have bt:=LH ay
       clear C ay
       generalize passI ids (G.rules.take j) N=f at *
       have F:=alloc_below wr (.cells #[.int .i64 r.left, .slice Ar r.right.length cr, .int .i64 r.prec] 52)
       have U:=grown_trans k (grown_below (some g) F)
       have an:=Blk.ext l F
       have P:BoolT (wr.alloc (.cells #[.int .i64 r.left, .slice Ar r.right.length cr, .int .i64 r.prec] 52)) g f:=Blk.ext a F
       have a7:=(a6.below ah).below F
       have a8:=RBox.new wr 52 r.left Ar r.right.length cr r.prec
       clear k l a
       have ⟨u5,u0,u1,u2⟩:=a8
       have hC:=bv.out r a0 Ar cr f _ U a7 P T
       have hL:=bs.out r a0 f T
       generalize ids r f=L at *
       have Y:=LH hC
       have HL:=LH hL
       clear hC hL a7 a8
       go_wp2_with (go_at_fn gf;refine Y.out.mono ?_;rintro e X ⟨S,Ai,D,ci,rfl,H,aq⟩)
       generalize wr.alloc (.cells #[.int .i64 r.left, .slice Ar r.right.length cr, .int .i64 r.prec] 52)=W1 at *
       have b4:=grown_trans U (grown_below (some g) S)
       have ao:=Blk.ext an S
       have R:BoolT X g f:=Blk.ext P S
       have cj:L.length=D:=H.len
       have ch:=H.cap
       have HI:=LH H
       have bl:=LH aq
       have bq:=LH b4
       have cn:g < X.heap.size:=R.lt
       clear q0 q1 q2 a6 Y U an P H aq
       go_loopw [7,11,25] (fun v _ i u=>∃ (p:Nat),p≤D∧i = .int .i64 (p:Int)∧v = .bool (grewB N (setI f (L.take p)))∧X.grownBy u (some g)∧Blk u w.heap.size 26 #[.slice a1 n1 c1, .slice a2 n2 c2, .slice (some ⟨bb,ca,none⟩) n3 c3, .int .i64 G.start]∧BoolT u g (setI f (L.take p))) (fun _ _ i _=>D - (intOf i).toNat)
       case atStart=>exact ⟨0,Nat.zero_le _,rfl,rfl,grown_refl _ _,ao,R⟩
       case round =>
        clear ao R
        obtain ⟨p,hp,rfl,rfl,k,l,a⟩:=hrel
        by_cases b7:p < D
        · obtain ⟨ib,io,s,rfl,b5,Hs,b8⟩:=HI.out.get b7
          have W:=bl.out ib io rfl
          have q3:=(grown_frozen k (b:=ib) (o:=io+p) b5 W).trans b8
          obtain ⟨s1,s2⟩:=HL.out s (List.mem_of_getElem? Hs.out)
          obtain ⟨t,rfl⟩:∃ t:Nat,s=(t:Int):=⟨s.toNat,by omega⟩
          have C:setI f (L.take (p+1))=(setI f (L.take p)).set t true:=by rw [take_snoc' Hs.out,setI_snoc];simp
          have b2:(setI f (L.take p)).length=n:=by rw [setI_len];exact T
          have az:LeB N (setI f (L.take p)):=bt.out.trans (setI_le f _)
          have aw:=grew_set az (i:=t) (by omega)
          have ck:=a.at (i:=t) (by omega)
          have a5:=a.put t true
          have cl:=Blk.frozen a t
          have ap:=l.other g t (.bool true) (by omega)
          have E:=LH C
          have br:=LH aw
          have bw:=LH a5
          have bk:=LH ap
          have bp:=LH k
          have cu:t < n:=by omega
          clear C az aw a5 ap k l a b2
          generalize (setI f (L.take p)).getD t false=x at *
          generalize grewB N (setI f (L.take p))=y at *
          rcases (by cases y <;> simp:y=false∨y=true) with rfl | rfl
          all_goals
           go_wp2_with fail
           go_roundw
           case rel=>exact ⟨p+1,by omega,by go_num,by rw [E.out,br.out];simp,grown_trans bp.out (grown_set _ _ _ _),bk.out,by rw [E.out];exact bw.out⟩
           case measure=>simp [intOf];omega
        · obtain rfl:p=D:=by omega
          rw [List.take_of_length_le (by omega)] at a ⊢
          rw [← E.out] at a ⊢
          go_wp2_with fail
          go_roundw
          case rel=>exact ⟨j+1,by omega,by go_num,rfl,grown_trans bq.out k,l,a⟩
          case measure=>simp [intOf];omega
     · obtain rfl:j=n3:=by omega
       rw [List.take_of_length_le (by omega)] at a ⊢
       have bn:Hid (grewB N (passI ids G.rules N)=true→m+1≤n):=LH fun M=>by
        have:m < n:=bu.out (by intro I;rw [I,grew_start] at M;cases M)
        omega
       have bo:Hid (grewB N (passI ids G.rules N)=false→passI ids G.rules (iter (passI ids G.rules) (m+1) d)=iter (passI ids G.rules) (m+1) d):=LH fun M=>by
        have I:passI ids G.rules N=N:=by simpa [grewB] using M
        rw [← ab.out,I,I]
       generalize grewB N (passI ids G.rules N)=y at *
       rw [ab.out] at a
       go_wp2_with fail
       go_roundg (n+1 - m)
       case rel=>exact ⟨m+1,y,rfl,by omega,bn,k,l,a,bo⟩
       case measure=>omega
def nullI (r:Rul) (N:List Bool):List Int:=if allP false N r.right then [r.left] else []
theorem passI_null (a:List Rul) (N:List Bool):passI nullI a N=passN (bareP false) a N:=by
 unfold passI passN
 congr 1
 funext N r
 unfold growI nullI growN bareP setI
 split <;> simp
theorem iterI_null (a:List Rul) (N:List Bool):∀ k,iter (passI nullI a) k N=iter (passN (bareP false) a) k N
 | 0=>rfl
 | k+1=>by rw [iter,iter,iterI_null a N k,passI_null]
theorem all_split (N:List Bool) (ss:List Int):((!ss.any fun s=>decide (0≤s)) && !ss.any (offN N))=allP false N ss:=by
 unfold allP
 induction ss with
 | nil=>rfl
 | cons s ss b =>
   rw [List.all_cons,← b,List.any_cons,List.any_cons]
   unfold offN
   by_cases h:0≤s
   · simp [h]
   · have a:s < 0:=by omega
     cases N.getD (nonI s) false <;> simp [h,a]
theorem enters_null1:∀ args w,(callFunc 151 args).run Tryz.prog w = .ok (.enter 151 args) w:=fun args w=>by kernel_rfl
theorem one_int (w:World) (t:TypeId) (x:Int):Ints .i64 (w.alloc (.cells #[.int .i64 x] t)) (some ⟨w.heap.size,0,none⟩) 1 1 [x]:=by
 have:=own_sl (own_made w t 1 [.int .i64 x] rfl (by omega))
 exact this
theorem tr_null1 (r:Rul) (Ar:Option Addr) (cr g n:Nat) (N:List Bool) (w:World) (C:Ints .i64 w Ar r.right.length cr r.right) (z:BoolT w g N) (L:N.length=n) (M:n≤1000) (O:∀ s ∈ r.right,-(n:Int)≤s∧s≤1000) :
 Calls Tryz.prog 151 #[.agg #[.int .i64 r.left, .slice Ar r.right.length cr, .int .i64 r.prec], .slice (some ⟨g,0,none⟩) n n] w fun e w'=>Below w.heap.size w w'∧∃ A m c,e = .returned (.slice A m c)∧Ints .i64 w' A m c (nullI r N)∧Apart A g:=by
 have R:g < w.heap.size:=z.lt
 have y:=alloc_below w (.cells #[.int .i64 r.left, .slice Ar r.right.length cr, .int .i64 r.prec] 52)
 have I:=RBox.new w 52 r.left Ar r.right.length cr r.prec
 have D:=all_split N r.right
 go_enter Tryz.func151,Tryz.ntmps151
 have ⟨z5,z0,z1,z2⟩:=I
 have l:=fun w' (q:Below w.heap.size w w')=>tr_bare r.left Ar cr r.right r.prec w' (C.below q)
 have d:=fun w' (q:Below w.heap.size w w')=>tr_within r.left Ar cr g n r.right r.prec N w' (C.below q) (Blk.ext z q) L M O
 generalize (!r.right.any fun s=>decide (0≤s))=k at *
 generalize (!r.right.any (offN N))=p at *
 have u:Hid (nullI r N=if (k && p) then [r.left] else []):=LH (by unfold nullI;rw [D])
 have F:=LH l
 have x:=LH d
 clear l d D
 go_wp2_with fail
 generalize w.alloc (.cells #[.int .i64 r.left, .slice Ar r.right.length cr, .int .i64 r.prec] 52)=H at *
 have l:=(F.out H y).mono fun e w' a=>And.intro a.1 (And.intro (bcell a.2).1 (LH (below_tail y a.2)))
 have G:=LH l
 clear l
 (with_reducible refine G.out.mono ?_)
 rintro e w1 ⟨rfl,v,f⟩
 have E:=(v _ 0 z5).trans z0
 have T:=(v _ 1 z5).trans z1
 have U:=(v _ 2 z5).trans z2
 have J:w.heap.size < w1.heap.size:=by
  rcases Nat.lt_or_ge w.heap.size w1.heap.size with h | h
  · exact h
  · simp [World.cell?,Array.getElem?_eq_none h] at E
 rcases (by cases k <;> cases p <;> simp:k=false∨(k=true∧p=false)∨(k=true∧p=true)) with rfl | ⟨rfl,rfl⟩ | ⟨rfl,rfl⟩
 · go_wp2_with fail
   go_ret
   exact ⟨f.out,none,0,0,rfl,by rw [u.out];exact Ints.nil _ _ _ _ (by omega),fun b o h=>by cases h⟩
 · have d:=(x.out w1 f.out).mono fun e w' a=>And.intro a.1 (And.intro (bcell a.2).1 (LH (below_tail f.out a.2)))
   have t:=LH d
   clear d
   go_wp2_with (go_at_call 108;(with_reducible refine t.out.mono ?_);rintro e P ⟨rfl,B,j⟩)
   go_ret
   exact ⟨j.out,none,0,0,rfl,by rw [u.out];exact Ints.nil _ _ _ _ (by omega),fun b o h=>by cases h⟩
 · have d:=(x.out w1 f.out).mono fun e w' a=>And.intro a.1 (And.intro (bcell a.2).1 (LH (below_tail f.out a.2)))
   have t:=LH d
   clear d
   go_wp2_with (go_at_call 108;(with_reducible refine t.out.mono ?_);rintro e P ⟨rfl,B,j⟩;have S:=(B _ 0 J).trans E)
   go_ret
   refine ⟨j.out.alloc j.out.size _,_,1,1,rfl,by rw [u.out];exact one_int _ _ _,fun b o h=>?_⟩
   injection h with h
   injection h with h _
   have:=j.out.size
   omega
theorem tr_Nullable (h:GH) (G:Gr) (w:World) (d:GrAt w h G) (S:∀ t ∈ G.terms,t.name.size≤maxLen) (F:h.n1≤100) (H:h.n2≤100) (I:h.n3≤100) :
 Calls Tryz.prog 91 #[GV h G.start] w fun e w'=>Below w.heap.size w w' ∧
  ((G.right=false∧e = .returned (.slice none 0 0))∨(G.right=true∧∃ g,w.heap.size≤g∧e = .returned (.slice (some ⟨g,0,none⟩) h.n2 h.n2)∧BoolT w' g (nullN G))):=by
 obtain ⟨a1,n1,c1,a2,n2,c2,a3,n3,c3⟩:=h
 have m:G.nons.length=n2:=d.nons.len
 have T:=d.nons.cap
 simp only [] at F H I T
 have p:=alloc_below w (.cells #[.slice a1 n1 c1, .slice a2 n2 c2, .slice a3 n3 c3, .int .i64 G.start] 26)
 have x:=GBox.new w 26 ⟨a1,n1,c1,a2,n2,c2,a3,n3,c3⟩ G.start
 have P:=make_bools n2 (by omega)
 go_enter Tryz.func91,Tryz.ntmps91
 have ⟨z5,z0,z1,z2,z3⟩:=x
 simp only [] at z0 z1 z2 z3
 go_wp2_with fail
 generalize w.alloc (.cells #[.slice a1 n1 c1, .slice a2 n2 c2, .slice a3 n3 c3, .int .i64 G.start] 26)=E at *
 (with_reducible refine (cf_Right ⟨a1,n1,c1,a2,n2,c2,a3,n3,c3⟩ G E (d.below p) S (by simp only [];omega) (by simp only [];omega)).mono ?_)
 rintro e b ⟨rfl,v⟩
 have j:=below_tail p v
 have M:=x.below v
 have ⟨y5,y0,y1,y2,y3⟩:=M
 simp only [] at y0 y1 y2 y3
 rcases l:G.right with _ | _
 · go_wp2_with fail
   go_ret
   exact ⟨j, .inl ⟨l,rfl⟩⟩
 · have k:=Gr.fits l
   have D:=LH l
   have V:=LH k
   have u:=BoolT.new b (List.replicate n2 false)
   have a:=alloc_below b (.cells (bools (List.replicate n2 false)).toArray 4)
   have z:=d.below j
   have B:=fun W c J=>tr_grow ⟨a1,n1,c1,a2,n2,c2,a3,n3,c3⟩ G 151 #[] enters_null1 nullI b.heap.size n2 (List.replicate n2 false) b W z J (Nat.le_refl _) (by omega) c (by simp) (by simp only [];omega)
    (fun r n N q s f=>by
      unfold nullI at f
      split at f
      · rw [List.mem_singleton] at f
        subst f
        have:=k.left r n
        rw [m] at this
        exact this
      · cases f)
    (fun r n Ar cr N w' _ R q O=>tr_null1 r Ar cr b.heap.size n2 N w' R q O (by omega) (by have:=k.symB n;rwa [m] at this))
   have o:=LH B
   clear l k B d z
   go_wp2_with fail
   go_region_with (go_at_call 150;(with_reducible refine (o.out _ ?_ ?_).mono ?_);exact u;exact ⟨a.os,a.tape,a.output,a.size,a.block⟩;rintro e U ⟨rfl,A,c⟩)
   all_goals
    have L:Below b.heap.size b U:=by
     refine Below.trans ?_ (grown_is_below A a.size (Nat.le_refl _))
     exact ⟨a.os,a.tape,a.output,a.size,a.block⟩
    have y:nullN G=iter (passI nullI G.rules) n2 (List.replicate n2 false):=by rw [iterI_null];unfold nullN;rw [m];rfl
    rw [← y] at c
    have C:=LH c
    clear c y A o u a P y0 y1 y2 y3 z0 z1 z2 z3
    go_wp2_with fail
    go_ret
    exact ⟨below_tail j L, .inr ⟨D.out,b.heap.size,j.size,rfl,C.out⟩⟩
theorem ref_ints (o:Option Addr) (n c1:Nat) (xs:List Int) (p:Option Addr) (m c2:Nat) (ys:List Int) (w:World)
 (g:Ints .i64 w o n c1 xs) (l:Ints .i64 w p m c2 ys) :
 Calls Tryz.prog 37 #[.slice o n c1, .slice p m c2] w fun e w'=>e = .returned (.bool (xs == ys))∧Same w w':=by
 obtain rfl:=g.len
 obtain rfl:=l.len
 have E:=g.cap
 have F:=l.cap
 by_cases b:xs.length=ys.length
 case neg =>
  have e:(xs == ys)=false:=by rw [beq_eq_false_iff_ne];intro h;exact b (by rw [h])
  have hi:((xs.length:Int) != (ys.length:Int))=true:=by rw [bne_iff_ne];omega
  rw [e]
  clear e b
  go_enter Tryz.func37,Tryz.ntmps37
  go_wp2
  go_ret
  exact ⟨rfl,Same.refl _⟩
 have hi:((xs.length:Int) != (ys.length:Int))=false:=by rw [bne_eq_false_iff_eq];omega
 have f:=LH b
 clear b
 go_enter Tryz.func37,Tryz.ntmps37
 go_wp2
 go_loopw [5] (fun i wr=>∃ k:Nat,k≤xs.length∧i = .int .i64 (k:Int)∧Hid (xs.take k=ys.take k)∧Same w wr) (fun i _=>xs.length - (intOf i).toNat)
 case atStart=>exact ⟨0,Nat.zero_le _,rfl,LH rfl,Same.refl _⟩
 case round =>
  obtain ⟨k,G,rfl,q,a⟩:=hrel
  by_cases s:k < xs.length
  · obtain ⟨t,H,x,rfl,A,Hx,C⟩:=(g.same a).get (j:=k) s
    obtain ⟨u,I,y,rfl,B,r,D⟩:=(l.same a).get (j:=k) (by have:=f.out;omega)
    have g0:(0:Int)≤(k:Int):=by omega
    have v:(k:Int) < (xs.length:Int):=by omega
    have z:(k:Int) < (ys.length:Int):=by have:=f.out;omega
    by_cases c:x=y
    · subst c
      go_wp2
      go_quiet (fail)
      go_wp2
      go_roundw
      case rel=>exact ⟨k+1,by omega,by go_num,LH (by rw [List.take_add_one,List.take_add_one,q.out,Hx.out,r.out]),a.drewN _⟩
      case measure=>simp [intOf];omega
    · have e:(xs == ys)=false:=by
       rw [beq_eq_false_iff_ne]
       rintro rfl
       have:=Hx.out.symm.trans r.out
       exact c (by simpa using this)
      have hd:(x != y)=true:=by rw [bne_iff_ne];exact c
      have d:=LH e
      clear e c
      go_wp2
      go_quiet (fail)
      go_wp2
      go_ret
      exact ⟨by rw [d.out];rfl,a.drewN _⟩
  · have e:(xs == ys)=true:=by
     have:=q.out
     have:=f.out
     rw [List.take_of_length_le (by omega),List.take_of_length_le (by omega)] at *
     simpa using ‹_=_›
    have d:=LH e
    clear e
    go_wp2
    go_ret
    exact ⟨by rw [d.out];rfl,a⟩
def prodN (G:Gr):List Bool:=grownN true G
def prodI (r:Rul) (N:List Bool):List Int:=if allP true N r.right then [r.left] else []
theorem passI_prod (a:List Rul) (N:List Bool):passI prodI a N=passN (bareP true) a N:=by
 unfold passI passN
 congr 1
 funext N r
 unfold growI prodI growN bareP setI
 split <;> simp
theorem iterI_prod (a:List Rul) (N:List Bool):∀ k,iter (passI prodI a) k N=iter (passN (bareP true) a) k N
 | 0=>rfl
 | k+1=>by rw [iter,iter,iterI_prod a N k,passI_prod]
theorem all_off (N:List Bool) (ss:List Int):(!ss.any (offN N))=allP true N ss:=by
 unfold allP
 induction ss with
 | nil=>rfl
 | cons s ss b =>
   rw [List.all_cons,← b,List.any_cons]
   unfold offN
   by_cases h:0≤s
   · simp [h]
   · have a:s < 0:=by omega
     cases N.getD (nonI s) false <;> simp [h,a]
theorem enters_prod1:∀ args w,(callFunc 168 args).run Tryz.prog w = .ok (.enter 168 args) w:=fun args w=>by kernel_rfl
theorem tr_prod1 (r:Rul) (Ar:Option Addr) (cr g n:Nat) (N:List Bool) (w:World) (D:Ints .i64 w Ar r.right.length cr r.right) (p:BoolT w g N) (B:N.length=n) (C:n≤1000) (E:∀ s ∈ r.right,-(n:Int)≤s∧s≤1000) :
 Calls Tryz.prog 168 #[.agg #[.int .i64 r.left, .slice Ar r.right.length cr, .int .i64 r.prec], .slice (some ⟨g,0,none⟩) n n] w fun e w'=>Below w.heap.size w w'∧∃ A m c,e = .returned (.slice A m c)∧Ints .i64 w' A m c (prodI r N)∧Apart A g:=by
 have F:g < w.heap.size:=p.lt
 have l:=alloc_below w (.cells #[.int .i64 r.left, .slice Ar r.right.length cr, .int .i64 r.prec] 52)
 have y:=RBox.new w 52 r.left Ar r.right.length cr r.prec
 have t:=all_off N r.right
 go_enter Tryz.func168,Tryz.ntmps168
 have ⟨z5,z0,z1,z2⟩:=y
 have a:=fun w' (q:Below w.heap.size w w')=>tr_within r.left Ar cr g n r.right r.prec N w' (D.below q) (Blk.ext p q) B C E
 generalize (!r.right.any (offN N))=f at *
 have k:Hid (prodI r N=if f then [r.left] else []):=LH (by unfold prodI;rw [t])
 have u:=LH a
 clear a t
 go_wp2_with fail
 generalize w.alloc (.cells #[.int .i64 r.left, .slice Ar r.right.length cr, .int .i64 r.prec] 52)=x at *
 have a:=(u.out x l).mono fun e w' j=>And.intro j.1 (And.intro (bcell j.2).1 (LH (below_tail l j.2)))
 have v:=LH a
 clear a
 (with_reducible refine v.out.mono ?_)
 rintro e G ⟨rfl,z,d⟩
 have H:=(z _ 0 z5).trans z0
 rcases (by cases f <;> simp:f=false∨f=true) with rfl | rfl
 · go_wp2_with fail
   go_ret
   exact ⟨d.out,none,0,0,rfl,by rw [k.out];exact Ints.nil _ _ _ _ (by omega),fun b o h=>by cases h⟩
 · go_wp2_with fail
   go_ret
   refine ⟨d.out.alloc d.out.size _,_,1,1,rfl,by rw [k.out];exact one_int _ _ _,fun b o h=>?_⟩
   injection h with h
   injection h with h _
   have:=d.out.size
   omega
theorem tr_Productive (h:GH) (G:Gr) (w:World) (d:GrAt w h G) (S:∀ t ∈ G.terms,t.name.size≤maxLen) (F:h.n1≤100) (H:h.n2≤100) (I:h.n3≤100) :
 Calls Tryz.prog 105 #[GV h G.start] w fun e w'=>Below w.heap.size w w' ∧
  ((G.right=false∧e = .returned (.slice none 0 0))∨(G.right=true∧∃ g,w.heap.size≤g∧e = .returned (.slice (some ⟨g,0,none⟩) h.n2 h.n2)∧BoolT w' g (prodN G))):=by
 obtain ⟨a1,n1,c1,a2,n2,c2,a3,n3,c3⟩:=h
 have m:G.nons.length=n2:=d.nons.len
 have T:=d.nons.cap
 simp only [] at F H I T
 have p:=alloc_below w (.cells #[.slice a1 n1 c1, .slice a2 n2 c2, .slice a3 n3 c3, .int .i64 G.start] 26)
 have x:=GBox.new w 26 ⟨a1,n1,c1,a2,n2,c2,a3,n3,c3⟩ G.start
 have P:=make_bools n2 (by omega)
 go_enter Tryz.func105,Tryz.ntmps105
 have ⟨z5,z0,z1,z2,z3⟩:=x
 simp only [] at z0 z1 z2 z3
 go_wp2_with fail
 generalize w.alloc (.cells #[.slice a1 n1 c1, .slice a2 n2 c2, .slice a3 n3 c3, .int .i64 G.start] 26)=E at *
 (with_reducible refine (cf_Right ⟨a1,n1,c1,a2,n2,c2,a3,n3,c3⟩ G E (d.below p) S (by simp only [];omega) (by simp only [];omega)).mono ?_)
 rintro e b ⟨rfl,v⟩
 have j:=below_tail p v
 have M:=x.below v
 have ⟨y5,y0,y1,y2,y3⟩:=M
 simp only [] at y0 y1 y2 y3
 rcases l:G.right with _ | _
 · go_wp2_with fail
   go_ret
   exact ⟨j, .inl ⟨l,rfl⟩⟩
 · have k:=Gr.fits l
   have D:=LH l
   have V:=LH k
   have u:=BoolT.new b (List.replicate n2 false)
   have a:=alloc_below b (.cells (bools (List.replicate n2 false)).toArray 4)
   have z:=d.below j
   have B:=fun W c J=>tr_grow ⟨a1,n1,c1,a2,n2,c2,a3,n3,c3⟩ G 168 #[] enters_prod1 prodI b.heap.size n2 (List.replicate n2 false) b W z J (Nat.le_refl _) (by omega) c (by simp) (by simp only [];omega)
    (fun r n N q s f=>by
      unfold prodI at f
      split at f
      · rw [List.mem_singleton] at f
        subst f
        have:=k.left r n
        rw [m] at this
        exact this
      · cases f)
    (fun r n Ar cr N w' _ R q O=>tr_prod1 r Ar cr b.heap.size n2 N w' R q O (by omega) (by have:=k.symB n;rwa [m] at this))
   have o:=LH B
   clear l k B d z
   go_wp2_with fail
   go_region_with (go_at_call 150;(with_reducible refine (o.out _ ?_ ?_).mono ?_);exact u;exact ⟨a.os,a.tape,a.output,a.size,a.block⟩;rintro e U ⟨rfl,A,c⟩)
   all_goals
    have L:Below b.heap.size b U:=by
     refine Below.trans ?_ (grown_is_below A a.size (Nat.le_refl _))
     exact ⟨a.os,a.tape,a.output,a.size,a.block⟩
    have y:prodN G=iter (passI prodI G.rules) n2 (List.replicate n2 false):=by rw [iterI_prod];unfold prodN grownN;rw [m]
    rw [← y] at c
    have C:=LH c
    clear c y A o u a P y0 y1 y2 y3 z0 z1 z2 z3
    go_wp2_with fail
    go_ret
    exact ⟨below_tail j L, .inr ⟨D.out,b.heap.size,j.size,rfl,C.out⟩⟩
end Go.Proofs.YtggbjdmpjidhgaaGreatDoor
