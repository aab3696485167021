/- the program's one, those, reach: walked. -/
import Derived.Test.YtggbjdmpjidhgaaGreatDoorVQCtP4
import Derived.Test.YtggbjdmpjidhgaaGreatDoorVQGrShelf
import Derived.Test.YtggbjdmpjidhgaaGreatDoorVQPs8
import Derived.Test.YtggbjdmpjidhgaaGreatDoorVQCyR2
import Derived.Maps.OwnSet
set_option linter.unusedVariables false
set_option linter.unusedSimpArgs false
set_option maxHeartbeats 8000000
set_option maxRecDepth 100000
namespace Go.Proofs.YtggbjdmpjidhgaaGreatDoor
open Go.RowKit
theorem ofN_one (n:Int):ofN [n]=bitN n:=by simp [ofN]
theorem tr_one (n:Int) (w:World):Calls Tryz.prog 90 #[.int .i64 n] w fun e w'=>e = .returned (.int .u32 ((bitN n:Nat):Int))∧Below w.heap.size w w':=by
 have b:=alloc_below w (.cells #[.int .i64 n] 3)
 have a:=set_of (some ⟨w.heap.size,0,none⟩) 1 1 [n] (w.alloc (.cells #[.int .i64 n] 3)) (one_int w 3 n)
 rw [ofN_one] at a
 have c:=LH a
 have d:=LH b
 clear a b
 go_enter Tryz.func90,Tryz.ntmps90
 go_wp2_with (go_at_call 149;(with_reducible refine c.out.mono ?_);rintro e w' ⟨rfl,rfl⟩)
 go_ret
 exact ⟨rfl,d.out⟩
theorem mems_get {R p:Nat} {s:Int} (h:(intsOf (memsN R))[p]? = some s):∃ k:Nat,s=(k:Int)∧(memsN R)[p]? = some k:=by
 unfold intsOf at h
 rw [List.getElem?_map] at h
 cases a:(memsN R)[p]? with
 | none=>rw [a] at h;cases h
 | some k=>rw [a] at h;exact ⟨k,by injection h with h;exact h.symm,rfl⟩
theorem tr_reach (g n i:Nat) (S:List Nat) (w:World) (r:SetT w g S) (hn:S.length=n) (av:n≤1000) (hi:i < n) (u:Small S) (q:InS S) (C:TabAt w) :
 Calls Tryz.prog 89 #[.slice (some ⟨g,0,none⟩) n n, .int .i64 (i:Int)] w fun e w'=>e = .returned (.int .u32 (((closeS S).getD i 0:Nat):Int))∧Below w.heap.size w w':=by
 subst hn
 have aa:=r.at hi
 have J:=LH r
 have l:=LH u
 have j:=LH q
 have O:=LH C
 have v:=LH (ReachI.start u q hi)
 have hd:=j.out
 have T:=LH fun R (h:ReachI S i R) (he:moreN S R (memsN R)=R)=>ReachI.done j.out hi h he
 generalize S.getD i 0=v0 at aa v
 generalize (closeS S).getD i 0=cl at *
 clear r u q C hd
 go_enter Tryz.func89,Tryz.ntmps89
 go_wp2_with fail
 go_loopw [5] (fun a wr=>∃ R:Nat,a = .int .u32 (R:Int)∧Hid (ReachI S i R)∧Hid (Below w.heap.size w wr)) (fun a _=>4294967296 - (intOf a).toNat)
 case atStart=>exact ⟨v0,rfl,v,LH (Below.refl _ _)⟩
 case round =>
  obtain ⟨R,rfl,b,x⟩:=hrel
  have F:=b.out.1
  have z:=set_members R wr F (O.out.below x.out)
  have I:=LH z
  have V:=LH (mems_len R)
  clear z
  go_wp2_with (go_at_call 148;(with_reducible refine I.out.mono ?_);rintro e w2 ⟨A,c,rfl,G,E⟩)
  have f:=LH (below_tail x.out E)
  have X:=LH G
  have N:Hid (SetT w2 g S):=LH (Blk.ext J.out f.out)
  have y:=LH (ReachI.next l.out j.out hi b.out)
  have U:=LH (moreN_le S (memsN R) R)
  clear E G F
  have t:(intsOf (memsN R)).length=(memsN R).length:=intsOf_length _
  have W:=LH t
  have aq:(intsOf (memsN R)).length≤32:=by rw [t];exact V.out
  generalize B:(intsOf (memsN R)).length=L at *
  have HL:=LH B
  clear B t
  go_wp2_with fail
  go_loop [6,17] (fun m k=>∃ p:Nat,p≤L∧k = .int .i64 (p:Int)∧m = .int .u32 ((moreN S R ((memsN R).take p):Nat):Int)) (fun m k=>L - (intOf k).toNat)
  case atStart=>exact ⟨0,Nat.zero_le _,rfl,by simp [moreN]⟩
  case round =>
   obtain ⟨p,hp,rfl,rfl⟩:=hrel
   by_cases ah:p < L
   case neg =>
    obtain rfl:p=L:=by omega
    have D:moreN S R ((memsN R).take p)=moreN S R (memsN R):=by rw [List.take_of_length_le (by rw [← W.out];exact Nat.le_refl _)]
    rw [D]
    have o:=T.out R b.out
    have au:=y.out.1
    clear D
    generalize moreN S R (memsN R)=M at *
    by_cases ae:M=R
    · subst ae
      have ab:=o (by trivial)
      clear o
      go_wp2_with fail
      go_ret
      exact ⟨by rw [← ab];rfl,f.out⟩
    · have aw:((M:Int) == (R:Int))=false:=by rw [beq_eq_false_iff_ne];omega
      have ar:=U.out
      clear o
      go_wp2_with fail
      go_roundw
      case rel=>exact ⟨M,rfl,y,f⟩
      case measure=>simp [intOf];omega
   case pos =>
    obtain ⟨bb,a0,s,rfl,hb,Z,q0⟩:=X.out.get ah
    obtain ⟨k,rfl,d⟩:=mems_get Z.out
    have af:k < S.length:=((b.out.2.2 k ((mems_mem R k).1 (List.mem_of_getElem? d)).2)).1
    have ao:=N.out.at af
    have H:moreN S R ((memsN R).take (p+1))=moreN S R ((memsN R).take p) ||| S.getD k 0:=by rw [take_snoc' d,moreN_snoc]
    have ax:=or32 (moreN S R ((memsN R).take p)) (S.getD k 0) (moreN_lt l.out _ b.out.1) (l.out.get k)
    generalize moreN S R ((memsN R).take p)=m0 at *
    generalize S.getD k 0=vk at *
    have Y:=LH H
    have Hk:=LH d
    clear H d
    go_wp2_with fail
    go_round
    case rel=>exact ⟨p+1,by omega,by go_num,by rw [Y.out]⟩
    case measure=>simp [intOf];omega
abbrev Sb (n:Nat):Type:={s:Int // -(n:Int)≤s∧s≤1000}
instance (n:Nat):Inhabited (Sb n):=⟨⟨0,by omega,by omega⟩⟩
def encB (n:Nat):Sb n→Value:=fun s => .int .i64 s.1
def BareW (W:World) (a g n:Nat) (N:List Bool):Prop:=W.cell? ⟨a,0,none⟩=some (.slice (some ⟨g,0,none⟩) n n)∧∀ i,i < n→W.cell? ⟨g,i,none⟩=some (.bool (N.getD i false))
theorem tr_bareS (a g n:Nat) (N:List Bool) (s:Int) (W:World) (h:BareW W a g n N) (o:n≤1000) (h1:-(n:Int)≤s) (p:s≤1000) :
 FnGives Tryz.prog 147 #[.pointer (some ⟨a,0,none⟩)] #[.int .i64 s] (.bool (nulB N s)) W:=by
 show Calls Tryz.prog 147 #[.int .i64 s, .pointer (some ⟨a,0,none⟩)] W _
 obtain ⟨q,d⟩:=h
 have l:=LH d
 clear d
 have k:nulB N s=(decide (s < 0) && N.getD (nonI s) false):=rfl
 have c:=LH k
 clear k
 go_enter Tryz.func147,Tryz.ntmps147
 by_cases h0:s < 0
 · obtain ⟨j,m,f,r⟩:=non_place (s:=s) (n:=n) h0 h1 o
   have c0:=l.out j m
   rw [← f] at c0
   have hd:decide (s < 0)=true:=decide_eq_true h0
   generalize N.getD (nonI s) false=b at *
   rw [f] at c0
   go_wp2_with fail
   go_ret
   exact ⟨by rw [c.out,hd];rfl,0,rfl⟩
 · have hd:decide (s < 0)=false:=decide_eq_false h0
   generalize N.getD (nonI s) false=b at *
   go_wp2_with fail
   go_ret
   exact ⟨by rw [c.out,hd];rfl,0,rfl⟩
theorem BareW.ext {w W:World} {a g n:Nat} {N:List Bool} (h:BareW w a g n N) (d:a < w.heap.size) (c:g < w.heap.size) (b:Below w.heap.size w W):BareW W a g n N :=
 ⟨(b.cell (p:=⟨a,0,none⟩) d).trans h.1,fun i hi=>(b.cell (p:=⟨g,i,none⟩) c).trans (h.2 i hi)⟩
theorem pred_bare {w:World} {a g n:Nat} {N:List Bool} (h:BareW w a g n N) (f:a < w.heap.size) (c:g < w.heap.size) (d:n≤1000) :
 PredAt Tryz.prog 147 #[.pointer (some ⟨a,0,none⟩)] (encB n) (fun s=>nulB N s.1) w :=
 fun W x b=>tr_bareS a g n N x.1 W (h.ext f c b) d x.2.1 x.2.2
open Go.Lib Go.Sort in
theorem over_bare {w:World} {a g n:Nat} {N:List Bool} (h:BareW w a g n N) (l:a < w.heap.size) (d:g < w.heap.size) (j:n≤1000) {b:Nat} (c size:Nat) (m:a ≠ b) (f:g ≠ b) :
 PredOver Tryz.prog 147 #[.pointer (some ⟨a,0,none⟩)] (encB n) (fun s=>nulB N s.1) b c size w :=
 fun k os o x _=>tr_bareS a g n N x.1 _ ⟨by
  unfold sortWorld
  rw [cell?_grow _ _ _ (by show a < (putRow _ _ _ _ _).heap.size;rw [size_putRow];exact l),cell?_putRow_other _ _ b c _ _ (Or.inl m)]
  exact h.1,fun i hi=>by
  unfold sortWorld
  rw [cell?_grow _ _ _ (by show g < (putRow _ _ _ _ _).heap.size;rw [size_putRow];exact d),cell?_putRow_other _ _ b c _ _ (Or.inl f)]
  exact h.2 i hi⟩ j x.2.1 x.2.2
theorem tr_Clone (A:Option Addr) (n c:Nat) (l:List Int) (w:World) (h:Ints .i64 w A n c l) (z:n≤100000) :
 Calls Tryz.prog 70 #[.slice A n c] w fun e w'=>∃ g,e = .returned g∧w'.ownsRow w.heap.size 3 1 g n (ints .i64 l)∧Below w.heap.size w w':=by
 obtain rfl:=h.len
 rcases A with _ | a
 · have d:l=[]:=by
    rcases l with _ | ⟨x,l⟩
    · rfl
    · obtain ⟨k,p,s,b,_⟩:=h.get (j:=0) (by simp)
      cases b
   subst d
   refine (Tryz.slices_Clone_int_nil 0 c w).mono ?_
   rintro e w' ⟨rfl,rfl⟩
   exact ⟨_,rfl,World.ownsRow_nil _ _ _ _,Below.refl _ _⟩
 · by_cases d:l=[]
   · subst d
     refine (Tryz.slices_Clone_int_zero a c w).mono ?_
     rintro e w' ⟨g,rfl,f,_,m⟩
     exact ⟨_,rfl,f,m⟩
   · have u:0 < l.length:=List.length_pos_iff.2 d
     obtain ⟨k,p,s,b,_⟩:=h.get u
     injection b with b
     subst b
     have r:∀ j,j < l.length→w.cell? ⟨k,p+j,none⟩=some (.int .i64 (l.getD j 0)):=fun j t=>by
      obtain ⟨y,B,C,o,_,q,v⟩:=h.get t
      injection o with o
      injection o with e1 e2 e3
      subst e1
      subst e2
      rw [List.getD_eq_getElem?_getD,q.out]
      exact v
     refine (Tryz.slices_Clone_int k p l.length c l w (Nat.le_refl _) (by omega) r).mono ?_
     rintro e w' ⟨g,rfl,f,_,m⟩
     rw [List.take_of_length_le (Nat.le_refl _)] at f
     exact ⟨_,rfl,f,m⟩
theorem put_grown {n:Nat} (w:World) (q g b:Nat) (d:Array (Sb n)):w.grownBy (Sort.putRow (encB n) (Sort.ahead w q) g b d) (some g):=by
 refine ⟨rfl,rfl,rfl,by simp,fun k c a=>?_⟩
 have:g ≠ k:=fun e=>a (by rw [e])
 simp [Sort.putRow,Sort.mapBlock,Sort.ahead,Array.getElem?_modify,this]
section
variable {P:Program}
def StepsU (P:Program) (J:Array Bool→Act→World→Prop):Nat→List Oper→Prop
 | _,[]=>True
 | i,o::rest=>(o.guard=none∧∀ (Q:Exit→Act→World→Prop) (listed:Array Bool) (a:Act) (w:World),J listed a w→listed.getD i true=false→(∀ e ∈ o.after,Region.binds .any e=true→listed.getD e.on false=true) →
    ∀ K:Act→World→Prop,(∀ b w',J (listed.setIfInBounds i true) b w'→K b w')→o.wp P a w K Q)∧StepsU P J (i+1) rest
theorem StepsU.nil {J:Array Bool→Act→World→Prop} {i:Nat}:StepsU P J i []:=trivial
theorem StepsU.cons {J:Array Bool→Act→World→Prop} {i:Nat} {o:Oper} {rest:List Oper} (c:o.guard=none)
 (h:∀ (Q:Exit→Act→World→Prop) (listed:Array Bool) (a:Act) (w:World),J listed a w→listed.getD i true=false→(∀ e ∈ o.after,Region.binds .any e=true→listed.getD e.on false=true) →
   ∀ K:Act→World→Prop,(∀ b w',J (listed.setIfInBounds i true) b w'→K b w')→o.wp P a w K Q)
 (t:StepsU P J (i+1) rest):StepsU P J i (o::rest):=⟨⟨c,h⟩,t⟩
theorem StepsU.inv {J:Array Bool→Act→World→Prop} {ops:Array Oper} {Q:Exit→Act→World→Prop}:∀ {l:List Oper} {i:Nat},StepsU P J i l→InvSteps P ops Q J i l
 | [],_,_=>trivial
 | o::l,i,h=>by
   refine ⟨fun listed a w b f d K c=>?_,StepsU.inv h.2⟩
   have e:Region.wanted o (yielded ops a.tmps)=true:=by unfold Region.wanted;rw [h.1.1]
   rw [if_pos e]
   exact h.1.2 Q listed a w b f d K c
theorem wp_region_invU {id:Nat} {Q:Exit→Act→World→Prop} {a:Act} {w:World} {l:List Oper} (J:Array Bool→Act→World→Prop) (d:P.follows .mixedOrders=true) (b:backB l.toArray=true)
 (h0:J (Array.replicate l.length false) a w.drew) (f:StepsU P J 0 l)
 (c:∀ (listed:Array Bool) (a:Act) (w:World),J listed a w→(∀ i,i < l.length→listed.getD i true=true)→Q .normal a w):(Code.region id l.toArray true).wp P Q a w :=
 wp_region_inv J d b h0 f.inv c
end
open Go.Maps (Keyed IsMap Tidy)
def nKey (i:Nat):Lit := .int .i64 (i:Int)
theorem nKey_ne {i j:Nat} (h:i ≠ j):nKey i ≠ nKey j:=by
 unfold nKey
 intro e
 injection e with _ e
 exact h (by omega)
theorem nKey_lit (i:Nat):WideAt.IsKeyLit (nKey i):=by unfold nKey;trivial
def numR:List Nat→DataW Unit
 | [] => .map []
 | i::r=>(numR r).put (nKey i) (.lit (.int .i64 (r.length:Int)))
def numD (a:List Nat):DataW Unit:=numR a.reverse
theorem numD_snoc (a:List Nat) (i:Nat):numD (a++[i])=(numD a).put (nKey i) (.lit (.int .i64 (a.length:Int))):=by
 unfold numD
 rw [List.reverse_append,List.reverse_singleton,List.singleton_append]
 show (numR a.reverse).put (nKey i) (.lit (.int .i64 (a.reverse.length:Int)))=_
 rw [List.length_reverse]
theorem isMap_numR:∀ r:List Nat,IsMap (numR r)
 | []=>Maps.isMap_empty
 | i::r=>(isMap_numR r).put _ _
theorem has_numR (i:Nat):∀ r:List Nat,Maps.has (numR r) (nKey i)=decide (i ∈ r)
 | []=>by simp [numR,Maps.has_eq]
 | j::r=>by
   show Maps.has ((numR r).put (nKey j) _) (nKey i)=_
   by_cases h:i=j
   · subst h
     rw [Maps.has_put_same (isMap_numR r) (nKey_lit i)]
     simp
   · rw [Maps.has_put_other (nKey_ne h),has_numR i r]
     simp [h]
theorem has_numD (a:List Nat) (i:Nat):Maps.has (numD a) (nKey i)=decide (i ∈ a):=by
 unfold numD
 rw [has_numR]
 simp
theorem toI_more {o:List Nat} {i j:Nat} (a:j ∉ o) (h:i ≠ j):toI (o++[j]) i=toI o i:=by
 have e:=toL_set (n:=i+j+1) (o:=o) (i:=j) a
 have h1:=toL_get (n:=i+j+1) (o:=o++[j]) (i:=i) (by omega)
 rw [← e,List.getElem?_set_ne (by omega),toL_get (by omega)] at h1
 exact (Option.some.inj h1).symm
theorem at_numD (z:DataW Unit) (i:Nat):∀ a:List Nat,a.Nodup→i ∈ a→(numD a).atKey (nKey i) z = .lit (.int .i64 (toI a i)):=by
 intro a
 induction a using snoc_ind with
 | h0=>intro _ h;cases h
 | h1 o j k =>
   intro d c
   rw [numD_snoc]
   rw [List.nodup_append] at d
   obtain ⟨f,_,g⟩:=d
   have b:j ∉ o:=fun h=>g j h j (by simp) rfl
   by_cases h:i=j
   · subst h
     rw [Maps.atKey_put_same (by unfold numD;exact isMap_numR _) (nKey_lit i),toI_last b]
   · rw [Maps.atKey_put_other (nKey_ne h),toI_more b h]
     refine k f ?_
     rw [List.mem_append,List.mem_singleton] at c
     exact c.resolve_right h
theorem Tryz.keyInt:Keyed Tryz.prog 3:=Maps.int_keyed Tryz.underlying3
theorem Tryz.zeroInt (w:World):(zeroValue 3).run Tryz.prog w = .ok (.int .i64 0) w:=by kernel_rfl
theorem key_num (i:Nat) (hi:i≤1000):keyOf Tryz.prog 3 (.int .i64 (i:Int))=some (nKey i):=Maps.keyOf_int_mk Tryz.underlying3 (WalkArith.wf_i64 (by omega))
def NumM (w:World) (g:Nat) (a:List Nat):Prop:=w.ownsMap Tryz.prog 3 (plainElem (H:=Unit) Tryz.prog 3) g a.length (numD a)
theorem tr_CloneT (A:Option Addr) (n c:Nat) (ts:List Trm) (w:World) (h:Trms w A n c ts) (y:n≤1000) :
 Calls Tryz.prog 107 #[.slice A n c] w fun e w'=>Below w.heap.size w w'∧∃ g m,e = .returned (.slice g n m)∧w'.ownsRow w.heap.size 91 3 (.slice g n m) n (trmCs ts):=by
 have d:=h.len
 have x:=h.cap
 have j:Hid ((Tryz.prog.info? 91).map (fun i=>(i.zero,i.size,i.bytes))=some (some (.agg #[.string ByteArray.empty, .int .i64 0, .int .i64 0]),3,32)):=LH (by kernel_rfl)
 have l:Hid ((w.alloc (.cells #[] 91)).ownsRow w.heap.size 91 3 (.slice (some ⟨w.heap.size,0,none⟩) 0 0) 0 []):=LH (World.ownsRow_made w #[] 0 (Nat.le_refl _) (Nat.zero_le _) rfl)
 have b:=LH (alloc_below w (.cells #[] 91))
 have f:=LH (trms_cells (h.below b.out))
 have k:Hid ((trmCs ts).length=n * 3):=LH (by rw [trmCs_len,d])
 have u:(w.alloc (.cells #[] 91)).heap.size=w.heap.size+1:=alloc_size _ _
 rcases A with _ | a
 · obtain rfl:n=0:=(trms_cells h).1 rfl
   have v:ts=[]:=List.eq_nil_of_length_eq_zero d
   subst v
   clear f k l b j u h d
   go_enter Tryz.func107,Tryz.ntmps107
   have t:∀ w:World,(binOp .eql 22 (.slice none 0 c) (.slice none 0 0)).run Tryz.prog w = .ok (.bool true) w:=fun _=>rfl
   go_wp2_with fail
   go_ret
   exact ⟨Below.refl _ _,none,0,rfl,World.ownsRow_nil _ _ _ _⟩
 · clear h d
   go_enter Tryz.func107,Tryz.ntmps107
   have t:∀ w:World,(binOp .eql 22 (.slice (some a) n c) (.slice none 0 0)).run Tryz.prog w = .ok (.bool false) w:=fun _=>rfl
   go_wp2_with (at_builtin;refine wpl_appendN rfl _ _ 22 rfl w.heap.size 91 _ 3 32 Tryz.underlying22 j.out (by decide) (by decide) (some ⟨w.heap.size,0,none⟩) 0 0 [] rfl l.out (some a) n c (trmCs ts) k.out rfl f.out.1 f.out.2 (trmCs_one _) (by omega) (by omega) (by omega) ?_;intro q r z p o s;simp only [Nat.zero_add,List.nil_append] at p o s)
   go_ret
   exact ⟨b.out.trans (grown_is_below o b.out.size (Nat.le_refl _)),q,r,rfl,p⟩
structure Red2M (W0:World) (gO gM:Nat) (v1:Value) (G:Gr) (w:World) (Ak:Option Addr) (ck:Nat) (An:Option Addr) (cn:Nat) (ks old:List Nat):Prop where
 off:Off (fun k=>k=gM∨k=gO) W0 w
 num:NumM w gM old
 out:Blk w gO 26 #[v1, .slice An old.length cn, .slice none 0 0, .int .i64 0]
 kept:w.ownsRow W0.heap.size 3 1 (.slice Ak ks.length ck) ks.length (ints .i64 (intsOf ks))
 nons:w.ownsRow W0.heap.size 9 1 (.slice An old.length cn) old.length (old.map fun i=>Value.string (nameO G i))
theorem NumM.block {w w':World} {g:Nat} {a:List Nat} (h:NumM w g a) (c:w'.heap[g]? = w.heap[g]?):NumM w' g a:=by
 obtain ⟨b,clock,d,r⟩:=h
 exact ⟨b,clock,c.trans d,r⟩
theorem Red2M.below {l:World} {d c:Nat} {q:Value} {G:Gr} {w w':World} {g:Option Addr} {m:Nat} {j:Option Addr} {n:Nat} {o p:List Nat} (r:Red2M l d c q G w g m j n o p) (a:Below w.heap.size w w'):Red2M l d c q G w' g m j n o p :=
 ⟨r.off.trans (Off.of_below (S:=fun k=>k=c∨k=d) a) fun _ _ h=>h,r.num.block (a.block c r.num.lt),Blk.ext r.out a,own_keep r.kept fun b _ f=>a.block b f,own_keep r.nons fun b _ f=>a.block b f⟩
theorem Red2M.put {c:World} {f d:Nat} {v:Value} {G:Gr} {w w1:World} {l:Option Addr} {m:Nat} {q:Option Addr} {t:Nat} {a u:List Nat} (r:Red2M c f d v G w l m q t a u)
 (z:d < c.heap.size) (A:f < c.heap.size) (j:Nat) (p:Option Addr) (s:Nat)
 (y:w1.ownsRow c.heap.size 3 1 (.slice p (a.length+1) s) (a.length+1) (ints .i64 (intsOf a)++[.int .i64 (j:Int)])) (x:w.grownBy w1 (Value.slice l a.length m).ownBlock) :
 Red2M c f d v G w1 p s q t (a++[j]) u:=by
 have g:=Off.of_grown x
 have o:∀ b,(Value.slice l a.length m).ownBlock=some b→c.heap.size≤b:=fun b n=>(r.kept.lt b n).1
 refine ⟨r.off.trans g fun k B h=>?_,r.num.block (g.keep d r.num.lt fun h=>?_),g.blk r.out fun h=>?_,?_,g.row r.nons fun b n h=>own_apart r.kept r.nons (by decide) h n⟩
 · have:=o k h;omega
 · have:=o d h;omega
 · have:=o f h;omega
 · have e:ints .i64 (intsOf (a++[j]))=ints .i64 (intsOf a)++[.int .i64 (j:Int)]:=by simp [ints,intsOf]
   rw [e,List.length_append,List.length_singleton]
   exact y
structure Mid2M (W0:World) (gO gM:Nat) (v1:Value) (G:Gr) (w:World) (Ak:Option Addr) (ck:Nat) (An:Option Addr) (cn:Nat) (ks old:List Nat) (l:Nat):Prop where
 off:Off (fun k=>k=gM∨k=gO) W0 w
 num:NumM w gM (old++[l])
 out:Blk w gO 26 #[v1, .slice An old.length cn, .slice none 0 0, .int .i64 0]
 kept:w.ownsRow W0.heap.size 3 1 (.slice Ak ks.length ck) ks.length (ints .i64 (intsOf ks))
 nons:w.ownsRow W0.heap.size 9 1 (.slice An old.length cn) old.length (old.map fun i=>Value.string (nameO G i))
theorem Red2M.number {d:World} {f a:Nat} {s:Value} {G:Gr} {w w1:World} {m:Option Addr} {o:Nat} {n:Option Addr} {p:Nat} {q c:List Nat} (r:Red2M d f a s G w m o n p q c)
 (x:a < d.heap.size) (y:f < d.heap.size) (t:a ≠ f) {l:Nat} (z:l ∉ c)
 (v:w1.ownsMap Tryz.prog 3 (plainElem (H:=Unit) Tryz.prog 3) a (c.length+1) ((numD c).put (nKey l) (.lit (.int .i64 (c.length:Int))))) (u:w.grownBy w1 (some a)) :
 Mid2M d f a s G w1 m o n p q c l:=by
 have g:=Off.of_grown u
 refine ⟨r.off.trans g fun k _ h=>?_,?_,g.blk r.out fun h=>?_,g.row r.kept fun b j h=>?_,g.row r.nons fun b j h=>?_⟩
 · injection h with h;exact .inl h.symm
 · unfold NumM
   rw [numD_snoc,List.length_append,List.length_singleton]
   exact v
 · injection h with h;exact t h
 · injection h with h;have:=(r.kept.lt b j).1;omega
 · injection h with h;have:=(r.nons.lt b j).1;omega
theorem Mid2M.below {m:World} {d c:Nat} {s:Value} {G:Gr} {w w':World} {g:Option Addr} {n:Nat} {j:Option Addr} {o:Nat} {p q:List Nat} {l:Nat} (r:Mid2M m d c s G w g n j o p q l) (a:Below w.heap.size w w'):Mid2M m d c s G w' g n j o p q l :=
 ⟨r.off.trans (Off.of_below (S:=fun k=>k=c∨k=d) a) fun _ _ h=>h,r.num.block (a.block c r.num.lt),Blk.ext r.out a,own_keep r.kept fun b _ f=>a.block b f,own_keep r.nons fun b _ f=>a.block b f⟩
theorem Mid2M.name {d:World} {g f:Nat} {y:Value} {G:Gr} {w w1:World} {o:Option Addr} {q:Nat} {p:Option Addr} {s:Nat} {u a:List Nat} {l:Nat} (r:Mid2M d g f y G w o q p s u a l)
 (E:f < d.heap.size) (F:g < d.heap.size) (A:f ≠ g) (j:Option Addr) (m:Nat)
 (x:w1.ownsRow d.heap.size 9 1 (.slice j (a.length+1) m) (a.length+1) ((a.map fun i=>Value.string (nameO G i))++[.string (nameO G l)]))
 (C:w.grownBy w1 (Value.slice p a.length s).ownBlock) :
 Red2M d g f y G (w1.setCell ⟨g,1,none⟩ (.slice j (a.length+1) m)) o q j m u (a++[l]):=by
 have n:=Off.of_grown C
 have t:=Off.of_set w1 g 1 (.slice j (a.length+1) m)
 have v:∀ b,(Value.slice p a.length s).ownBlock=some b→d.heap.size≤b:=fun b c=>(r.nons.lt b c).1
 have D:∀ b,(Value.slice o u.length q).ownBlock=some b→d.heap.size≤b:=fun b c=>(r.kept.lt b c).1
 have B:∀ b,(Value.slice o u.length q).ownBlock=some b→(Value.slice p a.length s).ownBlock=some b→False:=fun b h1 z=>own_apart r.kept r.nons (by decide) h1 z
 refine ⟨(r.off.trans n fun k H h=>?_).trans t fun k _ h => .inr h,(r.num.block (n.keep f r.num.lt fun h=>?_)).block (t.keep f (Nat.lt_of_lt_of_le r.num.lt n.size) A),?_,?_,?_⟩
 · have:=v k h;omega
 · have:=v f h;omega
 · have h1:=n.blk r.out fun h=>by have:=v g h;omega
   have:=Blk.set h1 1 (.slice j (a.length+1) m)
   rw [List.length_append,List.length_singleton]
   exact this
 · exact t.row (n.row r.kept fun b c h=>B b c h) fun b c h=>by have:=D b c;omega
 · rw [List.length_append,List.length_singleton,List.map_append]
   refine t.row x fun b c h=>?_
   have:=(x.lt b c).1
   omega
end Go.Proofs.YtggbjdmpjidhgaaGreatDoor
