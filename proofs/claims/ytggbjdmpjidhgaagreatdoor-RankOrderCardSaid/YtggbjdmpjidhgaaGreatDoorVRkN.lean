/- ranks: what the numbers' functions give, of numbers. -/
import Derived.Test.YtggbjdmpjidhgaaGreatDoorVRkNat
import Derived.Test.YtggbjdmpjidhgaaGreatDoorVRkM
import Derived.Test.YtggbjdmpjidhgaaGreatDoorVInvG
import Derived.Test.YtggbjdmpjidhgaaGreatDoorVRkP3
set_option linter.unusedVariables false
set_option linter.unusedSimpArgs false
set_option maxHeartbeats 8000000
set_option maxRecDepth 100000
namespace Go.Proofs.YtggbjdmpjidhgaaGreatDoor
open Go.RowKit
theorem cmp_limbs {a b:Nat} (c:a < big) (d:b < big):cmpN (limbs a) (limbs b)=cmpI a b:=by
 simp [cmpN,right_of_limbs a c,right_of_limbs b d,val_limbs]
theorem sub_limbs {a b:Nat} (c:a < big) (d:b≤a):subN (limbs a) (limbs b)=(limbs (a - b),0):=by
 have h:¬ a < b:=by omega
 simp [subN,right_of_limbs a c,right_of_limbs b (Nat.lt_of_le_of_lt d c),val_limbs,h]
theorem quo_limbs {a b:Nat} (c:a < big) (d:b < big) (h0:0 < b):quoN (limbs a) (limbs b)=(limbs (a / b),limbs (a % b),0):=by
 have f:limbs b ≠ []:=fun e=>by have:=limbs_none.1 (by rw [e];rfl:(limbs b).length=0);omega
 simp [quoN,right_of_limbs a c,right_of_limbs b d,val_limbs,f]
theorem cmpI_lt {a b:Nat}:cmpI a b < 0 ↔ a < b:=by unfold cmpI;split <;> (try split) <;> omega
def RetOver (a x:Nat) (Ar:Option Addr) (cr:Nat) (w:World) (e:Ending) (w':World):Prop:=Below w.heap.size w w' ∧
 ((a < x∧e = .returned (.tuple #[.slice Ar (limbs a).length cr, .bool false]))∨(x≤a∧∃ A c,e = .returned (.tuple #[.slice A (limbs (a - x)).length c, .bool true])∧Nums .u32 w' A (limbs (a - x)).length c (limbs (a - x))))
theorem tr_over (Ar:Option Addr) (cr a:Nat) (b:Option Addr) (ns cs:Nat) (j:Bool) (x:Nat) (w:World) (v:Nums .u32 w Ar (limbs a).length cr (limbs a)) (z:a < big) (A:ValN w b ns cs j x) :
 Calls Tryz.prog 129 #[.slice Ar (limbs a).length cr, .agg #[.slice b ns cs, .bool j]] w (RetOver a x Ar cr w):=by
 have n:=alloc_below w (.cells #[.slice b ns cs, .bool j] 174)
 have m:=Blk.new w 174 #[.slice b ns cs, .bool j]
 have y:=v.below n
 have o:=A.below n
 have p:=LH n
 have u:=LH y
 clear v A n y
 go_enter Tryz.func129,Tryz.ntmps129
 go_upto_region 1 with fail
 generalize w.alloc (.cells #[.slice b ns cs, .bool j] 174)=g at *
 have M:g.cell? ⟨w.heap.size,0,none⟩=some (.slice b ns cs):=m.cell 0
 have N:g.cell? ⟨w.heap.size,1,none⟩=some (.bool j):=m.cell 1
 have O:=m.lt
 have G:=LH m
 clear m
 rcases o.cases with ⟨B,rfl,ex⟩ | ⟨B,rfl,ex⟩
 case inr =>
  have f:a < x:=by omega
  clear ex o
  go_wp2_with fail
  go_ret2
  exact ⟨p.out, .inl ⟨f,rfl⟩⟩
 case inl =>
  have l:=o.2
  rw [ex] at l
  obtain rfl:=l.len
  have F:=LH l
  have k:=nat_cmp Ar _ cr (limbs a) b _ cs (limbs x) g u.out l (limbs_lim _) (limbs_lim _)
  rw [cmp_limbs z B] at k
  have k:=LH k
  clear ex o l
  by_cases f:a < x
  case pos =>
   have I:cmpI a x < 0:=cmpI_lt.2 f
   have r:=LH f
   clear f
   go_wp2_with (
    go_at_call 76
    (with_reducible refine k.out.mono ?_)
    rintro e c ⟨rfl,t⟩
    have q:=LH (below_tail p.out (t.below _)))
   go_ret2
   exact ⟨q.out, .inl ⟨r.out,rfl⟩⟩
  case neg =>
   have I:¬ cmpI a x < 0:=fun h=>f (cmpI_lt.1 h)
   have r:Hid (x≤a):=LH (by omega)
   have D:Hid (∀ c,Below g.heap.size g c→Calls Tryz.prog 181 #[.slice Ar (limbs a).length cr, .slice b (limbs x).length cs] c (RetNat c (limbs (a - x),0))):=LH fun c d=>by
    have h:=nat_sub Ar _ cr (limbs a) b _ cs (limbs x) c (u.out.below d) (F.out.below d) (limbs_lim _) (limbs_lim _)
    rwa [sub_limbs z (by omega)] at h
   clear f
   go_wp2_with (first
    | (go_at_call 76
       (with_reducible refine k.out.mono ?_)
       rintro e c ⟨rfl,t⟩
       have d:=t.below g.heap.size
       have s:=G.out.ext d
       have P:c.cell? ⟨w.heap.size,0,none⟩=some (.slice b (limbs x).length cs):=s.cell 0
       have R:=s.lt
       have E:=LH (D.out c d)
       have q:=LH (below_tail p.out d)
       clear s d)
    | (go_at_call 181
       (with_reducible refine E.out.mono ?_)
       rintro e L ⟨C,c3,rfl,J,H⟩))
   go_ret2
   exact ⟨below_tail q.out H, .inr ⟨r.out,C,c3,rfl,J⟩⟩
section
variable {P:Program} {Γ:Type} {R:World→World→Prop}
def backA (l:List Oper):Bool:=(List.range l.length).all fun i=>((l[i]?).map fun o=>o.after.toList.all fun e=>!Region.binds .any e || decide (e.on < i)).getD true
theorem ready_noneA {l:List Oper} {listed:Array Bool} (f:backA l=true) (h:Region.ready .any l.toArray listed=[]):∀ i,i < l.length→listed.getD i true=true:=by
 intro i
 induction i using Nat.strongRecOn with
 | ind i m =>
   intro hi
   cases c:listed.getD i true with
   | true=>rfl
   | false =>
     exfalso
     have b:i ∈ Region.ready .any l.toArray listed:=by
      refine mem_ready.2 ⟨c,l[i],by simp [hi],fun e j g=>?_⟩
      have h1:=List.all_eq_true.1 f i (List.mem_range.2 hi)
      rw [List.getElem?_eq_getElem hi,Option.map_some,Option.getD_some,List.all_eq_true] at h1
      have a:=h1 e (by simpa using j)
      rw [g] at a
      have a:e.on < i:=of_decide_eq_true (by simpa using a)
      have d:=m e.on a (by omega)
      have n:i < listed.size:=by
       rcases Nat.lt_or_ge i listed.size with h | h
       · exact h
       · simp [Array.getD,Nat.not_lt.2 h] at c
      have k:e.on < listed.size:=by omega
      simpa [Array.getD,k] using d
     rw [h] at b
     cases b
theorem any_of_invA {l:List Oper} {Q:Exit→Act→World→Prop} {J:Array Bool→Act→World→Prop} (g:backA l=true)
 (m:∀ i o,l.toArray[i]? = some o→∀ (listed:Array Bool) (a:Act) (w:World),J listed a w→listed.getD i true=false→(∀ e ∈ o.after,Region.binds .any e=true→listed.getD e.on false=true) →
   ∀ K:Act→World→Prop,(∀ c w',J (listed.setIfInBounds i true) c w'→K c w')→if Region.wanted o (yielded l.toArray a.tmps) then o.wp P a w K Q else K (a.put o.dst undef) w)
 (j:∀ (listed:Array Bool) (a:Act) (w:World),J listed a w→(∀ i,i < l.length→listed.getD i true=true)→Q .normal a w) :
 ∀ (fuel:Nat) (listed:Array Bool) (a:Act) (w:World),leftN l.toArray.size listed≤fuel→J listed a w→wpAny P .any l.toArray Q fuel listed a w
 | 0,listed,a,w,hl,hJ=>by
   have d:Region.ready .any l.toArray listed=[]:=by
    rw [List.eq_nil_iff_forall_not_mem]
    intro i hi
    obtain ⟨f,o,b,_⟩:=mem_ready.1 hi
    have:=left_less (n:=l.toArray.size) (Array.getElem?_eq_some_iff.1 b).1 f
    omega
   exact ⟨d,j listed a w hJ (ready_noneA g d)⟩
 | fuel+1,listed,a,w,hl,hJ=>by
   refine ⟨fun d=>j listed a w hJ (ready_noneA g d),fun i hi=>?_⟩
   obtain ⟨f,o,b,p⟩:=mem_ready.1 hi
   have q:=left_less (n:=l.toArray.size) (Array.getElem?_eq_some_iff.1 b).1 f
   have h1:=m i o b listed a w hJ f p (wpAny P .any l.toArray Q fuel (listed.setIfInBounds i true)) (fun c w' h=>any_of_invA g m j fuel _ c w' (by omega) h)
   unfold wpOp
   simp only [b]
   split
   · rename_i k
     rw [if_pos k] at h1
     exact .inl h1
   · rename_i k
     rw [if_neg k] at h1
     exact h1
theorem wp_region_invA {id:Nat} {Q:Exit→Act→World→Prop} {a:Act} {w:World} {l:List Oper} (J:Array Bool→Act→World→Prop) (m:P.follows .mixedOrders=true) (g:backA l=true)
 (h0:J (Array.replicate l.length false) a w.drew) (c:StepsU P J 0 l)
 (j:∀ (listed:Array Bool) (a:Act) (w:World),J listed a w→(∀ i,i < l.length→listed.getD i true=true)→Q .normal a w):(Code.region id l.toArray true).wp P Q a w:=by
 have c:=c.inv (ops:=l.toArray) (Q:=Q)
 refine wp_region_any m ?_
 refine any_of_invA g (fun i o n listed a w b q p K f=>?_) (fun listed a w b h=>j listed a w b h) _ _ _ _ ?_ (by simpa using h0)
 · have:=InvSteps.at (k:=i) c (by simpa using n) listed a w b (by rw [Nat.zero_add];exact q) p K (fun d w' h=>f d w' (by rw [Nat.zero_add] at h;exact h))
   exact this
 · exact Nat.le_trans (List.length_filter_le _ _) (by simp)
theorem wp_region_freeA {id:Nat} {Q:Exit→Act→World→Prop} {a:Act} {w:World} {l:List Oper} (M:Γ→(Nat→Bool)→(Nat→Value)→World→Prop) (R:World→World→Prop) (g0:Γ) (F:(Nat→Value)→Act) (u0:List Value) (D:List (Value→World→Prop)) (s:P.follows .mixedOrders=true) (p:backA l=true)
 (m:a=F fun i=>u0.getD i undef) (f:M g0 (fun _=>false) (fun i=>u0.getD i undef) w.drew) (c:MonoL R D) (t:StepsG P l M R F (atL D) 0 l)
 (q:∀ g b u X,(∀ i,i < l.length→b i=true)→M g b u X→(∀ i,i < l.length→atL D i (u i) X)→Q .normal (F u) X):(Code.region id l.toArray true).wp P Q a w:=by
 have v:(fun i=>(Array.replicate l.length false).getD i false)=fun _:Nat=>false:=by
  funext i
  simp [Array.getD]
 refine wp_region_invA (JG l M F (atL D)) s p ⟨_,g0,m,by simp,fun i o _ h=>?_,by rw [v];exact f,fun i h=>?_⟩ ?_ fun listed a X d n=>?_
 · simp [Array.getD] at h
 · simp [Array.getD] at h
 · exact StepsG.steps c.at l 0 (fun j _=>by rw [Nat.zero_add]) (Nat.zero_add _) t
 · obtain ⟨u,g,rfl,x,_,k,hd⟩:=d
   have hi:∀ i,i < l.length→listed.getD i false=true:=fun i hi=>by
    have h1:=n i hi
    have r:i < listed.size:=by omega
    simp only [Array.getD,dif_pos r] at h1 ⊢
    exact h1
   exact q g _ u X hi k fun i h=>hd i (hi i h)
end
def KeepV (b:Nat→Bool) (u:Nat→Value) (p:Nat) (a:Value):Prop:=b p=false→u p=a
theorem KeepV.other {b:Nat→Bool} {u:Nat→Value} {p:Nat} {c:Value} (h:KeepV b u p c) (i:Nat) (v:Value) (hi:p ≠ i):KeepV (updb b i) (upd u i v) p c:=fun a=>by
 rw [updb_ne hi] at a
 rw [upd_ne hi]
 exact h a
theorem KeepV.done {b:Nat→Bool} {u:Nat→Value} {p:Nat} {c:Value} (h:KeepV b u p c) (i:Nat) (v:Value):KeepV (updb b p) (upd u p v) p c:=fun a=>by
 rw [updb_at] at a
 cases a
theorem tr_mtree {U:World} {k:BkH} {h:GH} {G:Gr} (hB:BkG U h G) (Y:Plain G) (m:Nat) (HF:FC U k h G m):TC U k h G (m+1):=by
 intro mk cs s n r t Ar cr w fy h0 hl hT db V hr a
 obtain ⟨R,x0,q,t1,am,dq,hU,dm,rfl⟩:=hT
 have hq:q < forestT (treeN G) x0.right n:=hU.lt Y (InG.at Y.fits am)
 have b1:aheadR (treeN G) G.rules (nonI s) (R+1) n≤treeN G s n:=by
  rw [treeN_non Y h0 hl]
  exact aheadR_le _ _ _ _ _
 rw [aheadR_succ _ am,if_pos dq] at b1
 have gn:R < G.rules.length:=(List.getElem?_eq_some_iff.1 am).1
 have fz:x0.left=(nonI s:Int):=by
  have:=(Y.fits.left x0 (List.mem_of_getElem? am)).1
  omega
 have d3:Hid (∀ (j:Nat) (x:Rul),G.rules[j]? = some x→KeyOK x.right n∧(∀ s ∈ x.right,G.has s=true)∧0≤x.left):=LH fun j x hx=>by
  have h1:=key_rule Y.fits (List.mem_of_getElem? hx) V
  exact ⟨h1.1,h1.2,(Y.fits.left x (List.mem_of_getElem? hx)).1⟩
 have cw:Hid (∀ (j:Nat) (x:Rul),G.rules[j]? = some x→aheadR (treeN G) G.rules (nonI s) (j+1) n=aheadR (treeN G) G.rules (nonI s) j n+(if x.left.toNat=nonI s then forestT (treeN G) x.right n else 0)):=LH fun j x hx=>aheadR_succ _ hx _ _
 have ct:Hid (∀ j,j≤R→aheadR (treeN G) G.rules (nonI s) j n≤aheadR (treeN G) G.rules (nonI s) R n):=LH fun j hj=>aheadR_mono _ _ _ _ hj
 have dy:Hid (InG G x0.right):=LH (InG.at Y.fits am)
 obtain ⟨S,A,c,ar⟩:=a
 obtain ⟨a1,n1,c1,a2,n2,c2,a3,n3,c3⟩:=h
 obtain ⟨gc,gt⟩:=k
 have fw:n3=G.rules.length:=hB.at_.rules.len.symm
 have gj:=hB.at_.rules.cap
 have gq:=Y.fits.n3.2
 have HB:=LH hB
 have dx:=LH HF
 have HU:=LH hU
 have bs:=LH am
 have cp:=LH db
 have HR:=LH hr
 have HM:=LH ar
 have cy:=LH b1
 have a6:=LH dm
 have Hq:=LH hq
 have g0:w.cell? ⟨mk,0,none⟩=some (.pointer (some ⟨gc,0,none⟩)):=ar.box.cell 0
 have L:=ar.box.lt
 have b2:w.cell? ⟨gc,2,none⟩=some (.slice a3 n3 c3):=ar.bk.box.cell 2
 have fd:=ar.bk.box.lt
 clear hB Y HF hU am dq db hr ar b1 dm hq h0 hl
 go_enter Tryz.func77,Tryz.ntmps77
 go_wp2_with fail
 go_loopw [3,21] (fun v i wr=>∃ (j E:Nat) (Av:Option Addr) (cv:Nat) (S:Nat→Prop) (A:Option Addr) (c:Nat),i = .int .i64 (j:Int)∧j≤R∧v = .slice Av (limbs E).length cv∧Hid (r=aheadR (treeN G) G.rules (nonI s) j n+E)∧Hid (Nums .u32 wr Av (limbs E).length cv (limbs E))∧Hid (MkIn U ⟨gc,gt⟩ ⟨a1,n1,c1,a2,n2,c2,a3,n3,c3⟩ G mk cs S A c wr)∧Hid (NatKeep w wr)) (fun _ i _=>n3 - (intOf i).toNat)
 case atStart=>exact ⟨0,r,Ar,cr,S,A,c,rfl,Nat.zero_le _,rfl,LH (by rw [aheadR_zero];omega),HR,HM,LH (NatKeep.refl _)⟩
 case round =>
  obtain ⟨j,E,Av,cv,S',A',c',rfl,hj,rfl,ao,HN,ck,ch⟩:=hrel
  clear g0 L b2 fd HM HR
  have M:=ck.out
  obtain ⟨bq,oq,x,N,P,rfl,bd,Hx,q0,q1,q2,c6⟩:=HB.out.at_.rules.get (j:=j) (by show j < n3;omega)
  have e0:=(M.bk.base.cell (p:=⟨bq,oq+j * 3,none⟩) bd).trans q0
  have e1:=(M.bk.base.cell (p:=⟨bq,oq+j * 3+1,none⟩) bd).trans q1
  have e2:=(M.bk.base.cell (p:=⟨bq,oq+j * 3+2,none⟩) bd).trans q2
  have bx:=Nat.lt_of_lt_of_le bd M.bk.base.size
  have cf:=LH c6
  have g0:wr.cell? ⟨mk,0,none⟩=some (.pointer (some ⟨gc,0,none⟩)):=M.box.cell 0
  have L:=M.box.lt
  have bc:=alloc_below wr (.cells #[.int .i64 x.left, .slice N x.right.length P, .int .i64 x.prec] 52)
  have au:=Blk.new wr 52 #[.int .i64 x.left, .slice N x.right.length P, .int .i64 x.prec]
  have O:=LH (M.below bc)
  have cg:=LH (ch.out.trans (NatKeep.of_below bc))
  have bm:=LH (HN.out.below bc)
  have bh:=d3.out j x Hx.out
  have ci:=LH bh.1
  have cq:=LH bh.2.1
  have gp:=bh.2.2
  clear M q0 q1 q2 c6 bc bh ck ch HN
  go_upto_region 4 with fail
  clear g0 L e0 e1 e2 bx
  have d0:Hid (wr.heap.size=wr.heap.size):=LH rfl
  generalize wr.alloc (.cells #[.int .i64 x.left, .slice N x.right.length P, .int .i64 x.prec] 52)=W1 at *
  generalize wr.heap.size=L at *
  clear d0
  have z0:W1.cell? ⟨L,0,none⟩=some (.int .i64 x.left):=au.cell 0
  have z1:W1.cell? ⟨L,1,none⟩=some (.slice N x.right.length P):=au.cell 1
  have z2:W1.cell? ⟨L,2,none⟩=some (.int .i64 x.prec):=au.cell 2
  have cl:=au.lt
  have az:=LH au
  clear au
  by_cases aw:x.left=(nonI s:Int)
  case neg =>
   have fx:(x.left != (nonI s:Int))=true:=by simpa using aw
   have fr:j ≠ R:=by
    rintro rfl
    have e:=Hx.out.symm.trans bs.out
    injection e with e
    subst e
    exact aw fz
   have br:Hid (r=aheadR (treeN G) G.rules (nonI s) (j+1) n+E):=LH (by
    rw [cw.out j x Hx.out,if_neg (by omega)]
    exact ao.out)
   clear aw
   go_wp2_with fail
   go_roundw
   case rel=>exact ⟨j+1,E,Av,cv,S',A',c',by go_num,by omega,rfl,br,bm,O,cg⟩
   case measure=>simp [intOf] <;> omega
  case pos =>
   have fx:(x.left != (nonI s:Int))=false:=by simpa using aw
   have d9:=LH aw
   obtain ⟨y,Hy⟩:∃ y,Hid (forestT (treeN G) x.right n=y):=⟨_,LH rfl⟩
   obtain ⟨F,bb,a5⟩:∃ F bb,Hid ((E < y∧F=E∧bb=false)∨(y≤E∧F=E - y∧bb=true)):=by
    by_cases hh:E < y
    · exact ⟨_,_,LH (.inl ⟨hh,rfl,rfl⟩)⟩
    · exact ⟨_,_,LH (.inr ⟨by omega,rfl,rfl⟩)⟩
   have dn:E < big:=by
    have h1:=ao.out
    have H:=a6.out
    have h3:=cy.out
    have h4:=cp.out
    have h5:=Hq.out
    have h6:=ct.out j hj
    omega
   have d7:=LH dn
   clear aw dn
   go_upto_region 6 with fail
   generalize decide (j < G.rules.length)=fb at *
   refine wp_region_freeA (Γ:=Unit) (fun _ b u X=>(BkAt U ⟨gc,gt⟩ ⟨a1,n1,c1,a2,n2,c2,some ⟨bq,oq,none⟩,n3,c3⟩ G S' X∧Off (BkH.map ⟨gc,gt⟩) W1 X)∧KeepV b u 13 (.slice Av (limbs E).length cv)) (fun X W=>IntKeep X W) () (fun u=>(⟨(.pointer (some ⟨mk,0,none⟩) :: .int .i64 ((nonI s:Nat):Int) :: .int .i64 (n:Int)::u 13::undef::undef::undef::undef::u8 :: .int .i64 (j:Int) :: .pointer (some ⟨L,0,none⟩)::u 14 :: .pointer (some ⟨mk,0,none⟩) :: .pointer (some ⟨mk,0,none⟩) :: .pointer (some ⟨mk,0,none⟩) :: .pointer (some ⟨gc,0,none⟩) :: .pointer (some ⟨gc,0,none⟩) :: .pointer (some ⟨gc,0,none⟩) :: .pointer (some ⟨gc,2,none⟩) :: .slice (some ⟨bq,oq,none⟩) G.rules.length c3 :: .int .i64 (G.rules.length:Int) :: .int .i64 (j:Int) :: .bool fb :: .int .i64 (j:Int) :: .pointer (some ⟨bq,oq+j * 3,none⟩) :: .agg #[.int .i64 x.left, .slice N x.right.length P, .int .i64 x.prec] :: .pointer (some ⟨L,0,none⟩) :: .int .i64 x.left :: .int .i64 ((nonI s:Nat):Int) :: .bool false::u 10::u 0::u 1::u 2::u 3::u 4::u 5::u 6::u 7::u 8::u 9::u 11::u 12::u43::u44::u45::u46::u47::u48::u49::u50::u51::u52::u53::u54::u55::u56::u57::u58::u59::u60::u61::u62::u63::u64::u65::u66::[]).toArray,[]⟩:Act)) [u31,u32,u33,u34,u35,u36,u37,u38,u39,u40,u30,u41,u42, .slice Av (limbs E).length cv, .bool false] [fun v X=>v = .slice Av (limbs E).length cv,fun v X=>v = .pointer (some ⟨mk,0,none⟩),fun v X=>v = .pointer (some ⟨mk,0,none⟩),fun v X=>v = .pointer (some ⟨mk,0,none⟩),fun v X=>v = .pointer (some ⟨gc,0,none⟩),fun v X=>v = .pointer (some ⟨L,1,none⟩),fun v X=>v = .slice N x.right.length P,fun v X=>v = .int .i64 (n:Int),fun v X=>∃ Z ag ad d1,v = .agg #[.slice Z ag ad, .bool d1]∧ValN X Z ag ad d1 y,fun v X=>∃ o z,v = .tuple #[.slice o (limbs F).length z, .bool bb]∧Nums .u32 X o (limbs F).length z (limbs F),fun v X=>∃ o z,v = .tuple #[.slice o (limbs F).length z, .bool bb]∧Nums .u32 X o (limbs F).length z (limbs F),fun v X=>∃ o z,v = .slice o (limbs F).length z∧Nums .u32 X o (limbs F).length z (limbs F),fun v X=>v = .bool bb,fun v X=>∃ o z,v = .slice o (limbs F).length z∧Nums .u32 X o (limbs F).length z (limbs F),fun v X=>v = .bool bb] (l:=[_,_,_,_,_,_,_,_,_,_,_,_,_,_,_]) (by kernel_rfl) (by kernel_rfl) rfl ⟨⟨O.out.bk.below (Below.refl _ _).drew,Off.of_below (Below.refl _ _).drew⟩,fun _=>rfl⟩ ⟨fun _ _ _ h _=>h,fun _ _ _ h _=>h,fun _ _ _ h _=>h,fun _ _ _ h _=>h,fun _ _ _ h _=>h,fun _ _ _ h _=>h,fun _ _ _ h _=>h,fun _ _ _ h _=>h,(fun v X W ⟨Z,ag,ad,d1,e,h⟩ I=>⟨Z,ag,ad,d1,e,h.kept I⟩),(fun v X W ⟨o,z,e,h⟩ I=>⟨o,z,e,h.kept I⟩),(fun v X W ⟨o,z,e,h⟩ I=>⟨o,z,e,h.kept I⟩),(fun v X W ⟨o,z,e,h⟩ I=>⟨o,z,e,h.kept I⟩),fun _ _ _ h _=>h,(fun v X W ⟨o,z,e,h⟩ I=>⟨o,z,e,h.kept I⟩),fun _ _ _ h _=>h,trivial⟩ ?_ ?_
   · refine StepsG.cons rfl (fun _ _=>rfl) (fun Q g b u X B J a d K C=>?_) ?_
     · have fo:b 13=false:=Bool.eq_false_iff.2 fun h=>by
        have h0:=B 13 _ rfl h 11 rfl
        have h1:=B 11 _ rfl h0 10 rfl
        have H:=B 10 _ rfl h1 9 rfl
        have h3:=B 9 _ rfl H 0 rfl
        exact absurd (J.symm.trans h3) (by decide)
       have fs:u 13=_:=a.2 fo
       have D:=fun v=>a.2.other 0 v (by decide)
       have f:=a.1
       clear d a B
       generalize u 13=xk at *
       subst fs
       go_simp
       exact C _ () _ ⟨Nat.le_refl _,fun _ _ _=>rfl⟩ ⟨f,D _⟩ rfl
     refine StepsG.cons rfl (fun _ _=>rfl) (fun Q g b u X B J a d K C=>?_) ?_
     · have D:=fun v=>a.2.other 1 v (by decide)
       have f:=a.1
       clear d a B
       go_simp
       exact C _ () _ ⟨Nat.le_refl _,fun _ _ _=>rfl⟩ ⟨f,D _⟩ rfl
     refine StepsG.cons rfl (fun _ _=>rfl) (fun Q g b u X B J a d K C=>?_) ?_
     · have p1:u 1=_:=(d 1 rfl).2
       have D:=fun v=>a.2.other 2 v (by decide)
       have f:=a.1
       clear d a B
       generalize u 1=x1 at *
       subst p1
       go_simp
       exact C _ () _ ⟨Nat.le_refl _,fun _ _ _=>rfl⟩ ⟨f,D _⟩ rfl
     refine StepsG.cons rfl (fun _ _=>rfl) (fun Q g b u X B J a d K C=>?_) ?_
     · have p2:u 2=_:=(d 2 rfl).2
       have D:=fun v=>a.2.other 3 v (by decide)
       have f:=a.1
       clear d a B
       generalize u 2=x2 at *
       subst p2
       go_simp
       exact C _ () _ ⟨Nat.le_refl _,fun _ _ _=>rfl⟩ ⟨f,D _⟩ rfl
     refine StepsG.cons rfl (fun _ _=>rfl) (fun Q g b u X B J a d K C=>?_) ?_
     · have p3:u 3=_:=(d 3 rfl).2
       have D:=fun v=>a.2.other 4 v (by decide)
       have f:=a.1
       have gX:=f.2.blk O.out.box (O.out.bk.not_map O.out.box)
       have y0:X.cell? ⟨mk,0,none⟩=some (.pointer (some ⟨gc,0,none⟩)):=gX.cell 0
       have yl:=gX.lt
       clear gX
       clear d a B
       generalize u 3=x3 at *
       subst p3
       go_simp
       exact C _ () _ ⟨Nat.le_refl _,fun _ _ _=>rfl⟩ ⟨f,D _⟩ rfl
     refine StepsG.cons rfl (fun _ _=>rfl) (fun Q g b u X B J a d K C=>?_) ?_
     · have D:=fun v=>a.2.other 5 v (by decide)
       have f:=a.1
       clear d a B
       go_simp
       exact C _ () _ ⟨Nat.le_refl _,fun _ _ _=>rfl⟩ ⟨f,D _⟩ rfl
     refine StepsG.cons rfl (fun _ _=>rfl) (fun Q g b u X B J a d K C=>?_) ?_
     · have p5:u 5=_:=(d 5 rfl).2
       have D:=fun v=>a.2.other 6 v (by decide)
       have f:=a.1
       have gX:=f.2.blk az.out (O.out.bk.not_map az.out)
       have y0:X.cell? ⟨L,1,none⟩=some (.slice N x.right.length P):=gX.cell 1
       have yl:=gX.lt
       clear gX
       clear d a B
       generalize u 5=x5 at *
       subst p5
       go_simp
       exact C _ () _ ⟨Nat.le_refl _,fun _ _ _=>rfl⟩ ⟨f,D _⟩ rfl
     refine StepsG.cons rfl (fun _ _=>rfl) (fun Q g b u X B J a d K C=>?_) ?_
     · have D:=fun v=>a.2.other 7 v (by decide)
       have f:=a.1
       clear d a B
       go_simp
       exact C _ () _ ⟨Nat.le_refl _,fun _ _ _=>rfl⟩ ⟨f,D _⟩ rfl
     refine StepsG.cons rfl (fun _ _=>rfl) (fun Q g b u X B J a d K C=>?_) ?_
     · have p4:u 4=_:=(d 4 rfl).2
       have p6:u 6=_:=(d 6 rfl).2
       have p7:u 7=_:=(d 7 rfl).2
       have D:=fun v=>a.2.other 8 v (by decide)
       have f:=a.1
       have CC:=tr_bof HB.out ci.out cq.out S' X N P f.1 (fun b I=>Nat.lt_of_lt_of_le (O.out.lt b I) f.2.size) (cf.out.below f.1.base)
       clear d a B
       generalize u 4=x4 at *
       subst p4
       generalize u 6=x6 at *
       subst p6
       generalize u 7=x7 at *
       subst p7
       go_simp
       go_at_call 125
       (with_reducible refine CC.mono ?_)
       rintro e W ⟨fk,c8,Z,ag,ad,d1,rfl,hv⟩
       rw [Hy.out] at hv
       go_simp
       exact C _ () _ (f.1.keep c8) ⟨⟨fk,f.2.map_trans c8⟩,D _⟩ ⟨Z,ag,ad,d1,rfl,hv⟩
     refine StepsG.cons rfl (fun _ _=>rfl) (fun Q g b u X B J a d K C=>?_) ?_
     · have p0:u 0=_:=(d 0 rfl).2
       obtain ⟨Z,ag,ad,d1,p8,hv⟩:=(d 8 rfl).2
       have D:=fun v=>a.2.other 9 v (by decide)
       have f:=a.1
       have c7:=bm.out.kept (O.out.bk.keep f.2)
       have CC:=tr_over Av cv E Z ag ad d1 y X c7 d7.out hv
       clear d a B
       generalize u 0=x0 at *
       subst p0
       generalize u 8=x8 at *
       subst p8
       go_simp
       go_at_call 129
       (with_reducible refine CC.mono ?_)
       rintro e W ⟨I,bf⟩
       obtain ⟨o,z,rfl,V⟩:∃ o z,e = .returned (.tuple #[.slice o (limbs F).length z, .bool bb])∧Nums .u32 W o (limbs F).length z (limbs F):=by
        rcases a5.out with ⟨h1,rfl,rfl⟩ | ⟨h1,rfl,rfl⟩ <;> rcases bf with ⟨H,rfl⟩ | ⟨H,A9,c9,rfl,h3⟩
        · exact ⟨_,_,rfl,c7.below I⟩
        · omega
        · omega
        · exact ⟨_,_,rfl,h3⟩
       go_simp
       exact C _ () _ (.of_below I) ⟨⟨f.1.below I,f.2.map_trans (Off.of_below I)⟩,D _⟩ ⟨o,z,rfl,V⟩
     refine StepsG.cons rfl (fun _ _=>rfl) (fun Q g b u X B J a d K C=>?_) ?_
     · obtain ⟨o,z,p9,V⟩:=(d 9 rfl).2
       have D:=fun v=>a.2.other 10 v (by decide)
       have f:=a.1
       clear d a B
       generalize u 9=x9 at *
       subst p9
       go_simp
       exact C _ () _ ⟨Nat.le_refl _,fun _ _ _=>rfl⟩ ⟨f,D _⟩ ⟨o,z,rfl,V⟩
     refine StepsG.cons rfl (fun _ _=>rfl) (fun Q g b u X B J a d K C=>?_) ?_
     · obtain ⟨o,z,b5,V⟩:=(d 10 rfl).2
       have D:=fun v=>a.2.other 11 v (by decide)
       have f:=a.1
       clear d a B
       generalize u 10=f8 at *
       subst b5
       go_simp
       exact C _ () _ ⟨Nat.le_refl _,fun _ _ _=>rfl⟩ ⟨f,D _⟩ ⟨o,z,rfl,V⟩
     refine StepsG.cons rfl (fun _ _=>rfl) (fun Q g b u X B J a d K C=>?_) ?_
     · obtain ⟨o,z,b5,V⟩:=(d 10 rfl).2
       have D:=fun v=>a.2.other 12 v (by decide)
       have f:=a.1
       clear d a B
       generalize u 10=f8 at *
       subst b5
       go_simp
       exact C _ () _ ⟨Nat.le_refl _,fun _ _ _=>rfl⟩ ⟨f,D _⟩ rfl
     refine StepsG.cons rfl (fun _ _=>rfl) (fun Q g b u X B J a d K C=>?_) ?_
     · obtain ⟨o,z,f0,V⟩:=(d 11 rfl).2
       have D:=fun v=>a.2.done 13 v
       have f:=a.1
       clear d a B
       generalize u 11=g7 at *
       subst f0
       go_simp
       exact C _ () _ ⟨Nat.le_refl _,fun _ _ _=>rfl⟩ ⟨f,D _⟩ ⟨o,z,rfl,V⟩
     refine StepsG.cons rfl (fun _ _=>rfl) (fun Q g b u X B J a d K C=>?_) ?_
     · have f1:u 12=_:=(d 12 rfl).2
       have D:=fun v=>a.2.other 14 v (by decide)
       have f:=a.1
       clear d a B
       generalize u 12=g8 at *
       subst f1
       go_simp
       exact C _ () _ ⟨Nat.le_refl _,fun _ _ _=>rfl⟩ ⟨f,D _⟩ rfl
     exact StepsG.nil
   intro _ b9 u X9 fn ak d
   obtain ⟨ak,fu⟩:=ak
   clear fn fu
   obtain ⟨o,z,dr,df⟩:=d 13 (by decide)
   have ds:u 14=_:=d 14 (by decide)
   clear d b9
   rw [dr,ds]
   clear dr ds
   generalize u 0=w0 at *
   generalize u 1=w1 at *
   generalize u 2=w2 at *
   generalize u 3=w3 at *
   generalize u 4=w4 at *
   generalize u 5=w5 at *
   generalize u 6=w6 at *
   generalize u 7=w7 at *
   generalize u 8=w8 at *
   generalize u 9=w9 at *
   generalize u 10=gs at *
   generalize u 11=gu at *
   generalize u 12=gv at *
   clear u
   have T:=LH (O.out.off ak.1 ak.2)
   have bl:=LH (cg.out.trans (NatKeep.of_int (O.out.bk.keep ak.2)))
   have bo:=LH (ak.2.blk az.out (O.out.bk.not_map az.out))
   have cn:=LH df
   have dp:aheadR (treeN G) G.rules (nonI s) (j+1) n=aheadR (treeN G) G.rules (nonI s) j n+y:=by
    rw [cw.out j x Hx.out,if_pos (by have:=d9.out;omega),Hy.out]
   have dg:j=R→E < y:=by
    intro e
    subst e
    have e1:=Hx.out.symm.trans bs.out
    injection e1 with e1
    subst e1
    have h1:=ao.out
    have H:=a6.out
    have h3:=Hq.out
    have h4:=Hy.out
    omega
   have dd:j < R→y≤E:=by
    intro de
    have h1:=ct.out (j+1) (by omega)
    have H:=ao.out
    have h3:=a6.out
    omega
   have d8:=LH dp
   have d5:=LH dg
   have d4:=LH dd
   clear dp dg dd z0 z1 z2 cl az O bm ak df
   rcases a5.out with ⟨de,rfl,rfl⟩ | ⟨gm,rfl,rfl⟩
   case inr =>
    have fr:j < R:=by
     rcases Nat.lt_or_ge j R with h | h
     · exact h
     · have:=d5.out (by omega);omega
    have br:Hid (r=aheadR (treeN G) G.rules (nonI s) (j+1) n+(E - y)):=LH (by
     have h1:=d8.out
     have H:=ao.out
     omega)
    clear a5
    go_wp2_with fail
    go_roundw
    case rel=>exact ⟨j+1,E - y,o,z,S',A',c',by go_num,by omega,rfl,br,cn,T,bl⟩
    case measure=>simp [intOf] <;> omega
   case inl =>
    obtain rfl:j=R:=by
     rcases Nat.lt_or_ge j R with h | h
     · have:=d4.out h;omega
     · omega
    obtain rfl:x=x0:=by
     have e1:=Hx.out.symm.trans bs.out
     injection e1
    obtain rfl:F=q:=by
     have h1:=ao.out
     have H:=a6.out
     omega
    clear a5 de
    have g0:X9.cell? ⟨mk,0,none⟩=some (.pointer (some ⟨gc,0,none⟩)):=T.out.box.cell 0
    have g2:X9.cell? ⟨mk,1,none⟩=some (.slice A' cs.length c'):=T.out.box.cell 1
    have gl:=T.out.box.lt
    have gk:=T.out.few
    by_cases be:cs.length=300
    case pos =>
     have fp:((cs.length:Int) == 300)=true:=by rw [be];rfl
     have bp:=LH be
     clear be
     go_wp2_with fail
     go_ret
     exact ⟨bl.out, .inr ⟨by rw [bp.out,List.length_cons];omega,rfl,T.out.bk.base⟩⟩
    case neg =>
     have fp:((cs.length:Int) == 300)=false:=by
      rw [beq_eq_false_iff_ne]
      omega
     have bp:=LH be
     have d2:Hid ((Tryz.prog.info? 3).map (fun i=>(i.zero,i.size,i.bytes))=some (some (.int .i64 0),1,8)):=LH (by kernel_rfl)
     have z1:X9.cell? ⟨L,1,none⟩=some (.slice N x.right.length P):=bo.out.cell 1
     have zl:=bo.out.lt
     have bx:U.heap.size≤X9.heap.size:=T.out.bk.base.size
     have fv:cs.length+1≤maxLen:=by unfold maxLen;omega
     go_upto_region 11 with (first
      | (at_builtin;refine wpl_appendR rfl _ _ 27 rfl U.heap.size 8 Tryz.underlying27 d2.out A' cs.length c' (cs.map fun i:Nat=>(i:Int)) rfl T.out.row (j:Int) rfl fv (by omega) bx ?_;intro A5 c5 w5 dl bz fm
         have al:=T.out.push (i:=j) (alloc_below _ _) dl bz bp.out
         have p1:w5.cell? ⟨mk,1,none⟩=some (.slice A' cs.length c'):=al.1.cell 1
         have p0:w5.cell? ⟨mk,0,none⟩=some (.pointer (some ⟨gc,0,none⟩)):=al.1.cell 0
         have p2:=al.1.frozen 1
         have p3:=al.1.lt
         have HP:=LH al.2
         have ce:Hid (Blk (w5.setCell ⟨mk,1,none⟩ (.slice A5 (cs.length+1) c5)) L 52 #[.int .i64 x.left, .slice N x.right.length P, .int .i64 x.prec]):=LH (by
          have da:=bo.out.ext (alloc_below X9 (.cells #[.int .i64 (j:Int)] 3))
          have bw:=(Off.of_grown bz).blk da fun e=>by
           obtain ⟨_,_,v,hv⟩:=(T.out.below (alloc_below X9 (.cells #[.int .i64 (j:Int)] 3))).row.blk e
           exact absurd (hv.same_ty da) (by decide)
          exact bw.other mk 1 _ fun e=>by
           rw [e] at bw
           exact absurd (bw.same_ty al.1) (by decide))
         clear al dl bz fm))
     generalize w5.setCell ⟨mk,1,none⟩ (.slice A5 (cs.length+1) c5)=W6 at *
     clear p0 p1 p2 p3 z1 zl g0 g2 gl
     have hm:W6.cell? ⟨L,1,none⟩=some (.slice N x.right.length P):=ce.out.cell 1
     have ho:=ce.out.lt
     have CF:=LH (dx.out mk (cs++[j]) x.right n F t1 N P o z W6 (by rw [List.length_cons] at fy;omega) HU.out dy.out (by have h1:=cy.out;have H:=cp.out;omega) ci.out cq.out cf.out (cn.out.nkept HP.out.2) HP.out.1)
     go_wp2_with (first
      | (go_at_call 130
         (with_reducible refine CF.out.mono ?_)
         rintro e W7 ⟨ft,dh⟩
         obtain ⟨bv,rfl,bf⟩:∃ bv,e = .returned (.bool bv)∧(((cs++[j]).length+t1.length≤300∧bv=true∧MkAt U ⟨gc,gt⟩ ⟨a1,n1,c1,a2,n2,c2,some ⟨bq,oq,none⟩,n3,c3⟩ G mk (cs++[j]++t1) W7)∨(300 < (cs++[j]).length+t1.length∧bv=false∧Below U.heap.size U W7)):=by
          rcases dh with ⟨h1,rfl,H⟩ | ⟨h1,rfl,H⟩
          · exact ⟨true,rfl, .inl ⟨h1,rfl,H⟩⟩
          · exact ⟨false,rfl, .inr ⟨h1,rfl,H⟩⟩
         have d6:=LH bf
         clear bf dh))
     go_ret
     refine ⟨bl.out.trans (HP.out.2.trans ft),?_⟩
     have di:=d6.out
     rw [List.length_append,List.length_singleton] at di
     rw [List.length_cons]
     rcases di with ⟨h1,rfl,H⟩ | ⟨h1,rfl,H⟩
     · rw [List.append_assoc] at H
       exact .inl ⟨by omega,rfl,by rw [← fw];exact H⟩
     · exact .inr ⟨by omega,rfl,H⟩
end Go.Proofs.YtggbjdmpjidhgaaGreatDoor
