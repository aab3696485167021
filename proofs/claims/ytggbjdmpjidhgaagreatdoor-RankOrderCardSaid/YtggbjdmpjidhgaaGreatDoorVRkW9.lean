/- ranks: the teller's two functions together; a book is opened (walked). -/
import Derived.Test.YtggbjdmpjidhgaaGreatDoorVRkW7
import Derived.Test.YtggbjdmpjidhgaaGreatDoorVCtX1
set_option linter.unusedVariables false
set_option linter.unusedSimpArgs false
set_option maxHeartbeats 8000000
set_option maxRecDepth 100000
namespace Go.Proofs.YtggbjdmpjidhgaaGreatDoor
open Go.RowKit
theorem teller_all {b:World} {k:BkH} {h:GH} {G:Gr} (c:BkG b h G) (d:Plain G):∀ m,TT b k h G m∧FT b k h G m
 | 0=>by
   have a:TT b k h G 0:=by
    intro o s n r t z w f h0 j a
    obtain ⟨i,x,q,l,_,_,_,_,rfl⟩:=a
    rw [List.length_cons] at f
    omega
   exact ⟨a,tr_tforest c d 0 a⟩
 | m+1=>by
   have g:=teller_all (k:=k) c d m
   have a:=tr_ttree c d m g.2
   exact ⟨a,tr_tforest c d (m+1) a⟩
theorem tr_open (h:GH) (G:Gr) (w:World) :
 Calls Tryz.prog 72 #[GV h G.start] w fun e w'=>∃ gc k,e = .returned (.pointer (some ⟨gc,0,none⟩))∧BkAt w ⟨gc,k⟩ h G (fun _=>False) w'∧w.heap.size≤gc∧gc < w'.heap.size:=by
 obtain ⟨a1,n1,c1,a2,n2,c2,a3,n3,c3⟩:=h
 have g:=alloc_below w (.cells #[.slice a1 n1 c1, .slice a2 n2 c2, .slice a3 n3 c3, .int .i64 G.start] 26)
 have b:=Blk.new w 26 #[.slice a1 n1 c1, .slice a2 n2 c2, .slice a3 n3 c3, .int .i64 G.start]
 have o:=@run_makeMap Tryz.prog
 go_enter Tryz.func72,Tryz.ntmps72
 go_upto_region 1 with fail
 generalize w.alloc (.cells #[.slice a1 n1 c1, .slice a2 n2 c2, .slice a3 n3 c3, .int .i64 G.start] 26)=a at *
 have q:a.cell? ⟨w.heap.size,0,none⟩=some (.slice a1 n1 c1):=b.cell 0
 have r:a.cell? ⟨w.heap.size,1,none⟩=some (.slice a2 n2 c2):=b.cell 1
 have s:a.cell? ⟨w.heap.size,2,none⟩=some (.slice a3 n3 c3):=b.cell 2
 have t:a.cell? ⟨w.heap.size,3,none⟩=some (.int .i64 G.start):=b.cell 3
 have u:=b.lt
 have c:=LH g
 clear g b
 go_wp2_with fail
 go_ret
 have m:=PlcM.made a Tryz.prog 223
 have l:=alloc_below a (.map #[] 0)
 have n:(a.alloc (.map #[] 0)).heap.size=a.heap.size+1:=by simp
 have j:=alloc_below (a.alloc (.map #[] 0)) (.cells #[.slice a1 n1 c1, .slice a2 n2 c2, .slice a3 n3 c3, .int .i64 G.start, .map (some a.heap.size)] 170)
 have d:=Blk.new (a.alloc (.map #[] 0)) 170 #[.slice a1 n1 c1, .slice a2 n2 c2, .slice a3 n3 c3, .int .i64 G.start, .map (some a.heap.size)]
 rw [n] at d
 refine ⟨a.heap.size+1,a.heap.size,rfl,⟨below_tail (below_tail c.out l) j,d,c.out.size,[],m.below j,fun p f=>(by cases f),fun p f=>(by cases f)⟩,by have:=c.out.size;omega,d.lt⟩
def badU (G:Gr) (n:Int) (a:List Nat):Prop:=G.right=false∨n < 0∨10 < n∨rightB a=false
def keptN (G:Gr) (i:Nat):Nat:=(ksN G G.rules.length).getD i 0
def UnrIs (G:Gr) (n:Int) (a:List Nat) (c:List Nat) (b:Nat):Prop :=
 (badU G n a∧c=[]∧b=1) ∨
 (¬ badU G n a∧(cntN22 G n).2 ≠ 0∧c=[]∧b=(cntN22 G n).2) ∨
 (¬ badU G n a∧(cntN22 G n).2=0∧val (cntN22 G n).1≤val a∧c=[]∧b=11) ∨
 (¬ badU G n a∧(cntN22 G n).2=0∧val a < val (cntN22 G n).1∧∃ t,UnT (redG G) (redG G).start.toNat n.toNat (val a) t ∧
   ((300 < t.length∧c=[]∧b=13)∨(t.length≤300∧c=t.map (keptN G)∧b=0)))
theorem cnt_told {G:Gr} {n:Int} (g:G.right=true) (q:0≤n∧n≤10) (h0:(cntN22 G n).2=0) (b:0 < val (cntN22 G n).1) :
 redOK G=true∧Told22 (redG G)∧Plain (redG G)∧treeN (redG G) (-1 - (redG G).start) n.toNat < big∧val (cntN22 G n).1=treeN (redG G) (-1 - (redG G).start) n.toNat∧(cntN22 G n).1=limbs (treeN (redG G) (-1 - (redG G).start) n.toNat):=by
 have k:¬ (G.right=false∨n < 0∨10 < n):=by
  rintro (h | h | h)
  · rw [g] at h;cases h
  · omega
  · omega
 unfold cntN22 at h0 b ⊢
 rw [if_neg k] at h0 b ⊢
 by_cases a:redOK G=false
 · rw [if_pos a] at b
   exact absurd b (by decide)
 · rw [if_neg a] at h0 b ⊢
   have a:redOK G=true:=by simpa using a
   obtain ⟨m,rfl⟩:∃ m:Nat,n=(m:Int):=⟨n.toNat,by omega⟩
   obtain ⟨c,o,p,l,d⟩:=ofN_told h0
   have f:=ofN_fit c o p l
   have j:=(red_plain g a c.cyc).1
   rw [forest_single] at d f
   rw [fitN_ok d] at f
   rw [f]
   simp only [Int.toNat_natCast]
   exact ⟨a,c,j,d,val_limbs _,trivial⟩
theorem cnt_right (G:Gr) (n:Int):Lim (cntN22 G n).1∧((cntN22 G n).2=0→rightB (cntN22 G n).1=true):=by
 have h0:rightB ([]:List Nat)=true:=by decide
 have a:∀ x,Lim (fitN x).1∧rightB (fitN x).1=true:=fun x=>by
  rcases fit_cases x with ⟨b,e⟩ | ⟨b,e⟩
  · rw [e];exact ⟨limbs_lim x,right_of_limbs x b⟩
  · rw [e];exact ⟨Lim.nil,h0⟩
 unfold cntN22 ofN22
 split
 · exact ⟨Lim.nil,fun _=>h0⟩
 · split
   · exact ⟨Lim.nil,fun _=>h0⟩
   · split
     · exact ⟨Lim.nil,fun _=>h0⟩
     · split
       · exact ⟨Lim.nil,fun _=>h0⟩
       · exact ⟨(a _).1,fun _=>(a _).2⟩
theorem UnT.next {G:Gr} (f:Plain G) {a n r:Nat} {t u:List Nat} (g:UnT G a n r t) (h:UnT G a n (r+1) u):t ≠ u∧∃ i c j d,t=i::c∧u=j::d∧i≤j∧i < G.rules.length∧j < G.rules.length:=by
 refine ⟨?_,?_⟩
 · rintro rfl
   have:=(g.parse (z:=[]) (z':=[]) h rfl).2.1
   omega
 · obtain ⟨i,x,q,c,o,E,A,C,rfl⟩:=g
   obtain ⟨j,y,p,d,b,s,l,D,rfl⟩:=h
   refine ⟨i,c,j,d,rfl,rfl,?_,(List.getElem?_eq_some_iff.1 o).1,(List.getElem?_eq_some_iff.1 b).1⟩
   rcases Nat.lt_or_ge j i with B | m
   · exfalso
     have h1:=l.lt f (InG.at f.fits b)
     have k:=aheadR_succ (treeN G) b a n
     rw [if_pos s] at k
     have v:=aheadR_mono (treeN G) G.rules a n (show j+1≤i by omega)
     omega
   · exact m
theorem ks_pair (G:Gr) (j:Nat):(ksN G j).Pairwise (· < ·):=by
 unfold ksN
 exact List.Pairwise.filter _ List.pairwise_lt_range
theorem keptN_mono {G:Gr} {i j:Nat} (b:i≤j) (a:j < (ksN G G.rules.length).length):keptN G i≤keptN G j:=by
 unfold keptN
 rcases Nat.lt_or_ge i j with h | h
 · have h1:=List.pairwise_iff_getElem.1 (ks_pair G G.rules.length) i j (by omega) a h
   rw [List.getD_eq_getElem?_getD,List.getD_eq_getElem?_getD,List.getElem?_eq_getElem (by omega:i < _),List.getElem?_eq_getElem a]
   exact Nat.le_of_lt h1
 · obtain rfl:i=j:=by omega
   exact Nat.le_refl _
theorem keptN_inj {G:Gr} {i j:Nat} (hi:i < (ksN G G.rules.length).length) (a:j < (ksN G G.rules.length).length) (h:keptN G i=keptN G j):i=j:=by
 unfold keptN at h
 rw [List.getD_eq_getElem?_getD,List.getD_eq_getElem?_getD,List.getElem?_eq_getElem hi,List.getElem?_eq_getElem a] at h
 have h:(ksN G G.rules.length)[i]=(ksN G G.rules.length)[j]:=h
 rcases Nat.lt_trichotomy i j with b | rfl | b
 · have h1:=List.pairwise_iff_getElem.1 (ks_pair G G.rules.length) i j hi a b
   omega
 · rfl
 · have h1:=List.pairwise_iff_getElem.1 (ks_pair G G.rules.length) j i a hi b
   omega
theorem keptN_map {G:Gr}:∀ {t u:List Nat},(∀ i ∈ t,i < (ksN G G.rules.length).length)→(∀ i ∈ u,i < (ksN G G.rules.length).length)→t.map (keptN G)=u.map (keptN G)→t=u
 | [],[],_,_,_=>rfl
 | [],_::_,_,_,h=>by cases h
 | _::_,[],_,_,h=>by cases h
 | i::t,j::u,ht,hu,h=>by
   rw [List.map_cons,List.map_cons] at h
   injection h with h1 h2
   rw [keptN_inj (ht i (List.mem_cons_self ..)) (hu j (List.mem_cons_self ..)) h1,keptN_map (fun i hi=>ht i (.tail _ hi)) (fun i hi=>hu i (.tail _ hi)) h2]
theorem UnL.inside {G:Gr} {l:List Int} {n r:Nat} {t:List Nat} (h:UnL G l n r t):∀ i ∈ t,i < G.rules.length:=by
 induction h with
 | nil=>intro i hi;cases hi
 | term _ _ c=>exact c
 | @non s l n k i q r x m o h0 b g u1 u2 d f =>
   intro j a
   rcases List.mem_cons.1 a with rfl | a
   · exact (List.getElem?_eq_some_iff.1 b).1
   · rcases List.mem_append.1 a with a | a
     · exact d j a
     · exact f j a
theorem UnT.inside {G:Gr} {a n r:Nat} {t:List Nat} (h:UnT G a n r t):t ≠ []∧∀ i ∈ t,i < G.rules.length:=by
 obtain ⟨i,x,q,f,d,_,c,_,rfl⟩:=h
 refine ⟨by simp,fun j b=>?_⟩
 rcases List.mem_cons.1 b with rfl | b
 · exact (List.getElem?_eq_some_iff.1 d).1
 · exact c.inside j b
theorem kept_len (G:Gr):(redG G).rules.length=(ksN G G.rules.length).length:=by
 have h1:=(ks_rules G G.rules.length (Nat.le_refl _)).1
 rw [keptT_all] at h1
 rw [h1]
 simp [redG]
def rowU (G:Gr) (t:List Nat) (j:Nat):List Int:=((t.take j).map (keptN G)++t.drop j).map fun i:Nat=>(i:Int)
theorem rowU_at {G:Gr} {t:List Nat} {j x:Nat} (h:t[j]? = some x):(rowU G t j)[j]? = some (x:Int):=by
 obtain ⟨a,rfl⟩:=List.getElem?_eq_some_iff.1 h
 unfold rowU
 rw [List.getElem?_map,List.getElem?_append_right (by simp;omega)]
 simp [Nat.min_eq_left (Nat.le_of_lt a)]
 exact ⟨_,h,rfl⟩
theorem rowU_set {G:Gr} {t:List Nat} {j x:Nat} (h:t[j]? = some x):(rowU G t j).set j ((keptN G x:Nat):Int)=rowU G t (j+1):=by
 have h1:=take_snoc' h
 obtain ⟨a,rfl⟩:=List.getElem?_eq_some_iff.1 h
 unfold rowU
 rw [h1,List.drop_eq_getElem_cons a]
 simp only [List.map_append,List.map_cons,List.map_nil,List.append_assoc,List.cons_append,List.nil_append]
 have b:(((t.take j).map (keptN G)).map fun i:Nat=>(i:Int)).length=j:=by
  rw [List.length_map,List.length_map,List.length_take]
  omega
 rw [List.set_append_right _ _ (by omega),b,Nat.sub_self]
 rfl
def RetUnr (G:Gr) (n:Int) (f:List Nat) (w:World) (e:Ending) (w':World):Prop:=Below w.heap.size w w' ∧
 ∃ (a:List Nat) (d:Nat) (b:Option Addr) (c:Nat),e = .returned (.tuple #[.slice b a.length c, .int .i64 (d:Int)])∧Ints .i64 w' b a.length c (a.map fun i:Nat=>(i:Int))∧UnrIs G n f a d
theorem RetUnr.no {G:Gr} {n:Int} {b:List Nat} {w w':World} {a:Nat} (c:Below w.heap.size w w') (h:UnrIs G n b [] a):RetUnr G n b w (.returned (.tuple #[.slice none 0 0, .int .i64 (a:Int)])) w' :=
 ⟨c,[],a,none,0,rfl,Ints.nil _ _ _ _ (by omega),h⟩
theorem tr_Unrank (h:GH) (G:Gr) (n:Int) (A:Option Addr) (c:Nat) (d:List Nat) (w:World) (hg:GrAt w h G) (hs:∀ t ∈ G.terms,t.name.size≤maxLen) (c8:TabAt w) (h1:h.n1≤100) (B:h.n2≤100) (U:h.n3≤100) (r:Nums .u32 w A d.length c d) (lr:Lim d) :
 Calls Tryz.prog 35 #[GV h G.start, .int .i64 n, .slice A d.length c] w (RetUnr G n d w):=by
 obtain ⟨a1,n1,c1,a2,n2,c2,a3,n3,c3⟩:=h
 simp only [] at h1 B U
 have Hg:=LH hg
 have Hs:=LH hs
 have ci:=LH c8
 have bp:=alloc_below w (.cells #[.slice a1 n1 c1, .slice a2 n2 c2, .slice a3 n3 c3, .int .i64 G.start] 26)
 have bs:=GBox.new w 26 ⟨a1,n1,c1,a2,n2,c2,a3,n3,c3⟩ G.start
 have HR:=LH r
 clear hg hs c8 r
 go_enter Tryz.func35,Tryz.ntmps35
 have ⟨z5,z0,z1,z2,z3⟩:=bs
 simp only [] at z0 z1 z2 z3
 go_upto_region 1 with fail
 generalize w.alloc (.cells #[.slice a1 n1 c1, .slice a2 n2 c2, .slice a3 n3 c3, .int .i64 G.start] 26)=W0 at *
 have N:=LH (cf_Right ⟨a1,n1,c1,a2,n2,c2,a3,n3,c3⟩ G W0 (Hg.out.below bp) Hs.out (by simp only [];omega) (by simp only [];omega))
 have Y:=LH bp
 have cl:=LH bs
 have cg:=LH lr
 clear bp bs lr
 cases r:G.right
 case false =>
  have o:Hid (UnrIs G n d [] 1):=LH (.inl ⟨.inl r,rfl,rfl⟩)
  rw [r] at N
  go_wp2_with (go_at_call 56;(with_reducible refine N.out.mono ?_);rintro e w6 ⟨rfl,m⟩)
  go_ret2
  exact RetUnr.no (below_tail Y.out m) o.out
 rw [r] at N
 by_cases dg:n < 0
 case pos =>
  have o:Hid (UnrIs G n d [] 1):=LH (.inl ⟨.inr (.inl dg),rfl,rfl⟩)
  go_wp2_with (go_at_call 56;(with_reducible refine N.out.mono ?_);rintro e w6 ⟨rfl,m⟩)
  go_ret2
  exact RetUnr.no (below_tail Y.out m) o.out
 by_cases dh:10 < n
 case pos =>
  have o:Hid (UnrIs G n d [] 1):=LH (.inl ⟨.inr (.inr (.inl dh)),rfl,rfl⟩)
  go_wp2_with (go_at_call 56;(with_reducible refine N.out.mono ?_);rintro e w6 ⟨rfl,m⟩)
  go_ret2
  exact RetUnr.no (below_tail Y.out m) o.out
 have CR:Hid (∀ X,Below W0.heap.size W0 X→Calls Tryz.prog 75 #[.slice A d.length c] X fun e w'=>e = .returned (.bool (rightB d))∧X=w'):=LH fun X hX=>nat_right _ _ _ _ _ ((HR.out.below Y.out).below hX)
 cases ag:rightB d
 case false =>
  have o:Hid (UnrIs G n d [] 1):=LH (.inl ⟨.inr (.inr (.inr ag)),rfl,rfl⟩)
  rw [ag] at CR
  go_wp2_with (first
   | (go_at_call 56;(with_reducible refine N.out.mono ?_);rintro e w6 ⟨rfl,m⟩)
   | (go_at_call 75;(with_reducible refine (CR.out _ m).mono ?_);rintro e w7 ⟨rfl,rfl⟩))
  go_ret2
  exact RetUnr.no (below_tail Y.out m) o.out
 rw [ag] at CR
 have aw:Hid (¬ badU G n d):=LH (by
  rintro (h | h | h | h)
  · rw [r] at h;cases h
  · exact dg h
  · exact dh h
  · rw [ag] at h;cases h)
 have Hr:=LH r
 have ct:=LH ag
 clear r ag
 go_upto_region 3 with (first
  | (go_at_call 56;(with_reducible refine N.out.mono ?_);rintro e w6 ⟨rfl,m⟩)
  | (go_at_call 75;(with_reducible refine (CR.out _ m).mono ?_);rintro e w7 ⟨rfl,rfl⟩))
 have a4:=below_tail Y.out m
 have CC:=tr_cCount ⟨a1,n1,c1,a2,n2,c2,a3,n3,c3⟩ G n w6 (Hg.out.below a4) Hs.out (ci.out.below a4) h1 B U
 obtain ⟨y5,y0,y1,y2,P⟩:=cl.out.below m
 simp only [] at y0 y1 y2 P
 clear z0 z1 z2 z3 z5
 have bu:=cnt_right G n
 obtain ⟨cn,bv⟩:∃ cn,cntN22 G n=cn:=⟨_,rfl⟩
 obtain ⟨s,er⟩:=cn
 rw [bv] at CC bu
 have CC:=LH CC
 have z:=LH bv
 have cm:=LH bu
 have dy:=LH a4
 clear bv bu N CR a4
 go_upto_region 4 with (first
  | (go_at_call 19
     (with_reducible refine CC.out.mono ?_)
     rintro e W3 ⟨A3,fh,rfl,di,br⟩))
 have au:=LH (below_tail dy.out br)
 have d4:=LH di
 have d7:=LH ((cl.out.below m).below br)
 clear di br CC y0 y1 y2 P y5 m
 by_cases a6:er=0
 case neg =>
  have gl:((er:Int) != 0)=true:=by rw [bne_iff_ne];omega
  have o:Hid (UnrIs G n d [] er):=LH (.inr (.inl ⟨aw.out,by rw [z.out];exact a6,rfl,by rw [z.out]⟩))
  clear a6
  go_wp2_with fail
  go_ret2
  exact RetUnr.no au.out o.out
 case pos =>
  subst a6
  have dq:rightB s=true:=cm.out.2 rfl
  have R:=nat_cmp A d.length c d A3 s.length fh s W3 (HR.out.below au.out) d4.out cg.out cm.out.1
  have db:cmpN d s=cmpI (val d) (val s):=by
   unfold cmpN
   rw [ct.out,dq]
   rfl
  rw [db] at R
  unfold Quiet at R
  have R:=LH R
  clear dq db
  by_cases bx:val s≤val d
  case pos =>
   have hc:(0:Int)≤cmpI (val d) (val s):=by
    have:=mt (cmpI_lt (a:=val d) (b:=val s)).1 (by omega)
    omega
   have o:Hid (UnrIs G n d [] 11):=LH (.inr (.inr (.inl ⟨aw.out,by rw [z.out],by rw [z.out];exact bx,rfl,rfl⟩)))
   clear bx
   go_wp2_with (first
    | (go_at_call 76
       (with_reducible refine R.out.mono ?_)
       rintro e W4 ⟨rfl,al⟩
       have av:=LH (below_tail au.out (al.below _))))
   go_ret2
   exact RetUnr.no av.out o.out
  case neg =>
   have hc:¬ (0:Int)≤cmpI (val d) (val s):=by
    have:=(cmpI_lt (a:=val d) (b:=val s)).2 (by omega)
    omega
   have fq:=cnt_told Hr.out ⟨by omega,by omega⟩ (by rw [z.out]) (by rw [z.out];show 0 < val s;omega)
   obtain ⟨dl,c7,hP,dn,b7,_⟩:=fq
   rw [z.out] at b7
   have df:val d < treeN (redG G) (-1 - (redG G).start) n.toNat:=by
    have h9:val s=_:=b7
    omega
   have fa:=LH df
   have cs:Hid (val d < val s):=LH (by omega)
   have d6:=LH c7
   have HP:=LH hP
   have fe:=LH dn
   have fb:=LH dl
   clear df c7 hP dn b7 dl bx
   go_upto_region 8 with (first
    | (go_at_call 76
       (with_reducible refine R.out.mono ?_)
       rintro e W4 ⟨rfl,al⟩
       have av:=LH (below_tail au.out (al.below _))
       obtain ⟨y5,y0,y1,y2,P⟩:=d7.out.below (al.below _)
       simp only [] at y0 y1 y2 P))
   have cR:=tr_ReduceK ⟨a1,n1,c1,a2,n2,c2,a3,n3,c3⟩ G W4 (Hg.out.below av.out) Hs.out h1 B U
   have ce:=LH cR
   clear cR R al
   go_upto_region 9 with (first
    | (go_at_call 57
       (with_reducible refine ce.out.mono ?_)
       rintro e W5 ⟨da,⟨dj,er,a6,rfl⟩ | ⟨_,⟨F,C,J,H,D,L,I,E,M⟩,Ak,nk,ck,rfl,dc,m1,m2,m3,dd⟩⟩
       · rw [fb.out] at dj;cases dj
       have cf:=LH (below_tail av.out da)
       have cp:=LH dc
       have cq:=LH dd
       clear da dc dd))
   have m1:C≤24:=m1
   have m2:D≤16:=m2
   have m3:E≤40:=m3
   have a5:=alloc_below W5 (.cells #[.slice F C J, .slice H D L, .slice I E M, .int .i64 (redG G).start] 26)
   have W:=Blk.new W5 26 #[.slice F C J, .slice H D L, .slice I E M, .int .i64 (redG G).start]
   have T:=LH (below_tail cf.out a5)
   have d8:=LH (cp.out.below a5)
   have bg:=LH (cq.out.below a5)
   clear cf cp cq a5 y0 y1 y2 P y5 ce
   generalize W5.alloc (.cells #[.slice F C J, .slice H D L, .slice I E M, .int .i64 (redG G).start] 26)=l at *
   generalize W5.heap.size=gH at *
   have x0:l.cell? ⟨gH,0,none⟩=some (.slice F C J):=W.cell 0
   have x1:l.cell? ⟨gH,1,none⟩=some (.slice H D L):=W.cell 1
   have x2:l.cell? ⟨gH,2,none⟩=some (.slice I E M):=W.cell 2
   have x3:l.cell? ⟨gH,3,none⟩=some (.int .i64 (redG G).start):=W.cell 3
   have xl:=W.lt
   have f9:=LH W
   have CO:=LH (tr_open ⟨F,C,J,H,D,L,I,E,M⟩ (redG G) l)
   clear W
   go_upto_region 10 with (first
    | (go_at_call 72
       (with_reducible refine CO.out.mono ?_)
       rintro e u ⟨gc,gt,rfl,hC,gi,gj⟩
       have HC:=LH hC
       clear hC))
   have gm:=HP.out.fits.st
   have am:=alloc_below u (.cells #[.pointer (some ⟨gc,0,none⟩), .slice none 0 0] 116)
   have bq:=Blk.new u 116 #[.pointer (some ⟨gc,0,none⟩), .slice none 0 0]
   have c5:MkIn l ⟨gc,gt⟩ ⟨F,C,J,H,D,L,I,E,M⟩ (redG G) u.heap.size [] (fun q=>q=u.heap.size) none 0 (u.alloc (.cells #[.pointer (some ⟨gc,0,none⟩), .slice none 0 0] 116)) :=
    ⟨(HC.out.more am (Nat.le_refl _)).less fun b hb => .inr hb,bq,⟨World.ownsRow_nil _ _ _ _,fun g hg=>by cases hg⟩,⟨rfl,fun g hg=>by cases hg⟩,fun q hq=>by subst hq;exact bq.lt,HC.out.base.size,Nat.zero_le _⟩
   have cz:BkG l ⟨F,C,J,H,D,L,I,E,M⟩ (redG G):=⟨d6.out,d8.out,by rw [redG_terms];exact Hs.out,ci.out.below T.out,by show C≤100;omega,by show D≤100;omega,by show E≤100;omega⟩
   have a7:nonI (-1 - (redG G).start)=(redG G).start.toNat:=by unfold nonI;omega
   obtain ⟨t,ht⟩:=UnT.ex HP.out _ n.toNat (-1 - (redG G).start) (by omega) (by rw [a7];omega) rfl (val d) fa.out
   have be:Hid (UnT (redG G) (redG G).start.toNat n.toNat (val d) t):=LH (by rw [← a7];exact ht)
   obtain ⟨bm,ft⟩:=limbs_of_right d cg.out ct.out
   have dz:=LH (below_tail (T.out.trans (HC.out.base.mono T.out.size)) am)
   have CT:Calls Tryz.prog 77 #[.pointer (some ⟨u.heap.size,0,none⟩), .int .i64 (redG G).start, .int .i64 n, .slice A d.length c] (u.alloc (.cells #[.pointer (some ⟨gc,0,none⟩), .slice none 0 0] 116)) (MkRet l ⟨gc,gt⟩ ⟨F,C,J,H,D,L,I,E,M⟩ (redG G) u.heap.size [] t (u.alloc (.cells #[.pointer (some ⟨gc,0,none⟩), .slice none 0 0] 116))):=by
    have h1:=(maker_all cz HP.out t.length).1 u.heap.size [] (-1 - (redG G).start) n.toNat (val d) t A c _ (Nat.le_refl _) (by omega) (by rw [a7];omega) ht fe.out (by omega) (by rw [← bm];exact HR.out.below dz.out) ⟨_,_,_,c5⟩
    rw [← bm,show ((nonI (-1 - (redG G).start):Nat):Int)=(redG G).start by rw [a7];omega,show ((n.toNat:Nat):Int)=n by omega] at h1
    exact h1
   have CT:=LH CT
   have P:=(HC.out.base.cell (p:=⟨gH,3,none⟩) xl).trans x3
   have yl:=Nat.lt_of_lt_of_le xl HC.out.base.size
   have z3:=(am.cell (p:=⟨gH,3,none⟩) yl).trans P
   have zl:=Nat.lt_of_lt_of_le yl am.size
   clear x0 x1 x2 x3 xl P yl bq c5 cz ht am bm ft CO
   generalize u.alloc (.cells #[.pointer (some ⟨gc,0,none⟩), .slice none 0 0] 116)=W8 at *
   generalize u.heap.size=mk at *
   by_cases bw:t.length≤300
   case neg =>
    have a9:Hid (Calls Tryz.prog 77 #[.pointer (some ⟨mk,0,none⟩), .int .i64 (redG G).start, .int .i64 n, .slice A d.length c] W8 fun e w'=>e = .returned (.bool false)∧Below l.heap.size l w'):=LH (CT.out.mono fun e w' r=>by
     obtain ⟨h1,⟨B,_,_⟩ | ⟨_,B,U⟩⟩:=r
     · rw [List.length_nil] at B;omega
     · exact ⟨B,U⟩)
    have o:Hid (UnrIs G n d [] 13):=LH (.inr (.inr (.inr ⟨aw.out,by rw [z.out],by rw [z.out];exact cs.out,t,be.out, .inl ⟨by omega,rfl,rfl⟩⟩)))
    clear CT bw
    go_wp2_with (first
     | (go_at_call 77
        (with_reducible refine a9.out.mono ?_)
        rintro e W9 ⟨rfl,V⟩))
    go_ret2
    exact RetUnr.no (T.out.trans (V.mono T.out.size)) o.out
   case pos =>
    have a9:Hid (Calls Tryz.prog 77 #[.pointer (some ⟨mk,0,none⟩), .int .i64 (redG G).start, .int .i64 n, .slice A d.length c] W8 fun e w'=>e = .returned (.bool true)∧MkAt l ⟨gc,gt⟩ ⟨F,C,J,H,D,L,I,E,M⟩ (redG G) mk t w'):=LH (CT.out.mono fun e w' r=>by
     obtain ⟨h1,⟨_,B,U⟩ | ⟨B,_,_⟩⟩:=r
     · exact ⟨B,U⟩
     · rw [List.length_nil] at B;omega)
    have co:=LH bw
    clear CT bw
    go_upto_region 12 with (first
     | (go_at_call 77
        (with_reducible refine a9.out.mono ?_)
        rintro e W9 ⟨rfl,c4⟩
        have ch:=LH c4
        clear c4))
    obtain ⟨S9,A9,c9,O⟩:=ch.out
    have bz:=be.out.inside
    have d9:=LH bz.2
    have fr:0 < t.length:=List.length_pos_iff.2 bz.1
    obtain ⟨f,u9,rfl,fo,_,_,_,_⟩:=own_at O.row.1 fr
    have ba:=LH O
    have fp:mk ≠ f:=fun e=>by
     obtain ⟨_,_,v,hv⟩:=O.row.blk (g:=f) rfl
     rw [← e] at hv
     exact absurd (hv.same_ty O.box) (by decide)
    have Z:Hid (W9.ownsRow l.heap.size 3 1 (.slice (some ⟨f,0,none⟩) t.length c9) t.length (ints .i64 (rowU G t 0))):=LH O.row.1
    have p1:W9.cell? ⟨mk,1,none⟩=some (.slice (some ⟨f,0,none⟩) t.length c9):=O.box.cell 1
    have pl:=O.box.lt
    clear O bz ch
    go_upto_region 13 with fail
    go_loopw [69] (fun i wr=>∃ j:Nat,i = .int .i64 (j:Int)∧j≤t.length∧Hid (wr.ownsRow l.heap.size 3 1 (.slice (some ⟨f,0,none⟩) t.length c9) t.length (ints .i64 (rowU G t j)))∧Hid (Off (fun q=>q=f) W9 wr)) (fun i _=>t.length - (intOf i).toNat)
    case atStart=>exact ⟨0,rfl,Nat.zero_le _,Z,LH (Off.refl _ _)⟩
    case round =>
     clear Z p1 pl
     obtain ⟨j,rfl,hj,Z,bh⟩:=hrel
     have bt:=bh.out.blk ba.out.box fp
     have p1:wr.cell? ⟨mk,1,none⟩=some (.slice (some ⟨f,0,none⟩) t.length c9):=bt.cell 1
     have pl:=bt.lt
     have V:Below l.heap.size l wr:=ba.out.bk.base.trans (bh.out.is_below ba.out.bk.base.size fun q hq=>by subst hq;exact fo)
     have cj:=LH V
     clear bt
     by_cases b0:j < t.length
     case neg =>
      obtain rfl:j=t.length:=by omega
      clear V
      go_wp2_with fail
      go_ret2
      refine ⟨T.out.trans (cj.out.mono T.out.size),t.map (keptN G),0,some ⟨f,0,none⟩,c9,by rw [List.length_map];rfl,?_, .inr (.inr (.inr ⟨aw.out,by rw [z.out],by rw [z.out];exact cs.out,t,be.out, .inr ⟨co.out,rfl,rfl⟩⟩))⟩
      have h1:=own_sl Z.out
      have e:rowU G t t.length=(t.map (keptN G)).map fun i:Nat=>(i:Int):=by unfold rowU;simp
      rw [List.length_map]
      rw [e] at h1
      exact h1
     case pos =>
      obtain ⟨x,hx⟩:∃ x,t[j]? = some x:=⟨_,List.getElem?_eq_getElem b0⟩
      have fu:x < nk:=by
       have k:=d9.out x (List.mem_of_getElem? hx)
       rw [kept_len] at k
       have h5:=bg.out.len
       unfold intsOf at h5
       rw [List.length_map] at h5
       omega
      obtain ⟨kb,ko,kv,rfl,de,cr,cy⟩:=bg.out.get fu
      obtain rfl:((keptN G x:Nat):Int)=kv:=by
       have k:=cr.out
       unfold intsOf at k
       rw [List.getElem?_map] at k
       unfold keptN
       cases h5:(ksN G G.rules.length)[x]? with
       | none=>rw [h5] at k;cases k
       | some y =>
         rw [h5] at k
         injection k with k
         rw [← k,List.getD_eq_getElem?_getD,h5]
         rfl
      have k0:=(V.cell (p:=⟨kb,ko+x,none⟩) de).trans cy
      have kl:=Nat.lt_of_lt_of_le de V.size
      obtain ⟨fj,v9,eg,_,bn,cu,r0,r1⟩:=own_at Z.out b0
      obtain rfl:f=fj:=by
       injection eg with eg
       injection eg
      have fs:v9 = .int .i64 (x:Int):=by
       have k:=cu.out
       simp only [ints] at k
       rw [List.getElem?_map,rowU_at hx] at k
       injection k with k
       exact k.symm
      subst fs
      have fd:Hid ((rowU G t j).set j ((keptN G x:Nat):Int)=rowU G t (j+1)):=LH (rowU_set hx)
      have gg:=bg.out.cap
      have gh:=co.out
      clear hx cr cy cu eg
      go_upto_region 15 with fail
      have bc:=bl_cell wr
      refine wp_region_below_tail 10 (by kernel_rfl) (by kernel_rfl) ?_
      simp only [List.take_succ_cons,List.take_zero,List.drop_succ_cons,List.drop_zero]
      repeat (go_big_quiet_step (fail))
      refine wpQuiet_nil ?_
      rintro _ ⟨y,rfl⟩
      have an:=bl_below wr y
      have b5:=own_below Z.out an
      have dk:Off (fun q=>q=f) W9 (bl wr y):=bh.out.trans (Off.of_below (S:=fun q=>q=f) an) fun _ _ h=>h
      have s0:(bl wr y).cell? ⟨f,j,none⟩=some (.int .i64 (x:Int)):=(an.cell (p:=⟨f,j,none⟩) bn).trans r0
      have s1:(bl wr y).frozen? ⟨f,j,none⟩=false:=by
       obtain ⟨g8,v8,e8,_,_,_,_,h8⟩:=own_at b5 b0
       injection e8 with e8
       injection e8 with e8
       subst e8
       exact h8
      have sl:=Nat.lt_of_lt_of_le bn an.size
      have HF:Hid (((bl wr y).setCell ⟨f,j,none⟩ (.int .i64 ((keptN G x:Nat):Int))).ownsRow l.heap.size 3 1 (.slice (some ⟨f,0,none⟩) t.length c9) t.length (ints .i64 (rowU G t (j+1)))):=LH (by
       have k:=own_set b5 j (.int .i64 ((keptN G x:Nat):Int))
       rw [← fd.out]
       have e4:ints .i64 ((rowU G t j).set j ((keptN G x:Nat):Int))=(ints .i64 (rowU G t j)).set j (.int .i64 ((keptN G x:Nat):Int)):=by simp [ints,List.map_set]
       rw [e4]
       exact k)
      have HO:Hid (Off (fun q=>q=f) W9 ((bl wr y).setCell ⟨f,j,none⟩ (.int .i64 ((keptN G x:Nat):Int)))):=LH (dk.trans (Off.of_set _ f j _) fun _ _ h=>h)
      clear b5 dk an bc r0 r1 bn k0 kl p1 pl V cj
      generalize bl wr y=WZ at *
      go_wp2_with fail
      go_roundw
      case rel=>exact ⟨j+1,by go_num,by omega,HF,HO⟩
      case measure=>simp [intOf] <;> omega
section
variable {G:Gr}
theorem kept_at (f:G.Fits) {j:Nat} {r:Rul} (b:G.rules[j]? = some r) (a:r ∈ keptR G):∃ k,keptN G k=j∧(redG G).rules[k]? = some (redR (oldN G) r):=by
 have d:j ∈ ksN G G.rules.length:=by
  unfold ksN
  rw [List.mem_filter]
  refine ⟨List.mem_range.2 (List.getElem?_eq_some_iff.1 b).1,?_⟩
  unfold keepI
  rw [b]
  unfold keptR at a
  exact (List.mem_filter.1 a).2
 obtain ⟨k,a⟩:=List.getElem?_of_mem d
 obtain ⟨g,h1,c⟩:=(ks_rules G G.rules.length (Nat.le_refl _)).2 k j a
 rw [b] at h1
 obtain rfl:=Option.some.inj h1
 rw [keptT_all] at c
 refine ⟨k,by unfold keptN;rw [List.getD_eq_getElem?_getD,a];rfl,?_⟩
 show ((keptR G).map (redR (oldN G)))[k]? = _
 rw [List.getElem?_map,c]
 rfl
theorem fs_prod (l:G.Fits) {ss ps f g:List Int} {m:Nat} (h:Fs G ss ps f g m):∀ s ∈ ss,s < 0→(prodN G).getD (nonI s) false=true:=by
 induction h with
 | nil=>intro s a;cases a
 | term h0 _ p =>
   intro s a h1
   rcases List.mem_cons.1 a with rfl | a
   · omega
   · exact p s a h1
 | @non s i r ss z A w1 ps f g y m h0 o v _ _ t u =>
   intro q c h1
   rcases List.mem_cons.1 c with rfl | c
   · obtain ⟨j,rfl,n⟩:=ruleAt_some o
     have d:=List.mem_of_getElem? n
     have x:=l.left r d
     have k:=grown_closed (b:=true) d (by omega) (allP_iff.2 fun s a=>⟨fun _=>rfl,fun h0=>t s a h0⟩)
     have e:nonI q=r.left.toNat:=by unfold nonI;omega
     rw [e]
     exact k
   · exact u q c h1
theorem fs_red (b:G.Fits) {ss ps f c:List Int} {m:Nat} (h:Fs G ss ps f c m):(∀ s ∈ ss,s < 0→nonI s ∈ oldN G) →
 ∃ u r,UnL (redG G) (ss.map (redS (oldN G))) c.length r u∧ps=(u.map (keptN G)).map fun i:Nat=>(i:Int):=by
 induction h with
 | nil=>intro _;exact ⟨[],0, .nil,rfl⟩
 | @term s ss ps f c m h0 _ D =>
   intro a
   obtain ⟨u,r,z,e⟩:=D fun s h=>a s (.tail _ h)
   refine ⟨u,r,?_,e⟩
   rw [List.map_cons,List.length_cons]
   exact .term (by unfold redS;rw [if_neg (by omega)];exact h0) z
 | @non s i r ss M N w1 ps f c L m h0 y I q _ E F =>
   intro a
   obtain ⟨j,rfl,g⟩:=ruleAt_some y
   have n:=List.mem_of_getElem? g
   have J:=b.left r n
   have d:=a s (List.mem_cons_self ..) h0
   have e:nonI s=r.left.toNat:=by unfold nonI;omega
   have l:r ∈ keptR G:=kept_of b n (by rw [← e];exact d) (allP_iff.2 fun s a=>⟨fun _=>rfl,fun h0=>fs_prod b q s a h0⟩)
   obtain ⟨k,t,v⟩:=kept_at b g l
   obtain ⟨u1,O,A,o⟩:=E fun s h=>kept_sym b l h
   obtain ⟨u2,P,B,p⟩:=F fun s h=>a s (.tail _ h)
   have H:=redS_non h0 d
   have C:(redR (oldN G) r).left.toNat=nonI (redS (oldN G) s):=by
    show (toI (oldN G) r.left.toNat).toNat=_
    rw [← e]
    omega
   have x:=UnL.non ((redS_neg s fun _=>d).2 h0) v C A B
   refine ⟨k::(u1++u2),_,by rw [List.map_cons,List.length_append];exact x,?_⟩
   rw [List.map_cons,List.map_cons,List.map_append,List.map_append,← o,← p,t]
theorem un_single {H:Gr} {s:Int} {n r:Nat} {u:List Nat} (h0:s < 0) (h:UnL H [s] n r u):∃ q,UnT H (nonI s) n q u:=by
 cases h with
 | term h1=>omega
 | @non _ _ n k i q r x c d _ a b u1 u2 =>
   cases u2
   rw [List.append_nil]
   exact ⟨_,i,x,q,c,a,b,u1,rfl,rfl⟩
theorem start_old (a:G.Fits) (h:(prodN G).getD G.start.toNat false=true):(∀ s ∈ [-1 - G.start],s < 0→nonI s ∈ oldN G)∧redS (oldN G) (-1 - G.start) < 0∧nonI (redS (oldN G) (-1 - G.start))=(redG G).start.toNat:=by
 have h1:=prod_start a h
 have d:=a.st
 have e:nonI (-1 - G.start)=G.start.toNat:=by unfold nonI;omega
 refine ⟨fun s b _=>?_,?_,?_⟩
 · rw [List.mem_singleton] at b
   rw [b,e]
   exact h1
 · exact (redS_neg _ fun _=>by rw [e];exact h1).2 (by omega)
 · have c:=redS_non (o:=oldN G) (s:=-1 - G.start) (by omega) (by rw [e];exact h1)
   rw [e] at c
   show _=(toI (oldN G) G.start.toNat).toNat
   omega
theorem read_red {t g ps:List Int} {k:Nat} (h:readT G t=some (g,ps,k)):G.right=true∧t.length≤300∧∃ u r,UnT (redG G) (redG G).start.toNat g.length r u∧t=(u.map (keptN G)).map fun i:Nat=>(i:Int):=by
 obtain ⟨f,m,b⟩:=readT_parts h
 have a:=Gr.fits f
 have c:=fs_prod a b (-1 - G.start) (List.mem_cons_self ..) (by have:=a.st;omega)
 have e:nonI (-1 - G.start)=G.start.toNat:=by have:=a.st;unfold nonI;omega
 rw [e] at c
 obtain ⟨h1,j,l⟩:=start_old a c
 obtain ⟨u,r,o,n⟩:=fs_red a b h1
 obtain ⟨q,d⟩:=un_single j o
 rw [l] at d
 exact ⟨f,m,u,q,d,n⟩
end
def RankIs (G:Gr) (t:List Int) (c:List Nat) (b:Nat):Prop :=
 (readT G t=none∧c=[]∧b=1)∨∃ a ps k,readT G t=some (a,ps,k) ∧
   ((10 < a.length∧c=[]∧b=5)∨(a.length≤10∧(cntN22 G (a.length:Int)).2 ≠ 0∧c=[]∧b=(cntN22 G (a.length:Int)).2) ∨
     (a.length≤10∧(cntN22 G (a.length:Int)).2=0∧b=0∧∃ u r,UnT (redG G) (redG G).start.toNat a.length r u∧t=(u.map (keptN G)).map (fun i:Nat=>(i:Int))∧c=limbs r))
theorem map_castN:∀ {a b:List Nat},a.map (fun i:Nat=>(i:Int))=b.map (fun i:Nat=>(i:Int))→a=b
 | [],[],_=>rfl
 | [],_::_,h=>by cases h
 | _::_,[],h=>by cases h
 | x::a,y::b,h=>by
   rw [List.map_cons,List.map_cons] at h
   injection h with h1 h2
   have c:x=y:=by omega
   rw [c,map_castN h2]
theorem UnT.kept {G:Gr} {a n r d g j:Nat} {u v:List Nat} (h:UnT (redG G) a n r u) (f:UnT (redG G) d g j v) (e:u.map (keptN G)=v.map (keptN G)):u=v:=by
 have b:=h.inside.2
 have c:=f.inside.2
 rw [kept_len] at b c
 exact keptN_map b c e
theorem RankIs.one {G:Gr} {t:List Int} {o rs':List Nat} {l er':Nat} (h:RankIs G t o l) (g:RankIs G t rs' er'):o=rs'∧l=er':=by
 rcases h with ⟨a,rfl,rfl⟩ | ⟨v,ps,k,a,h⟩ <;> rcases g with ⟨d,rfl,rfl⟩ | ⟨x,s,q,d,g⟩
 · exact ⟨rfl,rfl⟩
 · rw [a] at d;cases d
 · rw [a] at d;cases d
 · rw [a] at d
   obtain ⟨rfl,rfl,rfl⟩:v=x∧ps=s∧k=q:=by simpa using d
   rcases h with ⟨b,rfl,rfl⟩ | ⟨b,c,rfl,rfl⟩ | ⟨b,c,rfl,u,r,m,e,rfl⟩ <;> rcases g with ⟨j,rfl,rfl⟩ | ⟨j,f,rfl,rfl⟩ | ⟨j,f,rfl,A,y,n,p,rfl⟩
   all_goals first
    | exact ⟨rfl,rfl⟩
    | omega
    | exact absurd f c
    | exact absurd c f
    | skip
   obtain rfl:=m.kept n (map_castN (e.symm.trans p))
   have:=(m.parse (z:=[]) (z':=[]) n rfl).2.1
   rw [this]
   exact ⟨rfl,rfl⟩
theorem cnt_told' {G:Gr} {n:Nat} (f:G.right=true) (p:n≤10) (d:redOK G=true) (h0:(cntN22 G (n:Int)).2=0) :
 Told22 (redG G)∧Plain (redG G)∧treeN (redG G) (-1 - (redG G).start) n < big∧(cntN22 G (n:Int)).1=limbs (treeN (redG G) (-1 - (redG G).start) n)∧val (cntN22 G (n:Int)).1=treeN (redG G) (-1 - (redG G).start) n:=by
 have k:¬ (G.right=false∨(n:Int) < 0∨10 < (n:Int)):=by
  rintro (h | h | h)
  · rw [f] at h;cases h
  · omega
  · omega
 have g:cntN22 G (n:Int)=ofN22 (redG G) [-1 - (redG G).start] (n:Int):=by
  unfold cntN22
  rw [if_neg k,if_neg (by rw [d];decide)]
 rw [g] at h0 ⊢
 obtain ⟨a,m,o,l,b⟩:=ofN_told h0
 have c:=ofN_fit a m o l
 have j:=(red_plain f d a.cyc).1
 rw [forest_single] at b c
 rw [fitN_ok b] at c
 rw [c]
 exact ⟨a,j,b,rfl,val_limbs _⟩
theorem non_start {H:Gr} (a:H.Fits):-1 - H.start < 0∧nonI (-1 - H.start)=H.start.toNat∧nonI (-1 - H.start) < H.nons.length:=by
 have:=a.st
 have e:nonI (-1 - H.start)=H.start.toNat:=by unfold nonI;omega
 exact ⟨by omega,e,by rw [e];omega⟩
theorem read_ok {G:Gr} {t d ps:List Int} {k:Nat} (h:readT G t=some (d,ps,k)):redOK G=true:=by
 obtain ⟨a,_,c⟩:=readT_parts h
 have b:=fs_prod (Gr.fits a) c (-1 - G.start) (List.mem_cons_self ..) (non_start (Gr.fits a)).1
 rw [(non_start (Gr.fits a)).2.1] at b
 unfold redOK
 rw [a,b]
 rfl
end Go.Proofs.YtggbjdmpjidhgaaGreatDoor
