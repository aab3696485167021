/- ranks: the fixed fact, plainly: the trees of the ranks of one grammar. -/
import Derived.Test.YtggbjdmpjidhgaaGreatDoorVRkW9
import Derived.Test.YtggbjdmpjidhgaaGreatDoorVQCtA
import Derived.Test.YtggbjdmpjidhgaaGreatDoorVQGrShelf
import Derived.Test.YtggbjdmpjidhgaaGreatDoorVRkNat
set_option linter.unusedVariables false
set_option linter.unusedSimpArgs false
set_option maxHeartbeats 8000000
set_option maxRecDepth 100000
namespace Go.Proofs.YtggbjdmpjidhgaaGreatDoor
open Go.RowKit
theorem plain22A:Plain g22A:=by
 have a:g22A.right=true∧(prodN g22A).getD g22A.start.toNat false=true:=⟨right22A,by have:=red22A;unfold redOK at this;rw [Bool.and_eq_true] at this;exact this.2⟩
 exact (reduced_plain a.1 a.2 same22A cyc22A).1
theorem tree22A {k:Nat} (h:k≤4):treeN g22A (-1) k=tab22A k 0:=by
 have:=chk_told plain22A (chkO_ordered plain22A.fits ord22A) chk22A k h 0 (by decide)
 exact this.symm
theorem ahead22 {T:Int→Nat→Nat} (h0:T (-1) 0=0) (h1:T (-1) 1=1) (a:T (-1) 2=1) (b:T 0=oneT) :
 aheadR T g22A.rules 0 1 1=0∧aheadK T (-1) [] 1 1=0∧aheadK T (-1) [-1] 2 1=0∧aheadK T (-1) [] 2 2=0∧aheadK T (-1) [-1] 3 1=0∧aheadK T (-1) [-1] 3 2=1:=by
 refine ⟨?_,?_,?_,?_,?_,?_⟩
 all_goals simp [aheadR,aheadK,rulesT,g22A,forestT,sumL,List.range,List.range.loop,h0,h1,a,b]
theorem non22:nonI (-1)=0:=by decide
theorem aheads22:aheadR (treeN g22A) g22A.rules 0 1 1=0∧aheadK (treeN g22A) (-1) [] 1 1=0∧aheadK (treeN g22A) (-1) [-1] 2 1=0∧aheadK (treeN g22A) (-1) [] 2 2=0∧aheadK (treeN g22A) (-1) [-1] 3 1=0∧aheadK (treeN g22A) (-1) [-1] 3 2=1:=by
 have a:treeN g22A (-1) 0=0:=(tree22A (k:=0) (by decide)).trans (by kernel_rfl)
 have b:treeN g22A (-1) 1=1:=(tree22A (k:=1) (by decide)).trans (by kernel_rfl)
 have c:treeN g22A (-1) 2=1:=(tree22A (k:=2) (by decide)).trans (by kernel_rfl)
 exact ahead22 a b c (by funext n;exact treeN_term g22A (by decide) n)
theorem UnL.cat {G:Gr} {s:Int} {l:List Int} {n k m v:Nat} {a b:List Nat} (h0:s < 0) (h1:UnT G (nonI s) k 0 a) (c:UnL G l n 0 b) (d:k+n=m) (f:aheadK (treeN G) s l m k=v):UnL G (s::l) m v (a++b):=by
 subst d
 have:=UnL.non' h0 h1 c
 rw [f,Nat.zero_mul] at this
 exact this
theorem UnT.top {G:Gr} {a n q:Nat} {x:Rul} {t:List Nat} (c:G.rules[0]? = some x) (b:x.left.toNat=a) (h:UnL G x.right n q t):UnT G a n q (0::t):=⟨0,x,q,t,c,b,h,by rw [aheadR_zero,Nat.zero_add],rfl⟩
theorem un1:UnT g22A (nonI (-1)) 1 0 [1]:=by
 rw [non22]
 exact ⟨1,⟨0,[0],0⟩,0,[],rfl,rfl, .term (by decide) .nil,by rw [aheads22.1],rfl⟩
theorem ul1:UnL g22A [-1] 1 0 [1]:=UnL.cat (by decide) un1 .nil rfl aheads22.2.1
theorem un2:UnT g22A (nonI (-1)) 2 0 [0,1,1]:=by
 rw [non22]
 exact UnT.top (x:=⟨0,[-1,-1],-1⟩) rfl rfl (UnL.cat (by decide) un1 ul1 rfl aheads22.2.2.1)
theorem ul2:UnL g22A [-1] 2 0 [0,1,1]:=UnL.cat (by decide) un2 .nil rfl aheads22.2.2.2.1
theorem un22:UnT g22A 0 3 0 [0,1,0,1,1]∧UnT g22A 0 3 1 [0,0,1,1,1] :=
 ⟨UnT.top (x:=⟨0,[-1,-1],-1⟩) rfl rfl (UnL.cat (by decide) un1 ul2 rfl aheads22.2.2.2.2.1),UnT.top (x:=⟨0,[-1,-1],-1⟩) rfl rfl (UnL.cat (by decide) un2 ul1 rfl aheads22.2.2.2.2.2)⟩
theorem c22:cntN22 g22A ((3:Nat):Int)=([2],0):=(cnt22A (by decide)).trans (by kernel_rfl)
theorem kept22:keptN g22A 0=0∧keptN g22A 1=1:=⟨by kernel_rfl,by kernel_rfl⟩
theorem start22:(redG g22A).start.toNat=0:=by rw [same22A];rfl
theorem nobad22 {a:List Nat} (h:rightB a=true):¬ badU g22A 3 a:=by
 rintro (x | x | x | x)
 · rw [right22A] at x;cases x
 · omega
 · omega
 · rw [h] at x;cases x
theorem unr22 {b t:List Nat} {v:Nat} (k:rightB b=true) (f:val b=v) (o:v < 2) (l:UnT g22A 0 3 v t) (n:t.length≤300) {g:List Nat} {c:Nat} (h:UnrIs g22A 3 b g c):g=t.map (keptN g22A)∧c=0:=by
 have e:cntN22 g22A 3=([2],0):=c22
 rcases h with ⟨a,_⟩ | ⟨_,a,_⟩ | ⟨_,_,a,_⟩ | ⟨_,_,_,p,d,h⟩
 · exact absurd a (nobad22 k)
 · exact absurd (by rw [e]) a
 · rw [e,f] at a
   have m:val [2]=2:=rfl
   have a:val [2]≤v:=a
   omega
 · rw [start22,same22A,f] at d
   obtain rfl:=l.one plain22A d
   rcases h with ⟨h1,_⟩ | ⟨_,h1,j⟩
   · omega
   · exact ⟨h1,j⟩
theorem u23A {b:List Nat} {a:Nat} (h:UnrIs g22A 3 [] b a):b=[0,1,0,1,1]∧a=0:=by
 obtain ⟨rfl,rfl⟩:=unr22 (v:=0) (by decide) rfl (by decide) un22.1 (by decide) h
 exact ⟨by simp only [List.map_cons,List.map_nil,kept22],rfl⟩
theorem u23B {b:List Nat} {a:Nat} (h:UnrIs g22A 3 [1] b a):b=[0,0,1,1,1]∧a=0:=by
 obtain ⟨rfl,rfl⟩:=unr22 (v:=1) (by decide) rfl (by decide) un22.2 (by decide) h
 exact ⟨by simp only [List.map_cons,List.map_nil,kept22],rfl⟩
theorem u23C {c:List Nat} {b:Nat} (h:UnrIs g22A 3 [2] c b):c=[]∧b=11:=by
 have e:cntN22 g22A 3=([2],0):=c22
 rcases h with ⟨a,_⟩ | ⟨_,a,_⟩ | ⟨_,_,_,h1,d⟩ | ⟨_,_,a,_⟩
 · exact absurd a (nobad22 (by decide))
 · exact absurd (by rw [e]) a
 · exact ⟨h1,d⟩
 · rw [e] at a
   exact absurd a (by decide)
theorem r23A {b:List Nat} {a:Nat} (h:RankIs g22A [0,0,1,1,1] b a):b=[1]∧a=0:=by
 refine h.one (rs':=[1]) (er':=0) (.inr ⟨[0,0,0],[1,1,0,1,0],3,by kernel_rfl, .inr (.inr ⟨by decide,by rw [show (([0,0,0]:List Int).length:Int)=((3:Nat):Int) from rfl,c22],rfl,[0,0,1,1,1],1,?_,?_,by kernel_rfl⟩)⟩)
 · rw [start22,same22A]
   exact un22.2
 · simp only [List.map_cons,List.map_nil,kept22]
   rfl
theorem r23B {b:List Nat} {a:Nat} (h:RankIs g22A [0] b a):b=[]∧a=1:=by
 refine h.one (.inl ⟨by kernel_rfl,rfl,rfl⟩)
open Go.Shelf
def Tryz.lays108_ren:Go.Shelf.Ren:=⟨fun | 108=>71 | n=>n,fun | 28=>27 | 3=>3 | 0=>0 | 4=>4 | n=>n,fun | n=>n⟩
theorem Tryz.lays108:Go.Proofs.Lays.n108 Tryz.prog Tryz.lays108_ren:={
 mixed:=by kernel_rfl
 f108:=Tryz.func71.trans (congrArg some (by kernel_rfl))
 t0:=Tryz.underlying0
 a0:=Tryz.isAgg0
 z0:=Tryz.sizeOf0
 v0:=Tryz.zeroValue0
 t3:=Tryz.underlying3
 a3:=Tryz.isAgg3
 z3:=Tryz.sizeOf3
 v3:=Tryz.zeroValue3
 t4:=Tryz.underlying4
 a4:=Tryz.isAgg4
 z4:=Tryz.sizeOf4
 v4:=Tryz.zeroValue4
 t28:=Tryz.underlying27
 a28:=Tryz.isAgg27
 z28:=Tryz.sizeOf27
 v28:=Tryz.zeroValue27 }
open Go.Lib in
theorem Tryz.slices_Index_int (b d n c:Nat) (a:List Int) (x:Int) (w:World) (h:n≤a.length) (f:n≤9223372036854775807) (g:∀ j,j < a.length→w.cell? ⟨b,d+j,none⟩=some (.int .i64 (a.getD j 0))) :
 Calls Tryz.prog 71 #[.slice (some ⟨b,d,none⟩) n c, .int .i64 x] w fun e w'=>e = .returned (.int .i64 (Lib.idxOf (a.take n) x))∧w'=w:=Any.slices_Index_int Tryz.lays108 b d n c a x w h f g
open Go.Lib in
theorem Tryz.slices_Index_int_empty (a:Option Addr) (c:Nat) (x:Int) (w:World) :
 Calls Tryz.prog 71 #[.slice a 0 c, .int .i64 x] w fun e w'=>e = .returned (.int .i64 (Lib.idxOf [] x))∧w'=w:=Any.slices_Index_int_empty Tryz.lays108 a c x w
def rowK (G:Gr) (u:List Nat) (j:Nat):List Int:=(u.take j++(u.drop j).map (keptN G)).map fun i:Nat=>(i:Int)
theorem rowK_at {G:Gr} {u:List Nat} {j x:Nat} (h:u[j]? = some x):(rowK G u j)[j]? = some ((keptN G x:Nat):Int):=by
 obtain ⟨a,rfl⟩:=List.getElem?_eq_some_iff.1 h
 unfold rowK
 rw [List.getElem?_map,List.getElem?_append_right (by simp;omega)]
 simp [Nat.min_eq_left (Nat.le_of_lt a)]
 exact ⟨_,h,rfl⟩
theorem rowK_set {G:Gr} {u:List Nat} {j x:Nat} (h:u[j]? = some x):(rowK G u j).set j (x:Int)=rowK G u (j+1):=by
 have h1:=take_snoc' h
 obtain ⟨a,rfl⟩:=List.getElem?_eq_some_iff.1 h
 unfold rowK
 rw [h1,List.drop_eq_getElem_cons a]
 simp only [List.map_append,List.map_cons,List.map_nil,List.append_assoc,List.cons_append,List.nil_append]
 have b:((u.take j).map fun i:Nat=>(i:Int)).length=j:=by
  rw [List.length_map,List.length_take]
  omega
 rw [List.set_append_right _ _ (by omega),b,Nat.sub_self]
 rfl
theorem idx_kept {G:Gr} {i:Nat} (h:i < (ksN G G.rules.length).length):Lib.idxOf (intsOf (ksN G G.rules.length)) ((keptN G i:Nat):Int)=(i:Int):=by
 have b:∀ j,j < (ksN G G.rules.length).length→(intsOf (ksN G G.rules.length)).getD j 0=((keptN G j:Nat):Int):=fun j a=>by
  unfold intsOf keptN
  rw [List.getD_eq_getElem?_getD,List.getElem?_map,List.getD_eq_getElem?_getD,List.getElem?_eq_getElem a]
  rfl
 have:=Lib.idxFrom_hit ((keptN G i:Nat):Int) (intsOf (ksN G G.rules.length)) i 0 (by unfold intsOf;rw [List.length_map];exact h) (b i h) fun j a=>by
  rw [b j (by omega)]
  intro e
  have:=keptN_inj (by omega) h (by omega:keptN G j=keptN G i)
  omega
 rw [Nat.zero_add] at this
 exact this
theorem tr_Index (A:Option Addr) (n c:Nat) (l:List Int) (x:Int) (w:World) (h:Ints .i64 w A n c l) :
 Calls Tryz.prog 71 #[.slice A n c, .int .i64 x] w fun e w'=>e = .returned (.int .i64 (Lib.idxOf l x))∧w=w':=by
 have r:=h.cap
 obtain rfl:=h.len
 by_cases d:l=[]
 · subst d
   refine (Tryz.slices_Index_int_empty A c x w).mono ?_
   rintro e w' ⟨rfl,rfl⟩
   exact ⟨rfl,rfl⟩
 · have o:0 < l.length:=List.length_pos_iff.2 d
   obtain ⟨b,f,s,rfl,_⟩:=h.get o
   have k:∀ j,j < l.length→w.cell? ⟨b,f+j,none⟩=some (.int .i64 (l.getD j 0)):=fun j m=>by
    obtain ⟨q,t,u,a,_,g,p⟩:=h.get m
    injection a with a
    injection a with e1 e2 e3
    subst e1
    subst e2
    rw [List.getD_eq_getElem?_getD,g.out]
    exact p
   refine (Tryz.slices_Index_int b f l.length c l x w (Nat.le_refl _) (by omega) k).mono ?_
   rintro e w' ⟨rfl,rfl⟩
   rw [List.take_of_length_le (Nat.le_refl _)]
   exact ⟨rfl,rfl⟩
def RetRank (G:Gr) (t:List Int) (w:World) (e:Ending) (w':World):Prop:=Below w.heap.size w w' ∧
 ∃ (a:List Nat) (d:Nat) (b:Option Addr) (c:Nat),e = .returned (.tuple #[.slice b a.length c, .int .i64 (d:Int)])∧Nums .u32 w' b a.length c a∧RankIs G t a d
theorem RetRank.no {G:Gr} {t:List Int} {w w':World} {a:Nat} (b:Below w.heap.size w w') (h:RankIs G t [] a):RetRank G t w (.returned (.tuple #[.slice none 0 0, .int .i64 (a:Int)])) w' :=
 ⟨b,[],a,none,0,rfl,Nums.nil _ _ _ _ (by simp),h⟩
theorem tr_Rank (h:GH) (G:Gr) (A:Option Addr) (c:Nat) (t:List Int) (w:World) (hg:GrAt w h G) (hs:∀ t ∈ G.terms,t.name.size≤maxLen) (cc:TabAt w) (h1:h.n1≤100) (h2:h.n2≤100) (h3:h.n3≤100) (ht:Ints .i64 w A t.length c t) (hl:t.length≤400) :
 Calls Tryz.prog 33 #[GV h G.start, .slice A t.length c] w (RetRank G t w):=by
 obtain ⟨a1,n1,c1,a2,n2,c2,a3,n3,c3⟩:=h
 simp only [] at h1 h2 h3
 have Hg:=LH hg
 have Z:=LH hs
 have bp:=LH cc
 have aj:=alloc_below w (.cells #[.slice a1 n1 c1, .slice a2 n2 c2, .slice a3 n3 c3, .int .i64 G.start] 26)
 have a4:=GBox.new w 26 ⟨a1,n1,c1,a2,n2,c2,a3,n3,c3⟩ G.start
 have HT:=LH ht
 have fs:=ht.cap
 clear hg hs cc ht
 go_enter Tryz.func33,Tryz.ntmps33
 have ⟨z5,z0,z1,z2,z3⟩:=a4
 simp only [] at z0 z1 z2 z3
 go_upto_region 1 with fail
 generalize w.alloc (.cells #[.slice a1 n1 c1, .slice a2 n2 c2, .slice a3 n3 c3, .int .i64 G.start] 26)=p at *
 have S:=tr_Word ⟨a1,n1,c1,a2,n2,c2,a3,n3,c3⟩ G A t.length c t p (Hg.out.below aj) Z.out (HT.out.below aj) hl h1 h2 h3
 have bj:=LH aj
 have br:=LH a4
 clear aj a4
 cases E:readT G t with
 | none =>
   have T:Hid (Calls Tryz.prog 69 #[GV ⟨a1,n1,c1,a2,n2,c2,a3,n3,c3⟩ G.start, .slice A t.length c] p fun e w'=>e = .returned (.tuple #[.slice none 0 0, .int .i64 1])∧Below p.heap.size p w'):=LH (S.mono fun e w' I=>by
    obtain ⟨O,⟨_,rfl⟩ | ⟨d,ps,k,R,c',n,_⟩⟩:=I
    · exact ⟨rfl,O⟩
    · rw [E] at n;cases n)
   have L:Hid (RankIs G t [] 1):=LH (.inl ⟨E,rfl,rfl⟩)
   clear S E
   go_wp2_with (go_at_call 69;(with_reducible refine T.out.mono ?_);rintro e w6 ⟨rfl,P⟩)
   go_ret2
   exact RetRank.no (below_tail bj.out P) L.out
 | some q =>
   obtain ⟨d,ps,k⟩:=q
   have T:Hid (Calls Tryz.prog 69 #[GV ⟨a1,n1,c1,a2,n2,c2,a3,n3,c3⟩ G.start, .slice A t.length c] p fun e w'=>∃ R c',e = .returned (.tuple #[.slice R d.length c', .int .i64 0])∧Below p.heap.size p w'∧(d.length:Int)≤9223372036854775807):=LH (S.mono fun e w' I=>by
    obtain ⟨O,⟨n,_⟩ | ⟨ff,fd,k',R,c',n,rfl,hi⟩⟩:=I
    · rw [E] at n;cases n
    · rw [E] at n
      obtain ⟨rfl,rfl,rfl⟩:d=ff∧ps=fd∧k=k':=by simpa using n
      exact ⟨R,c',rfl,O,by have:=hi.cap;omega⟩)
   have N:=LH E
   clear S E
   go_upto_region 4 with (first
    | (go_at_call 69
       (with_reducible refine T.out.mono ?_)
       rintro e w6 ⟨Aw,cw,rfl,P,fz⟩))
   have V:=LH (below_tail bj.out P)
   have ar:=LH (br.out.below P)
   clear z0 z1 z2 z3 z5 P br T
   by_cases ax:10 < d.length
   case pos =>
    have L:Hid (RankIs G t [] 5):=LH (.inr ⟨d,ps,k,N.out, .inl ⟨ax,rfl,rfl⟩⟩)
    have dw:(10:Int) < (d.length:Int):=by omega
    clear ax
    go_wp2_with fail
    go_ret2
    exact RetRank.no V.out L.out
   have Y:Hid (d.length≤10):=LH (by omega)
   have dw:¬ (10:Int) < (d.length:Int):=by omega
   have ⟨z5,z0,z1,z2,z3⟩:=ar.out
   simp only [] at z0 z1 z2 z3
   have J:=tr_cCount ⟨a1,n1,c1,a2,n2,c2,a3,n3,c3⟩ G (d.length:Int) w6 (Hg.out.below V.out) Z.out (bp.out.below V.out) h1 h2 h3
   have cg:=cnt_right G (d.length:Int)
   obtain ⟨cn,a5⟩:∃ cn,cntN22 G (d.length:Int)=cn:=⟨_,rfl⟩
   obtain ⟨zs,er⟩:=cn
   rw [a5] at J cg
   have J:=LH J
   have X:=LH a5
   clear a5 cg ax
   go_upto_region 7 with (first
    | (go_at_call 19
       (with_reducible refine J.out.mono ?_)
       rintro e W3 ⟨A3,fm,rfl,d8,az⟩))
   have ao:=LH (below_tail V.out az)
   have bs:=LH (ar.out.below az)
   clear d8 az J z0 z1 z2 z3 z5 ar
   by_cases am:er=0
   case neg =>
    have fx:((er:Int) != 0)=true:=by rw [bne_iff_ne];omega
    have L:Hid (RankIs G t [] er):=LH (.inr ⟨d,ps,k,N.out, .inr (.inl ⟨Y.out,by rw [X.out];exact am,rfl,by rw [X.out]⟩)⟩)
    clear am
    go_wp2_with fail
    go_ret2
    exact RetRank.no ao.out L.out
   case pos =>
    subst am
    obtain ⟨I,fv,u,r,hu,bf⟩:=read_red N.out
    have a9:=read_ok N.out
    obtain ⟨ca,hP,cq,dx,dy⟩:=cnt_told' I Y.out a9 (by rw [X.out])
    have a6:=hu.inside
    have a8:u.length=t.length:=by rw [bf];simp
    have fy:0 < t.length:=by rw [← a8];exact List.length_pos_iff.2 a6.1
    have HU:=LH hu
    have bx:=LH bf
    have dh:=LH a6.2
    have av:=LH a8
    have HP:=LH hP
    have dd:=LH ca
    have dp:=LH cq
    have dj:=LH a9
    clear I a9 ca hP cq dx dy a6 a8 hu bf
    have ⟨z5,z0,z1,z2,z3⟩:=bs.out
    simp only [] at z0 z1 z2 z3
    have cR:=tr_ReduceK ⟨a1,n1,c1,a2,n2,c2,a3,n3,c3⟩ G W3 (Hg.out.below ao.out) Z.out h1 h2 h3
    have bi:=LH cR
    clear cR
    go_upto_region 10 with (first
     | (go_at_call 57
        (with_reducible refine bi.out.mono ?_)
        rintro e W5 ⟨ce,⟨co,er,am,rfl⟩ | ⟨_,⟨s,g,B,v,l,C,y,m,D⟩,Ak,nk,ck,rfl,ci,m1,m2,m3,cl⟩⟩
        · rw [dj.out] at co;cases co
        have bl:=LH (below_tail ao.out ce)
        have bu:=LH ci
        have bv:=LH cl
        clear ce ci cl))
    have m1:g≤24:=m1
    have m2:l≤16:=m2
    have m3:m≤40:=m3
    have al:=alloc_below W5 (.cells #[.slice s g B, .slice v l C, .slice y m D, .int .i64 (redG G).start] 26)
    have cf:=Blk.new W5 26 #[.slice s g B, .slice v l C, .slice y m D, .int .i64 (redG G).start]
    have ap:=LH (below_tail bl.out al)
    have df:=LH (bu.out.below al)
    have di:=LH (bv.out.below al)
    clear bl bu bv al z0 z1 z2 z3 z5 bi bs
    generalize W5.alloc (.cells #[.slice s g B, .slice v l C, .slice y m D, .int .i64 (redG G).start] 26)=F at *
    generalize W5.heap.size=gH at *
    have de:=LH cf
    have CL:=LH (tr_Clone A t.length c t F (HT.out.below ap.out) (by omega))
    clear cf
    go_upto_region 11 with (first
     | (go_at_call 70
        (with_reducible refine CL.out.mono ?_)
        rintro e W7 ⟨v7,rfl,ba,b8⟩))
    have bm:=LH b8
    have bb:=ba
    rcases ba.2 with ⟨_,e0⟩ | ⟨a,z,fn,rfl,cj,d0,fw,d7,dz,d5⟩
    · omega
    have e7:rowK G u 0=t:=by unfold rowK;rw [List.take_zero,List.drop_zero,List.nil_append];exact bx.out.symm
    have o:Hid (W7.ownsRow F.heap.size 3 1 (.slice (some ⟨a,0,none⟩) t.length z) t.length (ints .i64 (rowK G u 0))):=LH (by rw [e7];exact bb)
    have fj:Hid (a < W7.heap.size):=LH (bb.lt a rfl).2
    have dg:=LH cj
    clear ba bb d0 d5 e7 b8 CL dz d7 cj
    go_upto_region 12 with fail
    go_loopw [52] (fun i wr=>∃ j:Nat,i = .int .i64 (j:Int)∧j≤t.length∧Hid (wr.ownsRow F.heap.size 3 1 (.slice (some ⟨a,0,none⟩) t.length z) t.length (ints .i64 (rowK G u j)))∧Hid (Off (fun q=>q=a) W7 wr)) (fun i _=>t.length - (intOf i).toNat)
    case atStart=>exact ⟨0,rfl,Nat.zero_le _,o,LH (Off.refl _ _)⟩
    case round =>
     clear o
     obtain ⟨j,rfl,hj,o,bw⟩:=hrel
     have W:Hid (Below F.heap.size F wr):=LH (bm.out.trans (bw.out.is_below bm.out.size fun q hq=>by subst hq;exact dg.out))
     by_cases a7:j < t.length
     case pos =>
      obtain ⟨x,hx⟩:∃ x,u[j]? = some x:=⟨_,List.getElem?_eq_getElem (by rw [av.out];exact a7)⟩
      have cr:x < (ksN G G.rules.length).length:=by
       have f:=dh.out x (List.mem_of_getElem? hx)
       rw [kept_len] at f
       exact f
      have U:=tr_Index Ak nk ck (intsOf (ksN G G.rules.length)) ((keptN G x:Nat):Int) wr (di.out.below W.out)
      rw [idx_kept cr] at U
      have U:=LH U
      obtain ⟨g8,v8,eg,_,gl,Hv,r0,r1⟩:=own_at o.out a7
      obtain rfl:a=g8:=by
       injection eg with eg
       injection eg
      have hv:v8 = .int .i64 ((keptN G x:Nat):Int):=by
       have f:=Hv.out
       simp only [ints] at f
       rw [List.getElem?_map,rowK_at hx] at f
       injection f with f
       exact f.symm
      subst hv
      have dn:Hid ((rowK G u j).set j (x:Int)=rowK G u (j+1)):=LH (rowK_set hx)
      have HF:Hid ((wr.setCell ⟨a,j,none⟩ (.int .i64 (x:Int))).ownsRow F.heap.size 3 1 (.slice (some ⟨a,0,none⟩) t.length z) t.length (ints .i64 (rowK G u (j+1)))):=LH (by
       have f:=own_set o.out j (.int .i64 (x:Int))
       rw [← dn.out]
       have e4:ints .i64 ((rowK G u j).set j (x:Int))=(ints .i64 (rowK G u j)).set j (.int .i64 (x:Int)):=by simp [ints,List.map_set]
       rw [e4]
       exact f)
      have HO:Hid (Off (fun q=>q=a) W7 (wr.setCell ⟨a,j,none⟩ (.int .i64 (x:Int)))):=LH (bw.out.trans (Off.of_set _ a j _) fun _ _ h=>h)
      clear hx Hv eg cr
      go_wp2_with (first
       | (go_at_call 71
          (with_reducible refine U.out.mono ?_)
          rintro e w9 ⟨rfl,rfl⟩))
      go_roundw
      case rel=>exact ⟨j+1,by go_num,by omega,HF,HO⟩
      case measure=>simp [intOf] <;> omega
     case neg =>
      obtain rfl:j=t.length:=by omega
      have M:=LH (de.out.ext W.out)
      have x0:wr.cell? ⟨gH,0,none⟩=some (.slice s g B):=M.out.cell 0
      have x1:wr.cell? ⟨gH,1,none⟩=some (.slice v l C):=M.out.cell 1
      have x2:wr.cell? ⟨gH,2,none⟩=some (.slice y m D):=M.out.cell 2
      have x3:wr.cell? ⟨gH,3,none⟩=some (.int .i64 (redG G).start):=M.out.cell 3
      have xl:=M.out.lt
      have aq:=LH (ap.out.trans (W.out.mono ap.out.size))
      have CO:=LH (tr_open ⟨s,g,B,v,l,C,y,m,D⟩ (redG G) wr)
      have b7:BkG wr ⟨s,g,B,v,l,C,y,m,D⟩ (redG G):=⟨dd.out,df.out.below W.out,by rw [redG_terms];exact Z.out,bp.out.below aq.out,by show g≤100;omega,by show l≤100;omega,by show m≤100;omega⟩
      have c6:=LH b7
      have ez:(u.map fun i:Nat=>(i:Int)).length=t.length:=by rw [List.length_map];exact av.out
      have ek:rowK G u t.length=u.map fun i:Nat=>(i:Int):=by unfold rowK;rw [← av.out];simp
      have bd:=own_sl o.out
      rw [ek] at bd
      have dc:=LH bd
      have bt:=LH ez
      obtain ⟨s0,s1,s2⟩:=non_start HP.out.fits
      have dk:=LH s0
      have dl:=LH s1
      have dm:=LH s2
      clear b7 ez ek bd o s0 s1 s2 a7 hj
      go_wp2_with fail
      (with_reducible refine CO.out.mono ?_)
      rintro e H ⟨gc,gt,rfl,hC,ft,fu⟩
      have a0:=alloc_below H (.cells #[.pointer (some ⟨gc,0,none⟩), .slice (some ⟨a,0,none⟩) t.length z] 108)
      have ay:=Blk.new H 108 #[.pointer (some ⟨gc,0,none⟩), .slice (some ⟨a,0,none⟩) t.length z]
      have cd:TlIn wr ⟨gc,gt⟩ ⟨s,g,B,v,l,C,y,m,D⟩ (redG G) H.heap.size (u.map fun i:Nat=>(i:Int)) (fun q=>q=H.heap.size) (some ⟨a,0,none⟩) z (H.alloc (.cells #[.pointer (some ⟨gc,0,none⟩), .slice (some ⟨a,0,none⟩) t.length z] 108)) :=
       ⟨(hC.more a0 (Nat.le_refl _)).less fun b O => .inr O,by rw [bt.out];exact ay,by rw [bt.out];exact (dc.out.below hC.base).below a0,rfl,fun q hq=>by subst hq;exact ay.lt,hC.base.size⟩
      have CT:=LH ((teller_all c6.out HP.out u.length).1 H.heap.size (-1 - (redG G).start) d.length r u [] _ (Nat.le_refl _) dk.out dm.out (by rw [dl.out];exact HU.out) dp.out Y.out ⟨_,_,_,by rw [List.append_nil];exact cd⟩)
      clear hC a0 ay cd
      go_wp2_with (first
       | (go_at_call 73
          (with_reducible refine CT.out.mono ?_)
          rintro e W9 ⟨A9,c9,rfl,cm,⟨S9,B9,d9,cb⟩,_⟩
          have da:=LH cm
          have c5:=LH (aq.out.trans (cb.bk.base.mono aq.out.size))
          clear cm cb))
      go_ret2
      exact ⟨c5.out,limbs r,0,A9,c9,rfl,da.out, .inr ⟨d,ps,k,N.out, .inr (.inr ⟨Y.out,by rw [X.out],rfl,u,r,HU.out,bx.out,rfl⟩)⟩⟩
abbrev Alive23:Prop:=∀ w:World,TabAt w→Calls Tryz.prog 32 #[] w fun e w'=>e = .returned (.bool true)∧Below w.heap.size w w'
theorem alive23:Alive23:=by
 intro w V
 have kc:=fun (w:World) (C:Array Value) (n c:Nat)=>Lib.run_convert_bytes_const (P:=Tryz.prog) w 72 5 C n c Tryz.underlying72 Tryz.underlying5
 have HT:=LH V
 clear V
 go_enter Tryz.func32,Tryz.ntmps32
 go_wp2_with fail
 have U:Nums .u8 (w.alloc (.cells #[.int .u8 37, .int .u8 37, .int .u8 32, .int .u8 115, .int .u8 32, .int .u8 58, .int .u8 32, .int .u8 115, .int .u8 32, .int .u8 115, .int .u8 32, .int .u8 124, .int .u8 32, .int .u8 39, .int .u8 97, .int .u8 39, .int .u8 32, .int .u8 59] 5 (18,19))) (some ⟨w.heap.size,0,none⟩) 18 18 text22A:=markd_sl w 5 (18,19) (nums .u8 text22A) 18 _ rfl rfl (by decide)
 have S:Below w.heap.size w (w.alloc (.cells #[.int .u8 37, .int .u8 37, .int .u8 32, .int .u8 115, .int .u8 32, .int .u8 58, .int .u8 32, .int .u8 115, .int .u8 32, .int .u8 115, .int .u8 32, .int .u8 124, .int .u8 32, .int .u8 39, .int .u8 97, .int .u8 39, .int .u8 32, .int .u8 59] 5 (18,19))):=(Below.refl _ _).alloc (Nat.le_refl _) _
 have H:=rf_ReadC _ 18 18 text22A g22A _ read22A U (by decide) (by decide)
 rw [show g22A.start=0 from rfl] at H
 try dsimp only at H
 (with_reducible refine H.mono ?_)
 rintro e p ⟨a,rfl,W,am,an,ao,_,R⟩
 have T:=below_tail S R
 clear H U S R
 have h:Hid (a.n1≤100∧a.n2≤100∧a.n3≤100):=LH ⟨by omega,by omega,by omega⟩
 have b:=alloc_below p (.cells #[.slice a.a1 a.n1 a.c1, .slice a.a2 a.n2 a.c2, .slice a.a3 a.n3 a.c3, .int .i64 0] 26)
 have O:GBox (p.alloc (.cells #[.slice a.a1 a.n1 a.c1, .slice a.a2 a.n2 a.c2, .slice a.a3 a.n3 a.c3, .int .i64 0] 26)) p.heap.size a 0∧GrAt (p.alloc (.cells #[.slice a.a1 a.n1 a.c1, .slice a.a2 a.n2 a.c2, .slice a.a3 a.n3 a.c3, .int .i64 0] 26)) a g22A:=⟨GBox.new p 26 a 0,W.below b⟩
 have J:=LH (below_tail T b)
 clear T W am an ao b
 go_upto_region 2 with fail
 have m:=LH O
 clear O
 generalize p.alloc (.cells #[.slice a.a1 a.n1 a.c1, .slice a.a2 a.n2 a.c2, .slice a.a3 a.n3 a.c3, .int .i64 0] 26)=x at *
 generalize p.heap.size=gA at *
 have r:=LH (HT.out.below J.out)
 have s:Hid (Below x.heap.size x x):=LH (Below.refl _ _)
 have ⟨y5,y0,y1,y2,y3⟩:=m.out.1.below s.out
 try simp only [] at y0 y1 y2 y3
 go_wp2_with fail
 have d:=tr_Unrank a g22A 3 none 0 [] x (m.out.2.below s.out) names22A (r.out.below s.out) h.out.1 h.out.2.1 h.out.2.2 (Nums.nil _ _ _ _ (by omega)) Lim.nil
 rw [show g22A.start=0 from rfl,show ([]:List Nat).length=0 from rfl] at d
 (with_reducible refine d.mono ?_)
 rintro e y ⟨k,X,G,Y,c1,rfl,l,j⟩
 obtain ⟨rfl,rfl⟩:=u23A j
 have f:=k
 have q:=LH f
 have q:=LH (below_tail s.out f)
 have R1:=LH l
 clear d k f l j y0 y1 y2 y3 y5
 have ⟨y5,y0,y1,y2,y3⟩:=m.out.1.below q.out
 try simp only [] at y0 y1 y2 y3
 go_wp2_with fail
 have b:=alloc_below y (.cells #[.int .u32 1] 49)
 have g:Nums .u32 (y.alloc (.cells #[.int .u32 1] 49)) (some ⟨y.heap.size,0,none⟩) 1 1 [1]:=lit_sl y 49 (nums .u32 [1]) 1 _ rfl rfl (by decide)
 have d:=tr_Unrank a g22A 3 _ 1 [1] _ ((m.out.2.below q.out).below b) names22A ((r.out.below q.out).below b) h.out.1 h.out.2.1 h.out.2.2 g (Lim.mk (by omega) Lim.nil)
 rw [show g22A.start=0 from rfl,show ([1]:List Nat).length=1 from rfl] at d
 (with_reducible refine d.mono ?_)
 rintro e z ⟨k,X,G,Z,c2,rfl,l,j⟩
 obtain ⟨rfl,rfl⟩:=u23B j
 have f:=below_tail b k
 have ag:=LH f
 have t:=LH (below_tail q.out f)
 have R2:=LH l
 clear d k f l j y0 y1 y2 y3 y5 b g
 have ⟨y5,y0,y1,y2,y3⟩:=m.out.1.below t.out
 try simp only [] at y0 y1 y2 y3
 go_wp2_with fail
 have b:=alloc_below z (.cells #[.int .u32 2] 49)
 have g:Nums .u32 (z.alloc (.cells #[.int .u32 2] 49)) (some ⟨z.heap.size,0,none⟩) 1 1 [2]:=lit_sl z 49 (nums .u32 [2]) 1 _ rfl rfl (by decide)
 have d:=tr_Unrank a g22A 3 _ 1 [2] _ ((m.out.2.below t.out).below b) names22A ((r.out.below t.out).below b) h.out.1 h.out.2.1 h.out.2.2 g (Lim.mk (by omega) Lim.nil)
 rw [show g22A.start=0 from rfl,show ([2]:List Nat).length=1 from rfl] at d
 (with_reducible refine d.mono ?_)
 rintro e A ⟨k,X,G,A3,c3,rfl,l,j⟩
 obtain ⟨rfl,rfl⟩:=u23C j
 have f:=below_tail b k
 have L:=LH f
 have u:=LH (below_tail t.out f)
 clear d k f l j y0 y1 y2 y3 y5 b g
 have ⟨y5,y0,y1,y2,y3⟩:=m.out.1.below u.out
 try simp only [] at y0 y1 y2 y3
 go_wp2_with fail
 have b:=alloc_below A (.cells #[.int .i64 0, .int .i64 0, .int .i64 1, .int .i64 1, .int .i64 1] 3)
 have g:Ints .i64 (A.alloc (.cells #[.int .i64 0, .int .i64 0, .int .i64 1, .int .i64 1, .int .i64 1] 3)) (some ⟨A.heap.size,0,none⟩) 5 5 [0,0,1,1,1]:=lit_sl A 3 (ints .i64 [0,0,1,1,1]) 5 _ rfl rfl (by decide)
 have d:=tr_Rank a g22A _ 5 [0,0,1,1,1] _ ((m.out.2.below u.out).below b) names22A ((r.out.below u.out).below b) h.out.1 h.out.2.1 h.out.2.2 g (by decide)
 rw [show g22A.start=0 from rfl,show ([0,0,1,1,1]:List Int).length=5 from rfl] at d
 (with_reducible refine d.mono ?_)
 rintro e B ⟨k,rs,G,A4,c4,rfl,l,j⟩
 obtain ⟨rfl,rfl⟩:=r23A j
 have f:=below_tail b k
 have M:=LH f
 have v:=LH (below_tail u.out f)
 have R4:=LH l
 clear d k f l j y0 y1 y2 y3 y5 b g
 have ⟨y5,y0,y1,y2,y3⟩:=m.out.1.below v.out
 try simp only [] at y0 y1 y2 y3
 go_wp2_with fail
 have b:=alloc_below B (.cells #[.int .i64 0] 3)
 have g:Ints .i64 (B.alloc (.cells #[.int .i64 0] 3)) (some ⟨B.heap.size,0,none⟩) 1 1 [0]:=lit_sl B 3 (ints .i64 [0]) 1 _ rfl rfl (by decide)
 have d:=tr_Rank a g22A _ 1 [0] _ ((m.out.2.below v.out).below b) names22A ((r.out.below v.out).below b) h.out.1 h.out.2.1 h.out.2.2 g (by decide)
 rw [show g22A.start=0 from rfl,show ([0]:List Int).length=1 from rfl] at d
 (with_reducible refine d.mono ?_)
 rintro e D ⟨k,rs,G,A5,c5,rfl,l,j⟩
 obtain ⟨rfl,rfl⟩:=r23B j
 have f:=below_tail b k
 have I:=LH f
 have ab:=LH (below_tail v.out f)
 clear d k f l j y0 y1 y2 y3 y5 b g
 go_wp2_with fail
 have b:=alloc_below D (.cells #[.int .i64 0, .int .i64 1, .int .i64 0, .int .i64 1, .int .i64 1] 3)
 have g:Ints .i64 (D.alloc (.cells #[.int .i64 0, .int .i64 1, .int .i64 0, .int .i64 1, .int .i64 1] 3)) (some ⟨D.heap.size,0,none⟩) 5 5 [0,1,0,1,1]:=lit_sl D 3 (ints .i64 [0,1,0,1,1]) 5 _ rfl rfl (by decide)
 have d:=ref_ints Y _ c1 [0,1,0,1,1] _ 5 5 [0,1,0,1,1] _ ((R1.out.below (below_tail (below_tail (below_tail ag.out L.out) M.out) I.out)).below b) g
 rw [show (([0,1,0,1,1]:List Int) == [0,1,0,1,1])=true from rfl] at d
 try rw [show ([0,1,0,1,1]:List Nat).length=5 from rfl] at d
 (with_reducible refine d.mono ?_)
 rintro e E ⟨rfl,o⟩
 have f:=below_tail b (o.below _)
 have N:=LH f
 have ad:=LH (below_tail ab.out f)
 clear d f g b o
 go_wp2_with fail
 have b:=alloc_below E (.cells #[.int .i64 0, .int .i64 0, .int .i64 1, .int .i64 1, .int .i64 1] 3)
 have g:Ints .i64 (E.alloc (.cells #[.int .i64 0, .int .i64 0, .int .i64 1, .int .i64 1, .int .i64 1] 3)) (some ⟨E.heap.size,0,none⟩) 5 5 [0,0,1,1,1]:=lit_sl E 3 (ints .i64 [0,0,1,1,1]) 5 _ rfl rfl (by decide)
 have d:=ref_ints Z _ c2 [0,0,1,1,1] _ 5 5 [0,0,1,1,1] _ ((R2.out.below (below_tail (below_tail (below_tail L.out M.out) I.out) N.out)).below b) g
 rw [show (([0,0,1,1,1]:List Int) == [0,0,1,1,1])=true from rfl] at d
 try rw [show ([0,0,1,1,1]:List Nat).length=5 from rfl] at d
 (with_reducible refine d.mono ?_)
 rintro e F ⟨rfl,o⟩
 have f:=below_tail b (o.below _)
 have ah:=LH f
 have ae:=LH (below_tail ad.out f)
 clear d f g b o
 go_wp2_with fail
 have b:=alloc_below F (.cells #[.int .u32 1] 49)
 have g:Nums .u32 (F.alloc (.cells #[.int .u32 1] 49)) (some ⟨F.heap.size,0,none⟩) 1 1 [1]:=lit_sl F 49 (nums .u32 [1]) 1 _ rfl rfl (by decide)
 have d:=ref_same A4 _ c4 [1] _ 1 1 [1] _ ((R4.out.below (below_tail (below_tail I.out N.out) ah.out)).below b) g
 rw [show (([1]:List Nat) == [1])=true from rfl,show ([1]:List Nat).length=1 from rfl] at d
 (with_reducible refine d.mono ?_)
 rintro e W9 ⟨rfl,o⟩
 have af:=LH (below_tail ae.out (below_tail b (o.below _)))
 clear d g b o
 go_wp2_with fail
 go_ret
 exact ⟨rfl,below_tail J.out af.out⟩
theorem ref_of_n (x:Nat) (w:World) (j:x < 18446744073709551616) :
 Calls Tryz.prog 38 #[.int .u64 (x:Int)] w (RetLimbs w (limbs x)):=by
 have h:Lim [x % 4294967296,x / 4294967296]:=Lim.mk (by omega) (Lim.mk (by omega) Lim.nil)
 have f:val [x % 4294967296,x / 4294967296]=x:=by simp [val];omega
 have a:=neatL_limbs _ h
 rw [f] at a
 have g:=LH a
 clear a f
 have d:=(Own.new w 49 .u32 [x % 4294967296,x / 4294967296]).nums (n:=2) (c:=2) rfl (Nat.le_refl _) (by omega)
 have e:(nums .u32 [x % 4294967296,x / 4294967296]).toArray=#[.int .u32 ((x:Int) % 4294967296), .int .u32 ((x:Int) / 4294967296)]:=by simp [nums]
 rw [e] at d
 clear e
 go_enter Tryz.func38,Tryz.ntmps38
 go_wp2_with (go_at_call 80;refine (ref_neat _ _ _ _ _ d).mono ?_;rintro e w' ⟨rfl,b,rfl⟩)
 go_ret
 rw [g.out] at b ⊢
 exact ⟨_,_,rfl,b,(Below.refl _ _).alloc (Nat.le_refl _) _⟩
theorem UnrIs.next {G:Gr} {n:Int} {d ss f m:List Nat} (h:UnrIs G n d f 0) (s:UnrIs G n ss m 0) (A:val ss=val d+1):f ≠ m∧∃ a o b B,f=a::o∧m=b::B∧a≤b:=by
 have get:∀ {d f:List Nat},UnrIs G n d f 0→¬ badU G n d∧(cntN22 G n).2=0∧val d < val (cntN22 G n).1∧∃ t,UnT (redG G) (redG G).start.toNat n.toNat (val d) t∧f=t.map (keptN G):=by
  intro d f h
  rcases h with ⟨_,_,e⟩ | ⟨_,b,_,e⟩ | ⟨_,_,_,_,e⟩ | ⟨a,b,c,t,g,⟨_,_,e⟩ | ⟨_,e,_⟩⟩
  · cases e
  · exact absurd e.symm b
  · cases e
  · cases e
  · exact ⟨a,b,c,t,g,e⟩
 obtain ⟨a,b,c,t,g,rfl⟩:=get h
 obtain ⟨C,_,_,u,l,rfl⟩:=get s
 have k:G.right=true:=by
  cases k:G.right
  · exact absurd (.inl k) a
  · rfl
 have y:0≤n∧n≤10:=by
  constructor
  · exact Int.not_lt.1 fun h=>a (.inr (.inl h))
  · exact Int.not_lt.1 fun h=>a (.inr (.inr (.inl h)))
 have v:=(cnt_told k y b (by omega)).2.2.1
 rw [A] at l
 obtain ⟨z,i,D,j,E,rfl,rfl,x,hi,p⟩:=g.next v l
 have q:=g.inside.2
 have r:=l.inside.2
 rw [kept_len] at q r hi p
 exact ⟨fun e=>z (keptN_map q r e),_,_,_,_,rfl,rfl,keptN_mono x p⟩
end Go.Proofs.YtggbjdmpjidhgaaGreatDoor
