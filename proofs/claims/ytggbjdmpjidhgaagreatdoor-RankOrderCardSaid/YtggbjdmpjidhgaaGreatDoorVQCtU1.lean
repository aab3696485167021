/- trees by their ranks, plainly: a forest of symbols as its rules, with how many terminals it has and its rank: just one of each (no program in sight). -/
import Derived.Test.YtggbjdmpjidhgaaGreatDoorVQCtP4
import Derived.Test.YtggbjdmpjidhgaaGreatDoorVQCtW7
set_option linter.unusedVariables false
set_option linter.unusedSimpArgs false
set_option maxHeartbeats 8000000
set_option maxRecDepth 100000
namespace Go.Proofs.YtggbjdmpjidhgaaGreatDoor
open Go.RowKit
def aheadK (T:Int→Nat→Nat) (s:Int) (l:List Int) (n k:Nat):Nat:=sumL ((List.range k).map fun j=>T s j * forestT T l (n - j))
def aheadR (T:Int→Nat→Nat) (b:List Rul) (a i n:Nat):Nat:=rulesT T (b.take i) a n
inductive UnL (G:Gr):List Int→Nat→Nat→List Nat→Prop
 | nil:UnL G [] 0 0 []
 | term {s:Int} {l:List Int} {n r:Nat} {t:List Nat}:0≤s→UnL G l n r t→UnL G (s::l) (n+1) r t
 | non {s:Int} {l:List Int} {n k i q r:Nat} {x:Rul} {t1 t2:List Nat}:s < 0→G.rules[i]? = some x→x.left.toNat=nonI s→UnL G x.right k q t1→UnL G l n r t2 →
    UnL G (s::l) (k+n) (aheadK (treeN G) s l (k+n) k+(aheadR (treeN G) G.rules (nonI s) i k+q) * forestT (treeN G) l n+r) (i::(t1++t2))
def InG (G:Gr) (l:List Int):Prop:=∀ s ∈ l,s < 0→nonI s < G.nons.length
theorem InG.rule {G:Gr} (a:G.Fits) {x:Rul} (c:x ∈ G.rules):InG G x.right:=fun q b h0=>by
 have:=a.sym x c q b
 unfold nonI
 omega
theorem enters_crule1:∀ args w,(callFunc 228 args).run Tryz.prog w = .ok (.enter 228 args) w:=fun args w=>by kernel_rfl
theorem enters_cforest1:∀ args w,(callFunc 93 args).run Tryz.prog w = .ok (.enter 93 args) w:=fun args w=>by kernel_rfl
theorem cnt_store {a w d:World} {k:CH} {h:GH} {G:Gr} {S S':Nat→Prop} (C:CntAt a k h G S w) {g:Nat} {A0 A:Option Addr} {n0 c0 n c:Nat} {b0 b:Bool} {x:Nat} (r:Blk w g 77 #[.slice A0 n0 c0, .bool b0]) (p:ValN w A n c b x) (m:Off k.maps d w) (o:S g) (t:a.heap.size≤g) (s:d.heap.size≤g) (u:∀ q,S' q→S q) :
 Blk ((w.setCell ⟨g,0,none⟩ (.slice A n c)).setCell ⟨g,1,none⟩ (.bool b)) g 77 #[.slice A n c, .bool b] ∧
  CRet a k h G S' d x (.returned (.agg #[.slice A n c, .bool b])) ((w.setCell ⟨g,0,none⟩ (.slice A n c)).setCell ⟨g,1,none⟩ (.bool b)):=by
 obtain ⟨h1,f,j,l⟩:=C.store r o t A n c b
 exact ⟨l,h1.less u,m.maps_new f s,A,n,c,b,rfl,p.kept j⟩
theorem tr_rule1 {n:World} {k:CH} {h:GH} {G:Gr} {S:Nat→Prop} (x:Rul) (i d Z m s l:Nat) (X:World) (C:CntAt n k h G S X) (I:∀ b,S b→b < X.heap.size) (B:Blk X s 78 #[.pointer (some ⟨k.c,0,none⟩)]) (D:Blk X l 251 #[.int .i64 (i:Int), .int .i64 (d:Int), .int .i64 (Z:Int)])
 (H:RuleC n k h G x i (d+1) m) (hd:d≤1000) :
 Calls Tryz.prog 228 #[.int .i64 (m:Int), .pointer (some ⟨s,0,none⟩), .pointer (some ⟨l,0,none⟩)] X (CRet n k h G S X (forestT (treeN G) (x.right.drop (d+1)) m)):=by
 have f:=alloc_below X (.cells #[.slice none 0 0, .bool false] 77)
 have v:=Blk.new X 77 #[.slice none 0 0, .bool false]
 have t:=C.more f (Nat.le_refl X.heap.size)
 have F:Off k.maps X (X.alloc (.cells #[.slice none 0 0, .bool false] 77)):=Off.of_below f
 have r:=B.ext f
 have j:=D.ext f
 have L:(X.alloc (.cells #[.slice none 0 0, .bool false] 77)).heap.size=X.heap.size+1:=alloc_size _ _
 have W:=C.base.size
 go_enter Tryz.func228,Tryz.ntmps228
 go_upto_region 1 with fail
 have g:=H _ _ t (fun b y=>by
  rw [L]
  rcases y with y | rfl
  · exact Nat.lt_succ_of_lt (I b y)
  · exact Nat.lt_succ_self _)
 unfold kF at g
 have V:((d+1:Nat):Int)=(d:Int)+1:=by omega
 rw [V] at g
 generalize X.alloc (.cells #[.slice none 0 0, .bool false] 77)=o at *
 have P:=LH t
 have z:=LH v
 have T:=LH F
 have R:=LH g
 have l1:=v.lt
 have l2:=r.lt
 have l3:=j.lt
 have p0:o.cell? ⟨s,0,none⟩=some (.pointer (some ⟨k.c,0,none⟩)):=r.cell 0
 have t0:o.cell? ⟨l,0,none⟩=some (.int .i64 (i:Int)):=j.cell 0
 have t1:o.cell? ⟨l,1,none⟩=some (.int .i64 (d:Int)):=j.cell 1
 have ae:IntKind.i64.wrap ((d:Int)+1)=(d:Int)+1:=IntWalk.i64_in _ (by omega)
 clear C B D r j t v F f g H I L
 go_wp2_with fail
 (with_reducible refine R.out.mono ?_)
 rintro e N ⟨E,u,O,n2,c2,U,rfl,M⟩
 have a:=u.blk z.out (P.out.not_map z.out)
 have J:=cnt_store (S':=S) E a M (T.out.maps_trans u) (.inr rfl) W (Nat.le_refl _) fun q Y => .inl Y
 have A:=LH J
 have c0:N.cell? ⟨X.heap.size,0,none⟩=some (.slice none 0 0):=a.cell 0
 have c1:N.cell? ⟨X.heap.size,1,none⟩=some (.bool false):=a.cell 1
 have f0:=a.frozen 0
 have f1:=a.frozen 1
 have l4:=a.lt
 clear E u M a J p0 t0 t1
 go_wp2_with fail
 refine bodyPost_ret (results_cell_row (p:=4) (by kernel_rfl) _ _ X.heap.size 77 #[.slice O n2 c2, .bool U] (0,0) _ rfl A.out.1 Tryz.underlying77 rfl (by kernel_rfl)) rfl ?_
 exact A.out.2
theorem slice_from {W:World} {A:Option Addr} {n c:Nat} {d:List Int} (h:Ints .i64 W A n c d) {i:Nat} (hi:i≤n):∃ At:Option Addr,
 (∀ w:World,(Instr.sliceAt 27 (.slice A n c) (some (.int .i64 (i:Int))) none none).run Tryz.prog w = .ok (.slice At (n - i) (c - i)) w)∧Ints .i64 W At (n - i) (c - i) (d.drop i):=by
 have g:=h.len
 have r:=h.cap
 rcases Nat.eq_zero_or_pos n with rfl | l
 · obtain rfl:i=0:=by omega
   have m:d=[]:=List.eq_nil_of_length_eq_zero g
   subst m
   refine ⟨A,fun w=>?_,Ints.nil _ _ _ _ (by omega)⟩
   rcases A with _ | a
   · go_simp
   · by_cases p:c=0
     · go_simp
     · have q:¬ ((c:Int) < 0):=by omega
       go_simp
 · obtain ⟨b,k,s,rfl,o,_,_⟩:=h.get (j:=0) l
   refine ⟨if c=i then some ⟨b,k,none⟩ else some ⟨b,k+i,none⟩,fun w=>?_,?_⟩
   · have t:¬ ((n:Int) < (i:Int)):=by omega
     go_simp
   · by_cases f:c=i
     · rw [if_pos f]
       obtain rfl:i=n:=by omega
       rw [Nat.sub_self,← g,List.drop_length]
       exact Ints.nil _ _ _ _ (by omega)
     · rw [if_neg f]
       have:=h.part i (n - i) (c - i) (by omega) (by omega) (by omega)
       rwa [List.take_of_length_le (by rw [List.length_drop];omega)] at this
theorem drop_head {l b:List Int} {d:Nat} {s:Int} (h:l.drop d=s::b):l[d]? = some s∧b=l.drop (d+1)∧d < l.length:=by
 have a:d < l.length:=by
  rcases Nat.lt_or_ge d l.length with h1 | h1
  · exact h1
  · rw [List.drop_eq_nil_of_le h1] at h;cases h
 rw [List.drop_eq_getElem_cons a] at h
 injection h with h1 h2
 exact ⟨by rw [List.getElem?_eq_getElem a,h1],h2.symm,a⟩
theorem three_blks (w:World) (a c f:TypeId) (b d g:Array Value):Below w.heap.size w (((w.alloc (.cells b a)).alloc (.cells d c)).alloc (.cells g f))∧Blk (((w.alloc (.cells b a)).alloc (.cells d c)).alloc (.cells g f)) w.heap.size a b ∧
 Blk (((w.alloc (.cells b a)).alloc (.cells d c)).alloc (.cells g f)) (w.heap.size+1) c d∧Blk (((w.alloc (.cells b a)).alloc (.cells d c)).alloc (.cells g f)) (w.heap.size+2) f g:=by
 have p:=alloc_below w (.cells b a)
 have m:=alloc_below (w.alloc (.cells b a)) (.cells d c)
 have h:=alloc_below ((w.alloc (.cells b a)).alloc (.cells d c)) (.cells g f)
 have h1:=Blk.new w a b
 have o:=Blk.new (w.alloc (.cells b a)) c d
 have l:=Blk.new ((w.alloc (.cells b a)).alloc (.cells d c)) f g
 have j:(w.alloc (.cells b a)).heap.size=w.heap.size+1:=alloc_size _ _
 have n:((w.alloc (.cells b a)).alloc (.cells d c)).heap.size=w.heap.size+2:=by rw [alloc_size,j]
 have k:=Blk.ext o h
 rw [j] at k
 rw [n] at l
 exact ⟨below_tail (below_tail p m) h,Blk.ext (Blk.ext h1 m) h,k,l⟩
theorem tr_rule {R:World} {k:CH} {h:GH} {G:Gr} (hP:Plain G) (hg:GrAt R h G) (h2:h.n2≤100) (h3:h.n3≤100) {M n0 i:Nat} {s0:Int} {x:Rul} (Y:G.rules[i]? = some x) (cs:nonI s0=x.left.toNat) (hM:mu G n0 s0=M) (fj:n0≤100)
 (hT:∀ (q:Int) (m:Nat),(q < 0→nonI q < G.nons.length∧mu G m q < M)→m≤n0→TreeC R k h G q m) :
 ∀ (c d m:Nat),x.right.length - d=c→d≤x.right.length→m≤n0→(m=n0→∀ (p:Nat) s,p < d→x.right[p]? = some s→nulB (nullN G) s=true)→RuleC R k h G x i d m:=by
 have e2:G.nons.length=h.n2:=hg.nons.len
 have e3:G.rules.length=h.n3:=hg.rules.len
 have k3:=hg.rules.cap
 have az:=List.mem_of_getElem? Y
 have hi:i < h.n3:=by rw [← e3];exact (List.getElem?_eq_some_iff.1 Y).1
 obtain ⟨rb,d8,o,Ar,cr,dp,cq,dg,q0,q1,q2,dx⟩:=hg.rules.get hi
 have dy:o=x:=by have:=dg.out;rw [Y] at this;exact (Option.some.inj this).symm
 subst dy
 have fk:o.right.length≤100:=by have:=hP.fits.len o az;omega
 have cw:∀ s ∈ o.right,-(h.n2:Int)≤s∧s≤1000:=fun s hs=>by have:=hP.fits.sym o az s hs;have:=hP.fits.n1;omega
 have cc:(nullN G).length=h.n2:=by rw [nullN_grown,grownN_len];exact e2
 have step:∀ (d m:Nat),d≤o.right.length→m≤n0→(m=n0→∀ (p:Nat) s,p < d→o.right[p]? = some s→nulB (nullN G) s=true) →
  (d < o.right.length→∀ m',m'≤n0→(m'=n0→∀ (p:Nat) s,p < d+1→o.right[p]? = some s→nulB (nullN G) s=true)→RuleC R k h G o i (d+1) m')→RuleC R k h G o i d m:=by
  intro d m hd X r cb S w C hS
  obtain ⟨At,cu,bb⟩:=slice_from dx hd
  have aw:o.right.length - d=(o.right.drop d).length:=by rw [List.length_drop]
  rw [aw] at cu bb
  have fh:(o.right.drop d).length≤100:=by rw [← aw];omega
  have fb:=LH aw
  clear aw
  obtain ⟨a8,b2,T,b4⟩:=three_blks w 78 251 77 #[.pointer (some ⟨k.c,0,none⟩)] #[.int .i64 (i:Int), .int .i64 (d:Int), .int .i64 (m:Int)] #[.slice none 0 0, .bool false]
  have au:=C.more a8 (Nat.le_add_right w.heap.size 2)
  have ce:Off k.maps w (((w.alloc (.cells #[.pointer (some ⟨k.c,0,none⟩)] 78)).alloc (.cells #[.int .i64 (i:Int), .int .i64 (d:Int), .int .i64 (m:Int)] 251)).alloc (.cells #[.slice none 0 0, .bool false] 77)):=Off.of_below a8
  have cm:R.heap.size≤w.heap.size+2:=Nat.le_trans C.base.size (Nat.le_add_right _ _)
  have HS:=LH hS
  have bx:=LH r
  have c9:=LH cb
  have HT:=LH hT
  have Hx:=LH Y
  have HP:=LH hP
  have di:=LH cw
  have da:=LH cc
  have bz:=LH az
  have dh:=LH cs
  have HM:=LH hM
  have c7:=LH bb
  unfold kF
  go_enter Tryz.func201,Tryz.ntmps201
  go_upto_region 1 with fail
  generalize ((w.alloc (.cells #[.pointer (some ⟨k.c,0,none⟩)] 78)).alloc (.cells #[.int .i64 (i:Int), .int .i64 (d:Int), .int .i64 (m:Int)] 251)).alloc (.cells #[.slice none 0 0, .bool false] 77)=t at *
  obtain ⟨fs,hf⟩:=au.forts
  have W:=hf.look (i:=i) (d:=d) (n:=m) Y (by omega) (by omega) (by omega)
  unfold kF at W
  obtain ⟨am,_,_,_,_,bh⟩:=au.cells
  have a3:=LH au
  have a5:=LH ce
  have bj:=LH b2
  have bk:=LH T
  have a2:=LH b4
  have L:=b2.lt
  have N:=T.lt
  have l4:=b4.lt
  have p0:t.cell? ⟨w.heap.size,0,none⟩=some (.pointer (some ⟨k.c,0,none⟩)):=b2.cell 0
  have t0:t.cell? ⟨w.heap.size+1,0,none⟩=some (.int .i64 (i:Int)):=T.cell 0
  have t1:t.cell? ⟨w.heap.size+1,1,none⟩=some (.int .i64 (d:Int)):=T.cell 1
  have O:t.cell? ⟨w.heap.size+1,2,none⟩=some (.int .i64 (m:Int)):=T.cell 2
  clear hP Y cs hM hT cc az r cb hS bb C au ce b2 T b4 a8 hf cw
  rcases W with ⟨bv,W,hv⟩ | W
  · obtain ⟨Av,nv,cv,dv,cj,cz⟩:=hv
    have H:=bl_cell t
    refine wp_region_below (by kernel_rfl) (by kernel_rfl) ?_
    repeat (go_big_quiet_step (fail))
    refine wpQuiet_nil ?_
    rintro _ ⟨y,rfl⟩
    have a:=bl_below t y
    have D:=LH (a3.out.below a)
    have ae:=LH (a5.out.maps_trans (Off.of_below a))
    have g:=a2.out.ext a
    have av:=cj.ext a
    have dd:=LH (cz.below a)
    have aj:=LH (cnt_store (S':=S) D.out g dd.out ae.out (.inr rfl) cm (Nat.le_add_right _ _) fun q A => .inl A)
    have c0:(bl t y).cell? ⟨w.heap.size+2,0,none⟩=some (.slice none 0 0):=g.cell 0
    have c1:(bl t y).cell? ⟨w.heap.size+2,1,none⟩=some (.bool false):=g.cell 1
    have f0:=g.frozen 0
    have f1:=g.frozen 1
    have l5:=g.lt
    have v0:(bl t y).cell? ⟨bv,0,none⟩=some (.slice Av nv cv):=av.cell 0
    have v1:(bl t y).cell? ⟨bv,1,none⟩=some (.bool dv):=av.cell 1
    have l6:=av.lt
    clear W cj cz H a g av p0 t0 t1 O L N l4 D ae
    generalize bl t y=v at *
    go_wp2_with fail
    refine bodyPost_ret (results_cell_row (p:=4) (by kernel_rfl) _ _ (w.heap.size+2) 77 #[.slice Av nv cv, .bool dv] (0,0) _ rfl aj.out.1 Tryz.underlying77 rfl (by kernel_rfl)) rfl ?_
    exact aj.out.2
  · have H:=bl_cell t
    refine wp_region_below (by kernel_rfl) (by kernel_rfl) ?_
    repeat (go_big_quiet_step (fail))
    refine wpQuiet_nil ?_
    rintro _ ⟨y,rfl⟩
    have a:=bl_below t y
    have D:=LH (a3.out.below a)
    have ae:=LH (a5.out.maps_trans (Off.of_below a))
    have u:=bj.out.ext a
    have l:=bk.out.ext a
    have g:=a2.out.ext a
    have bt:=LH u
    have bu:=LH l
    have ah:=LH g
    clear W H a am bh p0 t0 t1 O L N l4 a3 a5 bj bk a2
    generalize bl t y=v at *
    have L:=u.lt
    have N:=l.lt
    have l4:=g.lt
    have p0:v.cell? ⟨w.heap.size,0,none⟩=some (.pointer (some ⟨k.c,0,none⟩)):=u.cell 0
    have t0:v.cell? ⟨w.heap.size+1,0,none⟩=some (.int .i64 (i:Int)):=l.cell 0
    have t1:v.cell? ⟨w.heap.size+1,1,none⟩=some (.int .i64 (d:Int)):=l.cell 1
    have O:v.cell? ⟨w.heap.size+1,2,none⟩=some (.int .i64 (m:Int)):=l.cell 2
    obtain ⟨am,_,c2,_,_,_⟩:=D.out.cells
    rw [dp] at c2
    have a9:=D.out.base
    have dw:rb < v.heap.size:=Nat.lt_of_lt_of_le cq a9.size
    have d7:=(a9.cell (p:=⟨rb,d8+i * 3+1,none⟩) cq).trans q1
    clear u l g a9
    go_upto_region 4 with fail
    have H:=bl_cell v
    refine wp_region_below (by kernel_rfl) (by kernel_rfl) ?_
    repeat (go_big_quiet_step (fail))
    refine wpQuiet_nil ?_
    rintro _ ⟨y,rfl⟩
    have a:=bl_below v y
    have z:=LH (D.out.below a)
    have ap:=LH (ae.out.maps_trans (Off.of_below a))
    have u:=bt.out.ext a
    have l:=bu.out.ext a
    have g:=ah.out.ext a
    have af:=LH u
    have ag:=LH l
    have ai:=LH g
    clear cu H a am c2 p0 t0 t1 O L N l4 D ae bt bu ah d7 dw
    generalize bl v y=W3 at *
    have L:=u.lt
    have N:=l.lt
    have p0:W3.cell? ⟨w.heap.size,0,none⟩=some (.pointer (some ⟨k.c,0,none⟩)):=u.cell 0
    have O:W3.cell? ⟨w.heap.size+1,2,none⟩=some (.int .i64 (m:Int)):=l.cell 2
    have ch:∀ b,(S b∨b=w.heap.size+2)→b < W3.heap.size:=fun b r=>by
     rcases r with r | rfl
     · exact Nat.lt_of_lt_of_le (HS.out b r) ap.out.size
     · exact g.lt
    have CS:=(tr_split HP.out 228 #[.pointer (some ⟨w.heap.size,0,none⟩), .pointer (some ⟨w.heap.size+1,0,none⟩)] enters_crule1 At (cr - d) (o.right.drop d) m W3 z.out ch c7.out da.out (fun s hs=>di.out s (List.mem_of_mem_drop hs)) (by omega) (by omega) (by omega)
     (fun s l' hl j hj=>by
       obtain ⟨A,rfl,ay⟩:=drop_head hl
       exact HT.out s j (fun ct=>⟨InG.rule HP.out.fits bz.out s (List.mem_of_getElem? A) ct,by have:=rule_down HP.out bz.out A ct X bx.out hj dh.out;rw [HM.out] at this;exact this⟩) (by omega))
     (fun s l' hl j hj d0=>by
       obtain ⟨A,rfl,ay⟩:=drop_head hl
       intro S' w' C' dn cd
       exact tr_rule1 o i d m (m - j) _ _ w' C' dn (cd.blk af.out (z.out.not_map af.out)) (cd.blk ag.out (z.out.not_map ag.out)) (c9.out ay (m - j) (by omega) (rule_next HP.out A X (by omega) bx.out d0)) (by omega)))
    rw [List.length_drop] at CS
    have CS:=LH CS
    clear u l g ch
    go_wp2_with fail
    (with_reducible refine CS.out.mono ?_)
    rintro e B ⟨b7,J,P,Z,U,V,rfl,cx⟩
    have I:=alloc_below B (.cells #[.slice P Z U, .bool V] 77)
    have b9:=Blk.new B 77 #[.slice P Z U, .bool V]
    have ba:=b7.below I
    have cf:=(ap.out.maps_trans J).maps_trans (Off.of_below I)
    have u:=(J.blk af.out (z.out.not_map af.out)).ext I
    have l:=(J.blk ag.out (z.out.not_map ag.out)).ext I
    have g:=(J.blk ai.out (z.out.not_map ai.out)).ext I
    have cy:=cx.below I
    have fi:w.heap.size+2 < B.heap.size:=(J.blk ai.out (z.out.not_map ai.out)).lt
    have ds:∀ b,S b→b < B.heap.size:=fun b r=>Nat.lt_of_lt_of_le (HS.out b r) (Nat.le_trans ap.out.size J.size)
    go_upto_region 6 with fail
    generalize B.alloc (.cells #[.slice P Z U, .bool V] 77)=E at *
    have dt:¬ (S B.heap.size∨B.heap.size=w.heap.size+2):=by
     rintro (r | r)
     · exact Nat.lt_irrefl _ (ds _ r)
     · omega
    generalize B.heap.size=g7 at *
    obtain ⟨am,_,_,_,_,bh⟩:=ba.cells
    have L:=u.lt
    have N:=l.lt
    have p0:E.cell? ⟨w.heap.size,0,none⟩=some (.pointer (some ⟨k.c,0,none⟩)):=u.cell 0
    have t0:E.cell? ⟨w.heap.size+1,0,none⟩=some (.int .i64 (i:Int)):=l.cell 0
    have t1:E.cell? ⟨w.heap.size+1,1,none⟩=some (.int .i64 (d:Int)):=l.cell 1
    have O:E.cell? ⟨w.heap.size+1,2,none⟩=some (.int .i64 (m:Int)):=l.cell 2
    have bm:=LH ba
    have bp:=LH cf
    have ah:=LH g
    have bo:=LH b9
    have br:=LH cy
    clear b7 J cx I b9 ba cf u l g cy CS z ap af ag ai
    have H:=bl_cell E
    refine wp_region_below_tail 5 (by kernel_rfl) (by kernel_rfl) ?_
    simp only [List.take_succ_cons,List.take_zero,List.drop_succ_cons,List.drop_zero]
    repeat (go_big_quiet_step (fail))
    refine wpQuiet_nil ?_
    rintro _ ⟨y,rfl⟩
    have a:=bl_below E y
    have ad:=LH (bm.out.below a)
    have db:=LH (bp.out.maps_trans (Off.of_below a))
    have bw:=LH (ah.out.ext a)
    have a4:=LH (bo.out.ext a)
    have bs:=LH (br.out.below a)
    clear a H bm bp ah bo br p0 t0 t1 O am bh L N
    generalize bl E y=W6 at *
    obtain ⟨fe,bd⟩:=ad.out.forts
    have be:GoodK Tryz.prog 251 (kF i d m):=keyOf_kF (by omega) (by omega) (by omega)
    unfold kF at be
    have cl:=bd.few
    have bn:=LH bd
    have df:=LH be
    have de:=LH cl
    clear bd be cl
    go_wp2_with (at_mapUpdate;refine wpl_update _ rfl _ _ _ 139 rfl 248 k.f g7 Tryz.keyKF Tryz.underlying139 bn.out.map de.out (.agg #[.int .i64 (i:Int), .int .i64 (d:Int), .int .i64 (m:Int)]) df.out rfl rfl rfl ?_;intro w7 cp cn
                 obtain ⟨b8,ak⟩:=ad.out.putF bn.out Hx.out (by omega) (by omega) (by omega) ⟨P,Z,U,V,a4.out,bs.out⟩ dt cp cn
                 have F:=ak.blk bw.out (ad.out.not_map bw.out)
                 have G7:=ak.blk a4.out (ad.out.not_map a4.out)
                 have V7:=bs.out.kept (ad.out.keep ak)
                 have aj:=LH (cnt_store (S':=S) b8 F V7 (db.out.maps_trans ak) (.inr rfl) cm (Nat.le_add_right _ _) fun q A => .inl A)
                 have c0:w7.cell? ⟨w.heap.size+2,0,none⟩=some (.slice none 0 0):=F.cell 0
                 have c1:w7.cell? ⟨w.heap.size+2,1,none⟩=some (.bool false):=F.cell 1
                 have f0:=F.frozen 0
                 have f1:=F.frozen 1
                 have l5:=F.lt
                 have v0:w7.cell? ⟨g7,0,none⟩=some (.slice P Z U):=G7.cell 0
                 have v1:w7.cell? ⟨g7,1,none⟩=some (.bool V):=G7.cell 1
                 have l6:=G7.lt
                 clear b8 ak F G7 V7 cp cn)
    refine bodyPost_ret (results_cell_row (p:=4) (by kernel_rfl) _ _ (w.heap.size+2) 77 #[.slice P Z U, .bool V] (0,0) _ rfl aj.out.1 Tryz.underlying77 rfl (by kernel_rfl)) rfl ?_
    exact aj.out.2
 intro c
 induction c with
 | zero =>
   intro d m hc hd X r
   exact step d m hd X r fun ay=>by omega
 | succ c ih =>
   intro d m hc hd X r
   exact step d m hd X r fun ay m' du dq=>ih (d+1) m' (by omega) (by omega) du dq
end Go.Proofs.YtggbjdmpjidhgaaGreatDoor
