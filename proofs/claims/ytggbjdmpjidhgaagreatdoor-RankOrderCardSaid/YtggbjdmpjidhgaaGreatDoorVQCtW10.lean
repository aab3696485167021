/- the program's counter: forest, and how it is made: walked. -/
import Derived.Test.YtggbjdmpjidhgaaGreatDoorVQCtW9
set_option linter.unusedVariables false
set_option linter.unusedSimpArgs false
set_option maxHeartbeats 8000000
set_option maxRecDepth 100000
namespace Go.Proofs.YtggbjdmpjidhgaaGreatDoor
open Go.RowKit
def ForC (a:World) (k:CH) (h:GH) (G:Gr) (Al:Option Addr) (n0 d:Nat) (l:List Int) (n:Nat):Prop:=∀ (S:Nat→Prop) (w:World),CntAt a k h G S w→(∀ b,S b→b < w.heap.size) →
 Calls Tryz.prog 50 #[.pointer (some ⟨k.c,0,none⟩), .slice Al n0 d, .int .i64 (n:Int)] w (CRet a k h G S w (forestT (treeN G) l n))
theorem tr_forest1 {o:World} {k:CH} {h:GH} {G:Gr} {S:Nat→Prop} (s:Int) (d:List Int) (Al:Option Addr) (g m u v:Nat) (X:World) (C:CntAt o k h G S X) (O:∀ b,S b→b < X.heap.size) (H:Blk X u 78 #[.pointer (some ⟨k.c,0,none⟩)]) (I:Blk X v 27 #[.slice Al (d.length+1) g])
 {At:Option Addr} (ag:∀ w:World,(Instr.sliceAt 27 (.slice Al (d.length+1) g) (some (.int .i64 1)) none none).run Tryz.prog w = .ok (.slice At d.length (g - 1)) w) (M:ForC o k h G At d.length (g - 1) d m) :
 Calls Tryz.prog 93 #[.int .i64 (m:Int), .pointer (some ⟨u,0,none⟩), .pointer (some ⟨v,0,none⟩)] X (CRet o k h G S X (forestT (treeN G) d m)):=by
 have j:=alloc_below X (.cells #[.slice none 0 0, .bool false] 77)
 have R:=Blk.new X 77 #[.slice none 0 0, .bool false]
 have J:=C.more j (Nat.le_refl X.heap.size)
 have N:Off k.maps X (X.alloc (.cells #[.slice none 0 0, .bool false] 77)):=Off.of_below j
 have r:=H.ext j
 have t:=I.ext j
 have ae:=C.base.size
 have P:∀ b,(S b∨b=X.heap.size)→b < (X.alloc (.cells #[.slice none 0 0, .bool false] 77)).heap.size:=fun b l=>by
  rw [alloc_size]
  rcases l with l | rfl
  · exact Nat.lt_succ_of_lt (O b l)
  · exact Nat.lt_succ_self _
 go_enter Tryz.func93,Tryz.ntmps93
 go_upto_region 1 with fail
 generalize X.alloc (.cells #[.slice none 0 0, .bool false] 77)=f at *
 have z:=LH J
 have D:=LH R
 have B:=LH N
 have aa:=LH P
 have Y:=LH M
 have l2:=r.lt
 have l3:=t.lt
 have p0:f.cell? ⟨u,0,none⟩=some (.pointer (some ⟨k.c,0,none⟩)):=r.cell 0
 have t0:f.cell? ⟨v,0,none⟩=some (.slice Al (d.length+1) g):=t.cell 0
 clear C H I r t J R N j M O P
 have bc:=bl_cell f
 refine wp_region_below_tail 4 (by kernel_rfl) (by kernel_rfl) ?_
 simp only [List.take_succ_cons,List.take_zero,List.drop_succ_cons,List.drop_zero]
 repeat (go_big_quiet_step (fail))
 refine wpQuiet_nil ?_
 rintro _ ⟨y,rfl⟩
 have n:=bl_below f y
 have A:=LH (z.out.below n)
 have Z:=LH (B.out.maps_trans (Off.of_below n))
 have E:=LH (D.out.ext n)
 have W:=LH (Y.out _ _ A.out fun b l=>Nat.lt_of_lt_of_le (aa.out b l) n.size)
 clear ag bc n p0 t0 l2 l3 z B D
 generalize bl f y=W2 at *
 go_wp2_with (
  go_at_call 50
  (with_reducible refine W.out.mono ?_)
  rintro e U ⟨L,x,V,n2,c2,d2,rfl,T⟩
  have a:=x.blk E.out (A.out.not_map E.out)
  have F:=LH (cnt_store (S':=S) L a T (Z.out.maps_trans x) (.inr rfl) ae (Nat.le_refl _) fun q hq => .inl hq)
  have c0:U.cell? ⟨X.heap.size,0,none⟩=some (.slice none 0 0):=a.cell 0
  have c1:U.cell? ⟨X.heap.size,1,none⟩=some (.bool false):=a.cell 1
  have f0:=a.frozen 0
  have f1:=a.frozen 1
  have l4:=a.lt
  clear L x T a)
 refine bodyPost_ret (results_cell_row (p:=4) (by kernel_rfl) _ _ X.heap.size 77 #[.slice V n2 c2, .bool d2] (0,0) _ rfl F.out.1 Tryz.underlying77 rfl (by kernel_rfl)) rfl ?_
 exact F.out.2
theorem tr_forest {B:World} {k:CH} {h:GH} {G:Gr} (J:Plain G) (hg:GrAt B h G) (h2:h.n2≤100) (h3:h.n3≤100):∀ (l:List Int) (Al:Option Addr) (a n:Nat),Ints .i64 B Al l.length a l→(∀ s ∈ l,-(h.n2:Int)≤s∧s≤1000)→l.length≤100→n≤100→ForC B k h G Al l.length a l n:=by
 have e2:G.nons.length=h.n2:=hg.nons.len
 have U:(nullN G).length=h.n2:=by rw [nullN_grown,grownN_len];exact e2
 have V:∀ (s:Int) (i:Nat),(s < 0→nonI s < G.nons.length)→i≤100→TreeC B k h G s i:=fun s i z hi=>tr_tree J hg h2 h3 _ i s (fun h0=>⟨z h0,rfl⟩) hi
 intro l
 induction l with
 | nil =>
   intro Al a n N z a1 hn S w C L
   obtain ⟨r,j,m,o⟩:=three_blks w 78 27 77 #[.pointer (some ⟨k.c,0,none⟩)] #[.slice Al 0 a] #[.slice none 0 0, .bool false]
   have t:=C.more r (Nat.le_add_right w.heap.size 2)
   have u:Off k.maps w (((w.alloc (.cells #[.pointer (some ⟨k.c,0,none⟩)] 78)).alloc (.cells #[.slice Al 0 a] 27)).alloc (.cells #[.slice none 0 0, .bool false] 77)):=Off.of_below r
   have ah:B.heap.size≤w.heap.size+2:=Nat.le_trans C.base.size (Nat.le_add_right _ _)
   have HS:=LH L
   have T:=LH N
   have A:=LH z
   have HT:=LH V
   have HP:=LH J
   have Z:=LH U
   rw [List.length_nil] at *
   go_enter Tryz.func50,Tryz.ntmps50
   go_upto_region 1 with fail
   generalize ((w.alloc (.cells #[.pointer (some ⟨k.c,0,none⟩)] 78)).alloc (.cells #[.slice Al 0 a] 27)).alloc (.cells #[.slice none 0 0, .bool false] 77)=g at *
   have F:=LH t
   have aa:=LH u
   have X:=LH j
   have Y:=LH m
   have E:=LH o
   have l2:=j.lt
   have l3:=m.lt
   have p0:g.cell? ⟨w.heap.size,0,none⟩=some (.pointer (some ⟨k.c,0,none⟩)):=j.cell 0
   have t0:g.cell? ⟨w.heap.size+1,0,none⟩=some (.slice Al 0 a):=m.cell 0
   have M:∀ b,(S b∨b=w.heap.size+2)→b < g.heap.size:=fun b x=>by
    rcases x with x | rfl
    · exact Nat.lt_of_lt_of_le (HS.out b x) u.size
    · exact o.lt
   have f:=tr_split HP.out 93 #[.pointer (some ⟨w.heap.size,0,none⟩), .pointer (some ⟨w.heap.size+1,0,none⟩)] enters_cforest1 Al a [] n g t M T.out Z.out A.out (by omega) (by simp;try omega) hn
    (fun s aj y i hi=>HT.out s i (fun h0=>by have:=(A.out s (by rw [y];exact List.mem_cons_self ..)).1;unfold nonI;omega) (by omega))
    (fun s aj y=>by cases y)
   rw [List.length_nil] at f
   have f:=LH f
   clear J N z L C t u j m o r M V U
   go_wp2_with fail
   (with_reducible refine f.out.mono ?_)
   rintro e R ⟨I,v,W,n4,c4,d4,rfl,P⟩
   have d:=v.blk E.out (F.out.not_map E.out)
   have H:=LH (cnt_store (S':=S) I d P (aa.out.maps_trans v) (.inr rfl) ah (Nat.le_add_right _ _) fun q O => .inl O)
   have c0:R.cell? ⟨w.heap.size+2,0,none⟩=some (.slice none 0 0):=d.cell 0
   have c1:R.cell? ⟨w.heap.size+2,1,none⟩=some (.bool false):=d.cell 1
   have f0:=d.frozen 0
   have f1:=d.frozen 1
   have l5:=d.lt
   clear I v d P p0 t0 l2 l3
   go_wp2_with fail
   refine bodyPost_ret (results_cell_row (p:=6) (by kernel_rfl) _ _ (w.heap.size+2) 77 #[.slice W n4 c4, .bool d4] (0,0) _ rfl H.out.1 Tryz.underlying77 rfl (by kernel_rfl)) rfl ?_
   exact H.out.2
 | cons s0 D ih =>
   intro Al a n N z a1 hn S w C L
   obtain ⟨r,j,m,o⟩:=three_blks w 78 27 77 #[.pointer (some ⟨k.c,0,none⟩)] #[.slice Al (D.length+1) a] #[.slice none 0 0, .bool false]
   have t:=C.more r (Nat.le_add_right w.heap.size 2)
   have u:Off k.maps w (((w.alloc (.cells #[.pointer (some ⟨k.c,0,none⟩)] 78)).alloc (.cells #[.slice Al (D.length+1) a] 27)).alloc (.cells #[.slice none 0 0, .bool false] 77)):=Off.of_below r
   have ah:B.heap.size≤w.heap.size+2:=Nat.le_trans C.base.size (Nat.le_add_right _ _)
   have HS:=LH L
   have T:=LH N
   have A:=LH z
   have HT:=LH V
   have HP:=LH J
   have Z:=LH U
   have au:=LH ih
   rw [List.length_cons] at *
   go_enter Tryz.func50,Tryz.ntmps50
   go_upto_region 1 with fail
   generalize ((w.alloc (.cells #[.pointer (some ⟨k.c,0,none⟩)] 78)).alloc (.cells #[.slice Al (D.length+1) a] 27)).alloc (.cells #[.slice none 0 0, .bool false] 77)=g at *
   have F:=LH t
   have aa:=LH u
   have X:=LH j
   have Y:=LH m
   have E:=LH o
   have l2:=j.lt
   have l3:=m.lt
   have p0:g.cell? ⟨w.heap.size,0,none⟩=some (.pointer (some ⟨k.c,0,none⟩)):=j.cell 0
   have t0:g.cell? ⟨w.heap.size+1,0,none⟩=some (.slice Al (D.length+1) a):=m.cell 0
   have M:∀ b,(S b∨b=w.heap.size+2)→b < g.heap.size:=fun b x=>by
    rcases x with x | rfl
    · exact Nat.lt_of_lt_of_le (HS.out b x) u.size
    · exact o.lt
   have f:=tr_split HP.out 93 #[.pointer (some ⟨w.heap.size,0,none⟩), .pointer (some ⟨w.heap.size+1,0,none⟩)] enters_cforest1 Al a (s0::D) n g t M T.out Z.out A.out (by omega) (by simp;try omega) hn
    (fun s aj y i hi=>HT.out s i (fun h0=>by have:=(A.out s (by rw [y];exact List.mem_cons_self ..)).1;unfold nonI;omega) (by omega))
    (fun s aj y i hi hx=>by
      injection y with he1 he2
      subst he1
      subst he2
      intro S' w' C' a0 ao
      obtain ⟨At,aq,an⟩:=slice_from T.out (i:=1) (by omega)
      rw [Nat.add_sub_cancel] at aq an
      exact tr_forest1 s0 D Al a (n - i) _ _ w' C' a0 (ao.blk X.out (F.out.not_map X.out)) (ao.blk Y.out (F.out.not_map Y.out)) aq (au.out At (a - 1) (n - i) an (fun q O=>A.out q (List.mem_cons_of_mem _ O)) (by omega) (by omega)))
   rw [List.length_cons] at f
   have f:=LH f
   clear J N z L C t u j m o r M V U
   go_wp2_with fail
   (with_reducible refine f.out.mono ?_)
   rintro e R ⟨I,v,W,n4,c4,d4,rfl,P⟩
   have d:=v.blk E.out (F.out.not_map E.out)
   have H:=LH (cnt_store (S':=S) I d P (aa.out.maps_trans v) (.inr rfl) ah (Nat.le_add_right _ _) fun q O => .inl O)
   have c0:R.cell? ⟨w.heap.size+2,0,none⟩=some (.slice none 0 0):=d.cell 0
   have c1:R.cell? ⟨w.heap.size+2,1,none⟩=some (.bool false):=d.cell 1
   have f0:=d.frozen 0
   have f1:=d.frozen 1
   have l5:=d.lt
   clear I v d P p0 t0 l2 l3
   go_wp2_with fail
   refine bodyPost_ret (results_cell_row (p:=6) (by kernel_rfl) _ _ (w.heap.size+2) 77 #[.slice W n4 c4, .bool d4] (0,0) _ rfl H.out.1 Tryz.underlying77 rfl (by kernel_rfl)) rfl ?_
   exact H.out.2
def RetStart (h:GH) (G:Gr) (w:World) (e:Ending) (w':World):Prop:=Below w.heap.size w w'∧∃ k:CH,e = .returned (.pointer (some ⟨k.c,0,none⟩))∧CntAt w k h G (fun _=>False) w'
theorem cnt_new {b w:World} {k:CH} {h:GH} {G:Gr} (q:Below b.heap.size b w) (h1:Blk w k.c 141 #[.slice h.a1 h.n1 h.c1, .slice h.a2 h.n2 h.c2, .slice h.a3 h.n3 h.c3, .int .i64 G.start, .slice (some ⟨k.n,0,none⟩) h.n2 h.n2, .map (some k.t), .map (some k.f)])
 (d:BoolT w k.n (nullN G)) (g:PlcM Tryz.prog 247 w k.t []) (j:PlcM Tryz.prog 251 w k.f []) (l:k.t ≠ k.f) (m:b.heap.size≤k.t) (o:b.heap.size≤k.f):CntAt b k h G (fun _=>False) w :=
 ⟨q,h1,d,⟨m,o⟩,l,⟨[],⟨g,fun p a=>(by cases a),fun p a=>(by cases a)⟩⟩,⟨[],⟨j,fun p a=>(by cases a),fun p a=>(by cases a)⟩⟩⟩
theorem tr_start (h:GH) (G:Gr) (w:World) (hg:GrAt w h G) (hs:∀ t ∈ G.terms,t.name.size≤maxLen) (h1:h.n1≤100) (z:h.n2≤100) (h3:h.n3≤100) (hr:G.right=true) :
 Calls Tryz.prog 49 #[GV h G.start] w (RetStart h G w):=by
 obtain ⟨a1,n1,c1,a2,n2,c2,a3,n3,c3⟩:=h
 simp only [] at h1 z h3
 have Hg:=LH hg
 have Hs:=LH hs
 have aq:=alloc_below w (.cells #[.slice a1 n1 c1, .slice a2 n2 c2, .slice a3 n3 c3, .int .i64 G.start] 26)
 have av:=GBox.new w 26 ⟨a1,n1,c1,a2,n2,c2,a3,n3,c3⟩ G.start
 clear hg hs
 go_enter Tryz.func49,Tryz.ntmps49
 go_upto_region 1 with fail
 generalize w.alloc (.cells #[.slice a1 n1 c1, .slice a2 n2 c2, .slice a3 n3 c3, .int .i64 G.start] 26)=S at *
 have ⟨z5,z0,z1,z2,z3⟩:=av
 simp only [] at z0 z1 z2 z3
 have Z:=LH aq
 have Hr:=LH hr
 have b5:=@run_makeMap Tryz.prog
 clear av aq hr
 refine wp_region_invU (fun listed a X=>∃ bb0 bb1 bb2 bb3 u o l g:Bool,∃ u3 u4 u5 u6 u7 u8 u9 u2:Value,listed=#[bb0,bb1,bb2,bb3,u,o,l,g]∧a=(⟨(GV ⟨a1,n1,c1,a2,n2,c2,a3,n3,c3⟩ G.start::Value.pointer (some ⟨w.heap.size,0,none⟩)::u2::u3::u4::u5::u6::u7::u8::u9::[]).toArray,[]⟩:Act)∧(g=false→Below S.heap.size S X)∧(g=true→∃ k:CH,u2=Value.pointer (some ⟨k.c,0,none⟩)∧Below w.heap.size w X∧CntAt w k ⟨a1,n1,c1,a2,n2,c2,a3,n3,c3⟩ G (fun _=>False) X)∧(bb0=true→u3=Value.agg #[Value.slice a1 n1 c1,Value.slice a2 n2 c2,Value.slice a3 n3 c3,Value.int .i64 G.start])∧(bb1=true→u4=Value.agg #[Value.slice a1 n1 c1,Value.slice a2 n2 c2,Value.slice a3 n3 c3,Value.int .i64 G.start])∧(bb2=true→g=false→∃ j,u5=Value.slice (some ⟨j,0,none⟩) n2 n2∧S.heap.size≤j∧BoolT X j (nullN G))∧(bb3=true→g=false→∃ j,u6=Value.map (some j)∧S.heap.size≤j∧PlcM Tryz.prog 247 X j []∧(u=true→u6 ≠ u7))∧(u=true→g=false→∃ j,u7=Value.map (some j)∧S.heap.size≤j∧PlcM Tryz.prog 251 X j [])∧(o=true→g=false→∃ T L M,u8=Value.agg #[Value.slice a1 n1 c1,Value.slice a2 n2 c2,Value.slice a3 n3 c3,Value.int .i64 G.start,Value.slice (some ⟨T,0,none⟩) n2 n2,Value.map (some L),Value.map (some M)]∧S.heap.size≤T∧S.heap.size≤L∧S.heap.size≤M∧BoolT X T (nullN G)∧PlcM Tryz.prog 247 X L []∧PlcM Tryz.prog 251 X M []∧L ≠ M)∧(l=true→g=false→∃ k:CH,u9=Value.pointer (some ⟨k.c,0,none⟩)∧Blk X k.c 141 #[Value.slice a1 n1 c1,Value.slice a2 n2 c2,Value.slice a3 n3 c3,Value.int .i64 G.start,Value.slice (some ⟨k.n,0,none⟩) n2 n2,Value.map (some k.t),Value.map (some k.f)]∧BoolT X k.n (nullN G)∧PlcM Tryz.prog 247 X k.t []∧PlcM Tryz.prog 251 X k.f []∧k.t ≠ k.f∧S.heap.size≤k.t∧S.heap.size≤k.f)∧(bb2=true→bb1=true)∧(o=true→bb0=true∧bb2=true∧bb3=true∧u=true)∧(l=true→o=true)∧(g=true→l=true)) (by kernel_rfl) (by kernel_rfl) ?_ ?_ ?_
 · exact ⟨false,false,false,false,false,false,false,false,undef,undef,undef,undef,undef,undef,undef,(Value.pointer none),rfl,rfl,fun _=>(Below.refl _ _).drew,nofun,nofun,nofun,nofun,nofun,nofun,nofun,nofun,nofun,nofun,nofun,nofun⟩
 · refine StepsU.cons rfl (fun Q listed a X B s v KK C=>?_) ?_
   · obtain ⟨bb0,bb1,bb2,bb3,u,o,l,g,u3,u4,u5,u6,u7,u8,u9,u2,rfl,rfl,x,D,r⟩:=B
     have b:=LH r
     clear r
     have b0:bb0=false:=s
     have q:g=false:=by cases h:g with | false=>rfl | true=>exact absurd (((b.out.2.2.2.2.2.2.2.2.1 ((b.out.2.2.2.2.2.2.2.2.2.1 ((b.out.2.2.2.2.2.2.2.2.2.2 h)))))).1) (by rw [b0];exact Bool.false_ne_true)
     have m:=x q
     have bh:=(m.cell (p:=⟨w.heap.size,0,none⟩) z5).trans z0
     have bi:=(m.cell (p:=⟨w.heap.size,1,none⟩) z5).trans z1
     have bj:=(m.cell (p:=⟨w.heap.size,2,none⟩) z5).trans z2
     have bk:=(m.cell (p:=⟨w.heap.size,3,none⟩) z5).trans z3
     have bz:=Nat.lt_of_lt_of_le z5 m.size
     clear s v
     go_simp
     obtain ⟨F,H,I,J,E,U,V,P,y,R,O⟩:=b.out
     exact C _ _ ⟨true,bb1,bb2,bb3,u,o,l,g,_,u4,u5,u6,u7,u8,u9,u2,rfl,rfl,x,D,fun _=>rfl,H,I,J,E,U,V,P,fun h=>⟨rfl,(((y h)).2).1,((((y h)).2).2).1,((((y h)).2).2).2⟩,R,O⟩
   refine StepsU.cons rfl (fun Q listed a X B s v KK C=>?_) ?_
   · obtain ⟨bb0,bb1,bb2,bb3,u,o,l,g,u3,u4,u5,u6,u7,u8,u9,u2,rfl,rfl,x,D,r⟩:=B
     have b:=LH r
     clear r
     have b1:bb1=false:=s
     have q:g=false:=by cases h:g with | false=>rfl | true=>exact absurd ((b.out.2.2.2.2.2.2.2.1 ((((b.out.2.2.2.2.2.2.2.2.1 ((b.out.2.2.2.2.2.2.2.2.2.1 ((b.out.2.2.2.2.2.2.2.2.2.2 h)))))).2).1))) (by rw [b1];exact Bool.false_ne_true)
     have m:=x q
     have bh:=(m.cell (p:=⟨w.heap.size,0,none⟩) z5).trans z0
     have bi:=(m.cell (p:=⟨w.heap.size,1,none⟩) z5).trans z1
     have bj:=(m.cell (p:=⟨w.heap.size,2,none⟩) z5).trans z2
     have bk:=(m.cell (p:=⟨w.heap.size,3,none⟩) z5).trans z3
     have bz:=Nat.lt_of_lt_of_le z5 m.size
     clear s v
     go_simp
     obtain ⟨F,H,I,J,E,U,V,P,y,R,O⟩:=b.out
     exact C _ _ ⟨bb0,true,bb2,bb3,u,o,l,g,u3,_,u5,u6,u7,u8,u9,u2,rfl,rfl,x,D,F,fun _=>rfl,I,J,E,U,V,fun h=>rfl,y,R,O⟩
   refine StepsU.cons rfl (fun Q listed a X B s v KK C=>?_) ?_
   · obtain ⟨bb0,bb1,bb2,bb3,u,o,l,g,u3,u4,u5,u6,u7,u8,u9,u2,rfl,rfl,x,D,r⟩:=B
     have b:=LH r
     clear r
     have am:bb2=false:=s
     have a6:bb1=true:=v ⟨1, .data⟩ (by simp) rfl
     have q:g=false:=by cases h:g with | false=>rfl | true=>exact absurd ((((b.out.2.2.2.2.2.2.2.2.1 ((b.out.2.2.2.2.2.2.2.2.2.1 ((b.out.2.2.2.2.2.2.2.2.2.2 h)))))).2).1) (by rw [am];exact Bool.false_ne_true)
     have m:=x q
     obtain rfl:=b.out.2.1 a6
     have Y:o=true→False:=fun h=>absurd ((((b.out.2.2.2.2.2.2.2.2.1 h)).2).1) (by rw [am];exact Bool.false_ne_true)
     have W:l=true→False:=fun h=>absurd ((((b.out.2.2.2.2.2.2.2.2.1 ((b.out.2.2.2.2.2.2.2.2.2.1 h)))).2).1) (by rw [am];exact Bool.false_ne_true)
     have br:=Hg.out.below (below_tail Z.out m)
     clear s v
     go_simp
     (with_reducible refine (tr_Nullable ⟨a1,n1,c1,a2,n2,c2,a3,n3,c3⟩ G X br Hs.out (by simp only [];omega) (by simp only [];omega) (by simp only [];omega)).mono ?_)
     rintro e w5 ⟨ai,⟨ay,_⟩ | ⟨_,gn,bs,rfl,bp⟩⟩
     · rw [Hr.out] at ay;cases ay
     go_simp
     obtain ⟨F,H,I,J,E,U,V,P,y,R,O⟩:=b.out
     exact C _ _ ⟨bb0,bb1,true,bb3,u,o,l,g,u3,_,_,u6,u7,u8,u9,u2,rfl,rfl,fun _=>below_tail m ai,fun h=>absurd h (by rw [q];exact Bool.false_ne_true),F,H,fun _ _=>⟨gn,rfl,Nat.le_trans m.size bs,bp⟩,fun h1 z=>(J h1 z).elim fun j d=>⟨j,d.1,d.2.1,d.2.2.1.below ai,d.2.2.2⟩,fun h1 z=>(E h1 z).elim fun j d=>⟨j,d.1,d.2.1,d.2.2.below ai⟩,fun h=>(Y h).elim,fun h=>(W h).elim,fun _=>a6,fun h=>⟨((y h)).1,rfl,((((y h)).2).2).1,((((y h)).2).2).2⟩,R,O⟩
   refine StepsU.cons rfl (fun Q listed a X B s v KK C=>?_) ?_
   · obtain ⟨bb0,bb1,bb2,bb3,u,o,l,g,u3,u4,u5,u6,u7,u8,u9,u2,rfl,rfl,x,D,r⟩:=B
     have b:=LH r
     clear r
     have an:bb3=false:=s
     have q:g=false:=by cases h:g with | false=>rfl | true=>exact absurd (((((b.out.2.2.2.2.2.2.2.2.1 ((b.out.2.2.2.2.2.2.2.2.2.1 ((b.out.2.2.2.2.2.2.2.2.2.2 h)))))).2).2).1) (by rw [an];exact Bool.false_ne_true)
     have m:=x q
     have Y:o=true→False:=fun h=>absurd (((((b.out.2.2.2.2.2.2.2.2.1 h)).2).2).1) (by rw [an];exact Bool.false_ne_true)
     have W:l=true→False:=fun h=>absurd (((((b.out.2.2.2.2.2.2.2.2.1 ((b.out.2.2.2.2.2.2.2.2.2.1 h)))).2).2).1) (by rw [an];exact Bool.false_ne_true)
     have A:=alloc_below X (.map #[] 0)
     have aj:=PlcM.made X Tryz.prog 247
     clear s v
     go_simp
     obtain ⟨F,H,I,J,E,U,V,P,y,R,O⟩:=b.out
     exact C _ _ ⟨bb0,bb1,bb2,true,u,o,l,g,u3,u4,u5,_,u7,u8,u9,u2,rfl,rfl,fun _=>below_tail m A,fun h=>absurd h (by rw [q];exact Bool.false_ne_true),F,H,fun h1 z=>(I h1 z).elim fun j d=>⟨j,d.1,d.2.1,Blk.ext d.2.2 A⟩,fun _ _=>⟨X.heap.size,rfl,m.size,aj,fun h4 N=>(E h4 q).elim fun j d=>by rw [d.1] at N;injection N with N;injection N with N;have:=d.2.2.lt;omega⟩,fun h1 z=>(E h1 z).elim fun j d=>⟨j,d.1,d.2.1,d.2.2.below A⟩,fun h=>(Y h).elim,fun h=>(W h).elim,P,fun h=>⟨((y h)).1,(((y h)).2).1,rfl,((((y h)).2).2).2⟩,R,O⟩
   refine StepsU.cons rfl (fun Q listed a X B s v KK C=>?_) ?_
   · obtain ⟨bb0,bb1,bb2,bb3,u,o,l,g,u3,u4,u5,u6,u7,u8,u9,u2,rfl,rfl,x,D,r⟩:=B
     have b:=LH r
     clear r
     have ao:u=false:=s
     have q:g=false:=by cases h:g with | false=>rfl | true=>exact absurd (((((b.out.2.2.2.2.2.2.2.2.1 ((b.out.2.2.2.2.2.2.2.2.2.1 ((b.out.2.2.2.2.2.2.2.2.2.2 h)))))).2).2).2) (by rw [ao];exact Bool.false_ne_true)
     have m:=x q
     have Y:o=true→False:=fun h=>absurd (((((b.out.2.2.2.2.2.2.2.2.1 h)).2).2).2) (by rw [ao];exact Bool.false_ne_true)
     have W:l=true→False:=fun h=>absurd (((((b.out.2.2.2.2.2.2.2.2.1 ((b.out.2.2.2.2.2.2.2.2.2.1 h)))).2).2).2) (by rw [ao];exact Bool.false_ne_true)
     have A:=alloc_below X (.map #[] 0)
     have aj:=PlcM.made X Tryz.prog 251
     clear s v
     go_simp
     obtain ⟨F,H,I,J,E,U,V,P,y,R,O⟩:=b.out
     exact C _ _ ⟨bb0,bb1,bb2,bb3,true,o,l,g,u3,u4,u5,u6,_,u8,u9,u2,rfl,rfl,fun _=>below_tail m A,fun h=>absurd h (by rw [q];exact Bool.false_ne_true),F,H,fun h1 z=>(I h1 z).elim fun j d=>⟨j,d.1,d.2.1,Blk.ext d.2.2 A⟩,fun h1 z=>(J h1 z).elim fun j d=>⟨j,d.1,d.2.1,d.2.2.1.below A,fun _ N=>by rw [d.1] at N;injection N with N;injection N with N;have:=d.2.2.1.lt;omega⟩,fun _ _=>⟨X.heap.size,rfl,m.size,aj⟩,fun h=>(Y h).elim,fun h=>(W h).elim,P,fun h=>⟨((y h)).1,(((y h)).2).1,((((y h)).2).2).1,rfl⟩,R,O⟩
   refine StepsU.cons rfl (fun Q listed a X B s v KK C=>?_) ?_
   · obtain ⟨bb0,bb1,bb2,bb3,u,o,l,g,u3,u4,u5,u6,u7,u8,u9,u2,rfl,rfl,x,D,r⟩:=B
     have b:=LH r
     clear r
     have a4:o=false:=s
     have a5:bb0=true:=v ⟨0, .data⟩ (by simp) rfl
     have a7:bb2=true:=v ⟨2, .data⟩ (by simp) rfl
     have a8:bb3=true:=v ⟨3, .data⟩ (by simp) rfl
     have ap:u=true:=v ⟨4, .data⟩ (by simp) rfl
     have q:g=false:=by cases h:g with | false=>rfl | true=>exact absurd ((b.out.2.2.2.2.2.2.2.2.2.1 ((b.out.2.2.2.2.2.2.2.2.2.2 h)))) (by rw [a4];exact Bool.false_ne_true)
     have m:=x q
     obtain rfl:=b.out.1 a5
     obtain ⟨T,rfl,ak,aa⟩:=b.out.2.2.1 a7 q
     obtain ⟨L,rfl,ab,ag,bx⟩:=b.out.2.2.2.1 a8 q
     obtain ⟨M,rfl,ad,ah⟩:=b.out.2.2.2.2.1 ap q
     have W:l=true→False:=fun h=>absurd ((b.out.2.2.2.2.2.2.2.2.2.1 h)) (by rw [a4];exact Bool.false_ne_true)
     clear s v
     go_simp
     obtain ⟨F,H,I,J,E,U,V,P,y,R,O⟩:=b.out
     exact C _ _ ⟨bb0,bb1,bb2,bb3,u,true,l,g,_,u4,_,_,_,_,u9,u2,rfl,rfl,x,D,F,H,I,J,E,fun _ _=>⟨T,L,M,rfl,ak,ab,ad,aa,ag,ah,fun e=>bx ap (by rw [e])⟩,fun h=>(W h).elim,P,fun _=>⟨a5,a7,a8,ap⟩,fun h=>rfl,O⟩
   refine StepsU.cons rfl (fun Q listed a X B s v KK C=>?_) ?_
   · obtain ⟨bb0,bb1,bb2,bb3,u,o,l,g,u3,u4,u5,u6,u7,u8,u9,u2,rfl,rfl,x,D,r⟩:=B
     have b:=LH r
     clear r
     have b2:l=false:=s
     have a9:o=true:=v ⟨5, .data⟩ (by simp) rfl
     have q:g=false:=by cases h:g with | false=>rfl | true=>exact absurd ((b.out.2.2.2.2.2.2.2.2.2.2 h)) (by rw [b2];exact Bool.false_ne_true)
     have m:=x q
     obtain ⟨T,L,M,rfl,ak,ab,ad,aa,ag,ah,ax⟩:=b.out.2.2.2.2.2.1 a9 q
     have A:=alloc_below X (.cells #[Value.slice a1 n1 c1,Value.slice a2 n2 c2,Value.slice a3 n3 c3,Value.int .i64 G.start,Value.slice (some ⟨T,0,none⟩) n2 n2,Value.map (some L),Value.map (some M)] 141)
     have bo:=Blk.new X 141 #[Value.slice a1 n1 c1,Value.slice a2 n2 c2,Value.slice a3 n3 c3,Value.int .i64 G.start,Value.slice (some ⟨T,0,none⟩) n2 n2,Value.map (some L),Value.map (some M)]
     clear s v
     go_simp
     obtain ⟨F,H,I,J,E,U,V,P,y,R⟩:=b.out
     exact C _ _ ⟨bb0,bb1,bb2,bb3,u,o,true,g,u3,u4,u5,u6,u7,_,_,u2,rfl,rfl,fun _=>below_tail m A,fun h=>absurd h (by rw [q];exact Bool.false_ne_true),F,H,fun h1 z=>(I h1 z).elim fun j d=>⟨j,d.1,d.2.1,Blk.ext d.2.2 A⟩,fun h1 z=>(J h1 z).elim fun j d=>⟨j,d.1,d.2.1,d.2.2.1.below A,d.2.2.2⟩,fun h1 z=>(E h1 z).elim fun j d=>⟨j,d.1,d.2.1,d.2.2.below A⟩,fun _ _=>⟨T,L,M,rfl,ak,ab,ad,Blk.ext aa A,ag.below A,ah.below A,ax⟩,fun _ _=>⟨⟨X.heap.size,T,L,M⟩,rfl,bo,Blk.ext aa A,ag.below A,ah.below A,ax,ab,ad⟩,P,y,fun _=>a9,fun h=>rfl⟩
   refine StepsU.cons rfl (fun Q listed a X B s v KK C=>?_) ?_
   · obtain ⟨bb0,bb1,bb2,bb3,u,o,l,g,u3,u4,u5,u6,u7,u8,u9,u2,rfl,rfl,x,D,r⟩:=B
     have b:=LH r
     clear r
     have b3:g=false:=s
     have ba:l=true:=v ⟨6, .data⟩ (by simp) rfl
     have q:g=false:=b3
     have m:=x q
     obtain ⟨k,rfl,al,ae,af,bt,bu,bv,bw⟩:=b.out.2.2.2.2.2.2.1 ba q
     have ar:=below_tail Z.out m
     have bb:=LH (And.intro ar (cnt_new (h:=⟨a1,n1,c1,a2,n2,c2,a3,n3,c3⟩) ar al ae af bt bu (Nat.le_trans Z.out.size bv) (Nat.le_trans Z.out.size bw)))
     clear s v
     go_simp
     exact C _ _ ⟨bb0,bb1,bb2,bb3,u,o,l,true,u3,u4,u5,u6,u7,u8,_,_,rfl,rfl,nofun,fun _=>⟨k,rfl,bb.out⟩,b.out.1,b.out.2.1,fun _=>nofun,fun _=>nofun,fun _=>nofun,fun _=>nofun,fun _=>nofun,b.out.2.2.2.2.2.2.2.1,b.out.2.2.2.2.2.2.2.2.1,b.out.2.2.2.2.2.2.2.2.2.1,fun _=>ba⟩
   exact StepsU.nil
 rintro listed a W9 ⟨bb0,bb1,bb2,bb3,u,o,l,g,u3,u4,u5,u6,u7,u8,u9,u2,rfl,rfl,x,D,b⟩ au
 have bq:=D (au 7 (by decide))
 clear x D au b
 obtain ⟨k,al,ae,af⟩:=bq
 subst al
 have bd:=LH ae
 have be:=LH af
 clear ae af
 go_wp2_with fail
 go_ret
 exact ⟨bd.out,k,rfl,be.out⟩
end Go.Proofs.YtggbjdmpjidhgaaGreatDoor
