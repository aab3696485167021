/- the program's counter: split, walked. -/
import Derived.Test.YtggbjdmpjidhgaaGreatDoorVQCtW5
set_option linter.unusedVariables false
set_option linter.unusedSimpArgs false
set_option maxHeartbeats 8000000
set_option maxRecDepth 100000
namespace Go.Proofs.YtggbjdmpjidhgaaGreatDoor
open Go.RowKit
def MidC (a:World) (k:CH) (h:GH) (G:Gr) (S:Nat→Prop) (b X:World):Prop:=CntAt a k h G S X∧Off k.maps b X
theorem Off.maps_trans {k:CH} {a b c:World} (x:Off k.maps a b) (y:Off k.maps b c):Off k.maps a c:=x.trans y fun _ _ h=>h
theorem Off.maps_new {k:CH} {a b c:World} {g:Nat} (x:Off k.maps a b) (y:Off (fun q=>q=g) b c) (d:a.heap.size≤g):Off k.maps a c:=x.trans y fun q f h=>by omega
theorem CntAt.apart {d w:World} {k:CH} {h:GH} {G:Gr} {S:Nat→Prop} (C:CntAt d k h G S w) {g:Nat} {cs:Array Value} (a:Blk w g 77 cs):g ≠ k.c∧g ≠ k.n∧g ≠ k.t∧g ≠ k.f:=by
 have b:=C.not_map a
 refine ⟨?_,?_,fun e=>b (.inl e),fun e=>b (.inr e)⟩
 · rintro rfl
   have h1:=C.box
   unfold Blk at h1 a
   rw [h1] at a
   injection a with a
   injection a with _ h3 _
   exact absurd h3 (by decide)
 · rintro rfl
   have h1:=C.nul
   unfold BoolT Blk at h1
   unfold Blk at a
   rw [h1] at a
   injection a with a
   injection a with _ h3 _
   exact absurd h3 (by decide)
theorem CntAt.store0 {a w:World} {k:CH} {h:GH} {G:Gr} {S:Nat→Prop} (C:CntAt a k h G S w) {g:Nat} {m:Option Addr} {ns cs:Nat} {j:Bool} (b:Blk w g 77 #[.slice m ns cs, .bool j]) (o:S g) (p:a.heap.size≤g) (A:Option Addr) (n c:Nat) :
 CntAt a k h G S (w.setCell ⟨g,0,none⟩ (.slice A n c))∧Off (fun q=>q=g) w (w.setCell ⟨g,0,none⟩ (.slice A n c))∧IntKeep w (w.setCell ⟨g,0,none⟩ (.slice A n c))∧Blk (w.setCell ⟨g,0,none⟩ (.slice A n c)) g 77 #[.slice A n c, .bool j]:=by
 have d:=Off.of_set w g 0 (.slice A n c)
 have l:IntKeep w (w.setCell ⟨g,0,none⟩ (.slice A n c)):=IntKeep.of_off d fun q f=>by rw [f];exact cell_noInt b
 refine ⟨C.move d l fun q f=>?_,d,l,b.set 0 _⟩
 subst f
 exact ⟨o,p,C.apart b⟩
theorem cnt_end {a w d:World} {k:CH} {h:GH} {G:Gr} {S S':Nat→Prop} (C:CntAt a k h G S w) {g:Nat} {A:Option Addr} {n c:Nat} {b:Bool} {x:Nat} (r:Blk w g 77 #[.slice A n c, .bool b]) (p:ValN w A n c b x) (m:Off k.maps d w) (o:S g) (t:a.heap.size≤g) (s:d.heap.size≤g) (u:∀ q,S' q→S q) :
 Blk ((w.setCell ⟨g,0,none⟩ (.slice A n c)).setCell ⟨g,1,none⟩ (.bool b)) g 77 #[.slice A n c, .bool b] ∧
  CRet a k h G S' d x (.returned (.agg #[.slice A n c, .bool b])) ((w.setCell ⟨g,0,none⟩ (.slice A n c)).setCell ⟨g,1,none⟩ (.bool b)):=by
 obtain ⟨h1,f,j,l⟩:=C.store r o t A n c b
 exact ⟨l,h1.less u,m.maps_new f s,A,n,c,b,rfl,p.kept j⟩
theorem tr_split {E:World} {k:CH} {h:GH} {G:Gr} {x:Nat→Prop} (hP:Plain G) (gf:FuncId) (ay:Array Value) (eg:∀ args w,(callFunc gf args).run Tryz.prog w = .ok (.enter gf args) w)
 (Al:Option Addr) (t:Nat) (l:List Int) (n:Nat) (a:World) (C0:CntAt E k h G x a) (dm:∀ b,x b→b < a.heap.size)
 (hl:Ints .i64 E Al l.length t l) (hN:(nullN G).length=h.n2) (hs:∀ s ∈ l,-(h.n2:Int)≤s∧s≤1000) (h2:h.n2≤1000) (gr:l.length≤1000) (hn:n≤100)
 (hT:∀ s f,l=s::f→∀ i,i+lowN (nullN G) f≤n→TreeC E k h G s i)
 (hO:∀ s f,l=s::f→∀ i,i+lowN (nullN G) f≤n→treeN G s i ≠ 0→OthC E k h G a gf ay (n - i) (forestT (treeN G) f (n - i))) :
 Calls Tryz.prog 92 #[.pointer (some ⟨k.c,0,none⟩), .slice Al l.length t, .int .i64 (n:Int), .func (.func gf) #[] ay] a (CRet E k h G x a (forestT (treeN G) l n)):=by
 have gp:=hl.cap
 have b4:=alloc_below a (.cells #[.slice none 0 0, .bool false] 77)
 have aj:=Blk.new a 77 #[.slice none 0 0, .bool false]
 have df:=C0.more b4 (Nat.le_refl a.heap.size)
 have ar:=LH C0.base.size
 have Hl:=LH hl
 have Hs:=LH hs
 have HN:=LH hN
 have bp:=LH dm
 have HT:=LH hT
 have HO:=LH hO
 have HP:=LH hP
 clear hs hN hl dm hT hO hP C0
 go_enter Tryz.func92,Tryz.ntmps92
 go_upto_region 1 with fail
 have dj:Off k.maps a (a.alloc (.cells #[.slice none 0 0, .bool false] 77)):=Off.of_below b4
 generalize a.alloc (.cells #[.slice none 0 0, .bool false] 77)=W1 at *
 have au:=LH df
 have a9:=LH aj
 have a8:=LH dj
 have l1:=aj.lt
 have c0:W1.cell? ⟨a.heap.size,0,none⟩=some (.slice none 0 0):=aj.cell 0
 have c1:W1.cell? ⟨a.heap.size,1,none⟩=some (.bool false):=aj.cell 1
 have f0:=aj.frozen 0
 have f1:=aj.frozen 1
 clear df aj dj b4
 cases l with
 | nil =>
   by_cases ca:n=0
   case pos =>
    subst ca
    have Hf:Hid (forestT (treeN G) [] 0=1):=LH rfl
    have CO:Calls Tryz.prog 153 #[.int .u64 1] W1 (RetLimbs W1 (limbs 1)):=nat_of 1 W1 (by omega)
    go_wp2_with fail
    (with_reducible refine CO.mono ?_)
    rintro e Z ⟨I,c3,rfl,bf,J⟩
    have a3:limbs 1=[1]:=rfl
    rw [a3] at bf
    simp only [a3,List.length_singleton] at bf ⊢
    have X3:=a9.out.ext J
    have C3:=au.out.below J
    have O3:=a8.out.maps_trans (Off.of_below J)
    obtain ⟨C4,O4,K4,X4⟩:=C3.store0 X3 (.inr rfl) ar.out I 1 c3
    have am:ValN (Z.setCell ⟨a.heap.size,0,none⟩ (.slice I 1 c3)) I 1 c3 false 1:=by
     unfold ValN
     rw [capV_one]
     exact ⟨rfl,bf.kept K4⟩
    have Y:=LH (cnt_end (S':=x) C4 X4 am (O3.maps_new O4 (Nat.le_refl _)) (.inr rfl) ar.out (Nat.le_refl _) fun q T => .inl T)
    have d0:Z.cell? ⟨a.heap.size,0,none⟩=some (.slice none 0 0):=X3.cell 0
    have d1:Z.cell? ⟨a.heap.size,1,none⟩=some (.bool false):=X3.cell 1
    have g0:=X3.frozen 0
    have g1:=X3.frozen 1
    have l2:=X3.lt
    have e1:((Z.setCell ⟨a.heap.size,0,none⟩ (.slice I 1 c3)).cell? ⟨a.heap.size,0,none⟩)=some (.slice I 1 c3):=X4.cell 0
    have e2:((Z.setCell ⟨a.heap.size,0,none⟩ (.slice I 1 c3)).cell? ⟨a.heap.size,1,none⟩)=some (.bool false):=X4.cell 1
    have i0:=X4.frozen 0
    have i1:=X4.frozen 1
    have l4:=X4.lt
    clear c0 c1 f0 f1 l1 bf J X3 C3 O3 C4 O4 K4 X4 am CO
    go_wp2_with fail
    refine bodyPost_ret (results_cell_row (p:=8) (by kernel_rfl) _ _ a.heap.size 77 #[.slice I 1 c3, .bool false] (0,0) _ rfl Y.out.1 Tryz.underlying77 rfl (by kernel_rfl)) rfl ?_
    rw [Hf.out]
    exact Y.out.2
   case neg =>
    have Hf:Hid (forestT (treeN G) [] n=0):=LH (by unfold forestT;rw [if_neg ca])
    have gw:((n:Int) == 0)=false:=by rw [beq_eq_false_iff_ne];omega
    have Y:=LH (cnt_end (S':=x) au.out a9.out (ValN.zero _ _ _ (by omega)) a8.out (.inr rfl) ar.out (Nat.le_refl _) fun q T => .inl T)
    clear ca
    go_wp2_with fail
    refine bodyPost_ret (results_cell_row (p:=8) (by kernel_rfl) _ _ a.heap.size 77 #[.slice none 0 0, .bool false] (0,0) _ rfl Y.out.1 Tryz.underlying77 rfl (by kernel_rfl)) rfl ?_
    rw [Hf.out]
    exact Y.out.2
 | cons s f =>
   rw [List.length_cons] at *
   obtain ⟨B,F,s',rfl,b6,cv,q0⟩:=Hl.out.get (j:=0) (by omega)
   have fx:s=s':=by have:=cv.out;simpa using this
   subst fx
   rw [Nat.add_zero] at q0
   have a3:Ints .i64 E (some ⟨B,F,none⟩) 1 t [s]:=Hl.out.take 1 t (by omega) (by omega) (by omega)
   have bh:=Hl.out.tail1
   rw [Nat.add_sub_cancel] at bh
   have gs:((f.length+1:Nat):Int)=(f.length:Int)+1:=by omega
   obtain ⟨At,b3⟩:∃ At:Option Addr,At=(if t=1 then some ⟨B,F,none⟩ else some ⟨B,F+1,none⟩):=⟨_,rfl⟩
   have gz:∀ w:World,(Instr.sliceAt 27 (.slice (some ⟨B,F,none⟩) (f.length+1) t) (some (.int .i64 1)) none none).run Tryz.prog w = .ok (.slice At f.length (t - 1)) w:=fun w=>by
    rw [b3]
    have gy:¬ ((f.length:Int)+1 < 1):=by omega
    go_simp
   rw [← b3] at bh
   clear b3
   have hz:(((f.length+1:Nat):Int) == 0)=false:=by rw [beq_eq_false_iff_ne];omega
   have gd:Hid (∀ b,(x b∨b=a.heap.size)→b < a.heap.size+1):=LH fun b y=>by
    rcases y with y | rfl
    · exact Nat.lt_succ_of_lt (bp.out b y)
    · exact Nat.lt_succ_self _
   obtain ⟨g,bz⟩:∃ g,Hid (g=lowN (nullN G) [s]):=⟨_,LH rfl⟩
   obtain ⟨z,aw⟩:∃ z,Hid (z=lowN (nullN G) f):=⟨_,LH rfl⟩
   have gt:g≤1:=by have:=lowN_le (nullN G) [s];rw [bz.out];simpa using this
   have gu:z≤f.length:=by rw [aw.out];exact lowN_le _ _
   have ck:Hid (∀ X,CntAt E k h G (fun b=>x b∨b=a.heap.size) X→Calls Tryz.prog 154 #[.pointer (some ⟨k.c,0,none⟩), .slice (some ⟨B,F,none⟩) 1 t] X fun e w'=>e = .returned (.int .i64 (g:Int))∧X=w'):=LH fun X C=>by
    rw [bz.out]
    exact tr_least _ t 1 [s] X C (a3.below C.base) HN.out (fun q T=>Hs.out q (by rw [List.mem_singleton.1 T];exact List.mem_cons_self ..)) h2 (by omega)
   have bm:Hid (∀ X,CntAt E k h G (fun b=>x b∨b=a.heap.size) X→Calls Tryz.prog 154 #[.pointer (some ⟨k.c,0,none⟩), .slice At f.length (t - 1)] X fun e w'=>e = .returned (.int .i64 (z:Int))∧X=w'):=LH fun X C=>by
    rw [aw.out]
    exact tr_least _ (t - 1) f.length f X C (bh.below C.base) HN.out (fun q T=>Hs.out q (List.mem_cons_of_mem _ T)) h2 (by omega)
   have fo:Hid (∀ X,CntAt E k h G (fun b=>x b∨b=a.heap.size) X→B < X.heap.size∧X.cell? ⟨B,F,none⟩=some (.int .i64 s)):=LH fun X C=>⟨Nat.lt_of_lt_of_le b6 C.base.size,(C.base.cell (p:=⟨B,F,none⟩) b6).trans q0⟩
   have fp:Hid (splitN (treeN G) s f n g (n+1 - z - g)=forestT (treeN G) (s::f) n):=LH (by
    rw [bz.out,aw.out]
    exact splitN_all (fun s hs=>treeN_null HP.out hs) s f n)
   have fh:Hid (∀ i,i+z≤n→TreeC E k h G s i):=LH fun i hi=>HT.out s f rfl i (by rw [← aw.out];exact hi)
   have fc:Hid (∀ i,i+z≤n→treeN G s i ≠ 0→OthC E k h G a gf ay (n - i) (forestT (treeN G) f (n - i))):=LH fun i hi hx=>HO.out s f rfl i (by rw [← aw.out];exact hi) hx
   clear HT HO a3 bh q0 b6 cv Hl
   go_wp2_with (go_at_call 154;(with_reducible refine (ck.out W1 au.out).mono ?_);rintro e Z ⟨rfl,rfl⟩)
   go_loopw [9] (fun i wr=>∃ (d:Nat) (L:Option Addr) (ns cs:Nat) (N:Bool),i = .int .i64 ((g+d:Nat):Int)∧d≤n+1 - z - g∧Hid (CntAt E k h G (fun b=>x b∨b=a.heap.size) wr)∧Hid (Off k.maps a wr)∧Hid (Blk wr a.heap.size 77 #[.slice L ns cs, .bool N])∧Hid (ValN wr L ns cs N (splitN (treeN G) s f n g d))) (fun i _=>n+3 - (intOf i).toNat)
   case atStart=>exact ⟨0,none,0,0,false,by go_num,Nat.zero_le _,au,a8,a9,LH (ValN.zero _ _ _ (by omega))⟩
   case round =>
    clear c0 c1 f0 f1 l1 au a8 a9
    obtain ⟨d,L,ns,cs,N,rfl,hd,V,HO,S,HV⟩:=hrel
    obtain ⟨qb,qc⟩:=fo.out wr V.out
    have xl:=S.out.lt
    have x0:wr.cell? ⟨a.heap.size,0,none⟩=some (.slice L ns cs):=S.out.cell 0
    have x1:wr.cell? ⟨a.heap.size,1,none⟩=some (.bool N):=S.out.cell 1
    have da:=S.out.frozen 0
    have db:=S.out.frozen 1
    have fy:IntKind.i64.wrap ((n:Int) - (z:Int))=(n:Int) - (z:Int):=IntWalk.i64_in _ (by omega)
    by_cases dr:g+d+z≤n
    case neg =>
     obtain rfl:d=n+1 - z - g:=by omega
     have dt:¬ (((g+(n+1 - z - g):Nat):Int)≤(n:Int) - (z:Int)):=by omega
     have Y:=LH (cnt_end (S':=x) V.out S.out HV.out HO.out (.inr rfl) ar.out (Nat.le_refl _) fun q T => .inl T)
     go_wp2_with (go_at_call 154;(with_reducible refine (bm.out wr V.out).mono ?_);rintro e Z ⟨rfl,rfl⟩)
     · refine bodyPost_ret (results_cell_row (p:=8) (by kernel_rfl) _ _ a.heap.size 77 #[.slice L ns cs, .bool N] (0,0) _ rfl Y.out.1 Tryz.underlying77 rfl (by kernel_rfl)) rfl ?_
       rw [← fp.out]
       exact Y.out.2
    case pos =>
     have dt:((g+d:Nat):Int)≤(n:Int) - (z:Int):=by omega
     have dn:∀ b,(x b∨b=a.heap.size)→b < wr.heap.size:=fun b y=>by
      rcases y with y | rfl
      · exact Nat.lt_of_lt_of_le (bp.out b y) HO.out.size
      · exact xl
     have CT:=LH (fh.out (g+d) dr (fun b=>x b∨b=a.heap.size) wr V.out dn)
     have du:=splitN_succ (treeN G) s f n g d
     have fd:=LH (fc.out (g+d) dr)
     clear dn
     generalize dy:treeN G s (g+d)=xv at *
     generalize forestT (treeN G) f (n - (g+d))=fv at *
     have b7:((g+d:Nat):Int)=(g:Int)+(d:Int):=by omega
     rw [b7] at CT
     have ge:=LH b7
     clear b7
     have gg:=LH dy
     have ct:=LH du
     clear dy du
     go_wp2_with (go_at_call 154;(with_reducible refine (bm.out wr V.out).mono ?_);rintro e Z ⟨rfl,rfl⟩)
     clear x0 x1 da db xl qb qc dt fy ck bm
     (with_reducible refine CT.out.mono ?_)
     rintro e w2 ⟨dg,bg,M,R,O,P,rfl,dv⟩
     have ds:=V.out.keep bg
     have b5:=bg.blk S.out (V.out.not_map S.out)
     have dq:=HV.out.kept ds
     have J:=alloc_below w2 (.cells #[.slice M R O, .bool P] 77)
     have a2:=Blk.new w2 77 #[.slice M R O, .bool P]
     have bn:=LH (dg.below J)
     have bo:=LH ((HO.out.maps_trans bg).maps_trans (Off.of_below J))
     have bw:=LH (b5.ext J)
     have bt:=LH (dq.below J)
     have bv:=LH (dv.below J)
     have gq:a.heap.size < w2.heap.size:=b5.lt
     have CN:=fun X hX=>tr_none M R O P xv X hX
     go_upto_region 9 with fail
     generalize w2.alloc (.cells #[.slice M R O, .bool P] 77)=w3 at *
     generalize w2.heap.size=gx at *
     have cn:=LH a2
     have g0:w3.cell? ⟨gx,0,none⟩=some (.slice M R O):=a2.cell 0
     have g1:w3.cell? ⟨gx,1,none⟩=some (.bool P):=a2.cell 1
     have gl:=a2.lt
     clear dg bg dv ds b5 dq J a2 V HO S HV
     have ap:=LH (CN w3 bv.out)
     clear CN
     by_cases an:xv=0
     case pos =>
      have b8:decide (xv=0)=true:=decide_eq_true an
      have fn:Hid (splitN (treeN G) s f n g (d+1)=splitN (treeN G) s f n g d):=LH (by rw [ct.out,an,Nat.zero_mul,Nat.add_zero])
      rw [b8] at ap
      clear an
      go_wp2_with (go_at_call 156;(with_reducible refine ap.out.mono ?_);rintro e w4 ⟨rfl,H⟩)
      have W:=LH (bn.out.below H)
      have av:=LH (bo.out.maps_trans (Off.of_below H))
      have af:=LH (bw.out.ext H)
      have bu:=LH (bt.out.below H)
      go_roundw
      case rel=>exact ⟨d+1,L,ns,cs,N,by go_num,by omega,W,av,af,by rw [fn.out];exact bu⟩
      case measure=>simp [intOf];omega
     case neg =>
      have b8:decide (xv=0)=false:=decide_eq_false an
      have ff:=LH (fd.out an)
      rw [b8] at ap
      clear an
      go_upto_region 10 with (go_at_call 156;(with_reducible refine ap.out.mono ?_);rintro e w4 ⟨rfl,H⟩)
      have W:=LH (bn.out.below H)
      have av:=LH (bo.out.maps_trans (Off.of_below H))
      have af:=LH (bw.out.ext H)
      have bu:=LH (bt.out.below H)
      have co:=LH (cn.out.ext H)
      have fj:=LH (bv.out.below H)
      clear bn bo bw bt cn bv H g0 g1 gl ap
      have fl:Hid (((n - (g+d):Nat):Int)=(n:Int) - ((g:Int)+(d:Int))):=LH (by omega)
      have g5:IntKind.i64.wrap ((n:Int) - ((g:Int)+(d:Int)))=(n:Int) - ((g:Int)+(d:Int)):=IntWalk.i64_in _ (by omega)
      refine wp_region_grow1 (fun X=>MidC E k h G (fun b=>x b∨b=a.heap.size) w4 X) (fun X X'=>IntKeep X X') (fun u=>(⟨(Value.pointer (some ⟨k.c,0,none⟩)::Value.slice (some ⟨B,F,none⟩) (f.length+1) t::Value.int IntKind.i64 (n:Int)::Value.func (Fn.func gf) #[] ay::undef::undef::undef::undef::Value.pointer (some ⟨a.heap.size,0,none⟩)::Value.int IntKind.i64 ((g:Int)+(d:Int))::Value.pointer (some ⟨gx,0,none⟩)::Value.slice (some ⟨B,F,none⟩) (f.length+1) t::Value.int IntKind.i64 ((f.length:Int)+1)::Value.bool false::undef::undef::undef::undef::undef::Value.pointer (some ⟨k.c,0,none⟩)::Value.slice (some ⟨B,F,none⟩) (f.length+1) t::Value.slice (some ⟨B,F,none⟩) 1 t::Value.int IntKind.i64 (g:Int)::Value.int IntKind.i64 ((g:Int)+(d:Int))::Value.int IntKind.i64 (n:Int)::Value.pointer (some ⟨k.c,0,none⟩)::Value.slice (some ⟨B,F,none⟩) (f.length+1) t::Value.slice At f.length (t - 1)::Value.int IntKind.i64 (z:Int)::Value.int IntKind.i64 ((n:Int) - (z:Int))::Value.bool true::u31::u32::Value.pointer (some ⟨k.c,0,none⟩)::Value.slice (some ⟨B,F,none⟩) (f.length+1) t::Value.pointer (some ⟨B,F,none⟩)::Value.int IntKind.i64 s::Value.int IntKind.i64 ((g:Int)+(d:Int))::Value.agg #[Value.slice M R O,Value.bool P]::Value.agg #[Value.slice M R O,Value.bool P]::Value.bool false::Value.bool true::u 0::u 1::u 2::u 3::u 4::u 5::u 6::u 7::u 8::undef::[]).toArray,[]⟩:Act)) [u42,u43,u44,u45,u46,u47,u48,u49,u50] [fun v X=>v=Value.agg #[Value.slice L ns cs,Value.bool N],fun v X=>v=Value.agg #[Value.slice M R O,Value.bool P],fun v X=>v=Value.func (Fn.func gf) #[] ay,fun v X=>v=Value.int .i64 (n:Int),fun v X=>v=Value.int .i64 ((g:Int)+(d:Int)),fun v X=>v=Value.int .i64 ((n:Int) - ((g:Int)+(d:Int))),fun v X=>∃ U nq cq bq,v=Value.agg #[Value.slice U nq cq,Value.bool bq]∧ValN X U nq cq bq (fv),fun v X=>∃ U nq cq bq,v=Value.agg #[Value.slice U nq cq,Value.bool bq]∧ValN X U nq cq bq (xv * fv),fun v X=>∃ U nq cq bq,v=Value.agg #[Value.slice U nq cq,Value.bool bq]∧ValN X U nq cq bq (splitN (treeN G) s f n g d+xv * fv)] (fun u X=>∃ A9 n9 c9 d9,CntAt E k h G (fun b=>x b∨b=a.heap.size) X∧Off k.maps a X∧Blk X a.heap.size 77 #[Value.slice A9 n9 c9,Value.bool d9]∧ValN X A9 n9 c9 d9 (splitN (treeN G) s f n g d+xv * fv)) (l:=[_,_,_,_,_,_,_,_,_]) (by kernel_rfl) (by kernel_rfl) (by kernel_rfl) rfl rfl ⟨W.out.below (Below.refl _ _).drew,Off.of_below (Below.refl _ _).drew⟩ ⟨fun _ _ _ h _=>h,fun _ _ _ h _=>h,fun _ _ _ h _=>h,fun _ _ _ h _=>h,fun _ _ _ h _=>h,fun _ _ _ h _=>h,(fun _ _ _ ⟨A,n,c,b,e,h⟩ y=>⟨A,n,c,b,e,h.kept y⟩),(fun _ _ _ ⟨A,n,c,b,e,h⟩ y=>⟨A,n,c,b,e,h.kept y⟩),(fun _ _ _ ⟨A,n,c,b,e,h⟩ y=>⟨A,n,c,b,e,h.kept y⟩),trivial⟩ ?_ ?_ ?_
      · refine StepsF.cons rfl (fun _ _=>rfl) (fun Q u X m o KK r=>?_) ?_
        · have D:=m.2.blk af.out (W.out.not_map af.out)
          have c5:X.cell? ⟨a.heap.size,0,none⟩=some (.slice L ns cs):=D.cell 0
          have c6:X.cell? ⟨a.heap.size,1,none⟩=some (.bool N):=D.cell 1
          have dw:=D.lt
          go_simp
          exact r _ _ m ⟨Nat.le_refl _,fun _ _ _=>rfl⟩ rfl
        refine StepsF.cons rfl (fun _ _=>rfl) (fun Q u X m o KK r=>?_) ?_
        · have D:=m.2.blk co.out (W.out.not_map co.out)
          have c5:X.cell? ⟨gx,0,none⟩=some (.slice M R O):=D.cell 0
          have c6:X.cell? ⟨gx,1,none⟩=some (.bool P):=D.cell 1
          have dw:=D.lt
          go_simp
          exact r _ _ m ⟨Nat.le_refl _,fun _ _ _=>rfl⟩ rfl
        refine StepsF.cons rfl (fun _ _=>rfl) (fun Q u X m o KK r=>?_) ?_
        · go_simp
          exact r _ _ m ⟨Nat.le_refl _,fun _ _ _=>rfl⟩ rfl
        refine StepsF.cons rfl (fun _ _=>rfl) (fun Q u X m o KK r=>?_) ?_
        · go_simp
          exact r _ _ m ⟨Nat.le_refl _,fun _ _ _=>rfl⟩ rfl
        refine StepsF.cons rfl (fun _ _=>rfl) (fun Q u X m o KK r=>?_) ?_
        · go_simp
          exact r _ _ m ⟨Nat.le_refl _,fun _ _ _=>rfl⟩ rfl
        refine StepsF.cons rfl (fun _ _=>rfl) (fun Q u X m o KK r=>?_) ?_
        · have p3:u 3=_:=o 3 rfl
          have p4:u 4=_:=o 4 rfl
          clear o
          generalize u 3=x3 at *
          subst p3
          generalize u 4=x4 at *
          subst p4
          go_simp
          exact r _ _ m ⟨Nat.le_refl _,fun _ _ _=>rfl⟩ rfl
        refine StepsF.cons rfl (fun _ _=>rfl) (fun Q u X m o KK r=>?_) ?_
        · have p2:u 2=_:=o 2 rfl
          have p5:u 5=_:=o 5 rfl
          clear o
          generalize u 2=x2 at *
          subst p2
          generalize u 5=x5 at *
          subst p5
          have ft:∀ b,(x b∨b=a.heap.size)→b < X.heap.size:=fun b y=>by
           rcases y with y | rfl
           · exact Nat.lt_of_lt_of_le (bp.out b y) (Nat.le_trans av.out.size m.2.size)
           · exact Nat.lt_of_lt_of_le af.out.lt m.2.size
          have CO:=ff.out (fun b=>x b∨b=a.heap.size) X m.1 ft (av.out.maps_trans m.2)
          rw [fl.out] at CO
          go_simp
          (with_reducible refine CO.mono ?_)
          rintro e w5 ⟨fs,dk,A2,m2,c2,d2,rfl,cb⟩
          go_simp
          exact r _ _ (⟨fs,m.2.maps_trans dk⟩) (m.1.keep dk) ⟨A2,m2,c2,d2,rfl,cb⟩
        refine StepsF.cons rfl (fun _ _=>rfl) (fun Q u X m o KK r=>?_) ?_
        · have p1:u 1=_:=o 1 rfl
          obtain ⟨A2,m2,c2,d2,p6,cb⟩:=o 6 rfl
          clear o
          generalize u 1=x1 at *
          subst p1
          generalize u 6=x6 at *
          subst p6
          have cd:=fj.out.kept (W.out.keep m.2)
          go_simp
          (with_reducible refine (tr_times M R O P _ A2 m2 c2 d2 _ X cd cb).mono ?_)
          rintro e w5 ⟨ai,I,m3,c3,d3,rfl,cc⟩
          go_simp
          exact r _ _ (⟨m.1.below ai,m.2.maps_trans (Off.of_below ai)⟩) (IntKeep.of_below ai) ⟨I,m3,c3,d3,rfl,cc⟩
        refine StepsF.cons rfl (fun _ _=>rfl) (fun Q u X m o KK r=>?_) ?_
        · have p0:u 0=_:=o 0 rfl
          obtain ⟨I,m3,c3,d3,p7,cc⟩:=o 7 rfl
          clear o
          generalize u 0=x0 at *
          subst p0
          generalize u 7=x7 at *
          subst p7
          have cd:=bu.out.kept (W.out.keep m.2)
          go_simp
          (with_reducible refine (tr_plus L ns cs N _ I m3 c3 d3 _ X cd cc).mono ?_)
          rintro e w5 ⟨ai,A4,m4,c4,d4,rfl,am⟩
          go_simp
          exact r _ _ (⟨m.1.below ai,m.2.maps_trans (Off.of_below ai)⟩) (IntKeep.of_below ai) ⟨A4,m4,c4,d4,rfl,am⟩
        exact StepsF.nil
      · intro Q u X m o KK r
        obtain ⟨A4,m4,c4,d4,p8,am⟩:=o 8 (by decide)
        clear o
        generalize u 8=x8 at *
        subst p8
        have D:=m.2.blk af.out (W.out.not_map af.out)
        have c5:X.cell? ⟨a.heap.size,0,none⟩=some (.slice L ns cs):=D.cell 0
        have c6:X.cell? ⟨a.heap.size,1,none⟩=some (.bool N):=D.cell 1
        have dw:=D.lt
        have da:=D.frozen 0
        have db:=D.frozen 1
        have a4:=m.1.store D (.inr rfl) ar.out A4 m4 c4 d4
        have fm:=LH (And.intro a4.1 (And.intro ((av.out.maps_trans m.2).maps_new a4.2.1 (Nat.le_refl _)) (And.intro a4.2.2.2 (am.kept a4.2.2.1))))
        clear a4 D
        go_simp
        exact r (fun i=>([u 0,u 1,u 2,u 3,u 4,u 5,u 6,u 7,Value.agg #[Value.slice A4 m4 c4,Value.bool d4]]:List Value).getD i undef) _ (⟨A4,m4,c4,d4,fm.out⟩)
      intro u W9 fw
      obtain ⟨A9,n9,c9,d9,g1,g2,g3,g4⟩:=fw
      have fb:=LH g1
      have fe:=LH g2
      have fk:=LH g3
      rw [← ct.out] at g4
      have fi:=LH g4
      clear g1 g2 g3 g4
      go_wp2_with fail
      go_roundw
      case rel=>exact ⟨d+1,A9,n9,c9,d9,by go_num,by omega,fb,fe,fk,fi⟩
      case measure=>simp [intOf];omega
end Go.Proofs.YtggbjdmpjidhgaaGreatDoor
