/- the program's counter: split, walked. -/
import Derived.Test.YtggbjdmpjidhgaaGreatDoorQCtW6
import Derived.Test.YtggbjdmpjidhgaaGreatDoorQInvF
set_option linter.unusedVariables false
set_option linter.unusedSimpArgs false
set_option maxHeartbeats 8000000
set_option maxRecDepth 100000
namespace Go.Proofs.YtggbjdmpjidhgaaGreatDoor
open Go.RowKit
def MidC (W0:World) (k:CH) (h:GH) (G:Gr) (S:Nat→Prop) (Wy X:World):Prop:=CntAt W0 k h G S X∧Off k.maps Wy X
theorem Off.maps_trans {k:CH} {a b c:World} (x:Off k.maps a b) (y:Off k.maps b c):Off k.maps a c:=x.trans y fun _ _ h=>h
theorem Off.maps_new {k:CH} {a b c:World} {g:Nat} (x:Off k.maps a b) (y:Off (fun q=>q=g) b c) (hg:a.heap.size≤g):Off k.maps a c:=x.trans y fun q hq h=>by omega
theorem CntAt.apart {W0 w:World} {k:CH} {h:GH} {G:Gr} {S:Nat→Prop} (C:CntAt W0 k h G S w) {g:Nat} {cs:Array Value} (hX:Blk w g 77 cs):g ≠ k.c∧g ≠ k.n∧g ≠ k.t∧g ≠ k.f:=by
 have hm:=C.not_map hX
 refine ⟨?_,?_,fun e=>hm (.inl e),fun e=>hm (.inr e)⟩
 · rintro rfl
   have h1:=C.box
   unfold Blk at h1 hX
   rw [h1] at hX
   injection hX with hX
   injection hX with _ h3 _
   exact absurd h3 (by decide)
 · rintro rfl
   have h1:=C.nul
   unfold BoolT Blk at h1
   unfold Blk at hX
   rw [h1] at hX
   injection hX with hX
   injection hX with _ h3 _
   exact absurd h3 (by decide)
theorem CntAt.store0 {W0 w:World} {k:CH} {h:GH} {G:Gr} {S:Nat→Prop} (C:CntAt W0 k h G S w) {g:Nat} {As:Option Addr} {ns cs:Nat} {bs:Bool} (hX:Blk w g 77 #[.slice As ns cs, .bool bs]) (hS:S g) (hg:W0.heap.size≤g) (A:Option Addr) (n c:Nat) :
 CntAt W0 k h G S (w.setCell ⟨g,0,none⟩ (.slice A n c))∧Off (fun q=>q=g) w (w.setCell ⟨g,0,none⟩ (.slice A n c))∧IntKeep w (w.setCell ⟨g,0,none⟩ (.slice A n c))∧Blk (w.setCell ⟨g,0,none⟩ (.slice A n c)) g 77 #[.slice A n c, .bool bs]:=by
 have ho:=Off.of_set w g 0 (.slice A n c)
 have hk:IntKeep w (w.setCell ⟨g,0,none⟩ (.slice A n c)):=IntKeep.of_off ho fun q hq=>by rw [hq];exact cell_noInt hX
 refine ⟨C.move ho hk fun q hq=>?_,ho,hk,hX.set 0 _⟩
 subst hq
 exact ⟨hS,hg,C.apart hX⟩
theorem cnt_end {W0 w Wc:World} {k:CH} {h:GH} {G:Gr} {S S':Nat→Prop} (C:CntAt W0 k h G S w) {g:Nat} {A:Option Addr} {n c:Nat} {b:Bool} {x:Nat} (hX:Blk w g 77 #[.slice A n c, .bool b]) (hV:ValN w A n c b x) (hO:Off k.maps Wc w) (hS:S g) (hg0:W0.heap.size≤g) (hg:Wc.heap.size≤g) (hl:∀ q,S' q→S q) :
 Blk ((w.setCell ⟨g,0,none⟩ (.slice A n c)).setCell ⟨g,1,none⟩ (.bool b)) g 77 #[.slice A n c, .bool b] ∧
  CRet W0 k h G S' Wc x (.returned (.agg #[.slice A n c, .bool b])) ((w.setCell ⟨g,0,none⟩ (.slice A n c)).setCell ⟨g,1,none⟩ (.bool b)):=by
 obtain ⟨h1,h2,h3,h4⟩:=C.store hX hS hg0 A n c b
 exact ⟨h4,h1.less hl,hO.maps_new h2 hg,A,n,c,b,rfl,hV.kept h3⟩
theorem tr_split {W0:World} {k:CH} {h:GH} {G:Gr} {S0:Nat→Prop} (hP:Plain G) (gf:FuncId) (caps:Array Value) (eg:∀ args w,(callFunc gf args).run Tryz.prog w = .ok (.enter gf args) w)
 (Al:Option Addr) (cl:Nat) (l:List Int) (n:Nat) (Wc:World) (C0:CntAt W0 k h G S0 Wc) (hS0:∀ b,S0 b→b < Wc.heap.size)
 (hl:Ints .i64 W0 Al l.length cl l) (hN:(nullN G).length=h.n2) (hs:∀ s ∈ l,-(h.n2:Int)≤s∧s≤1000) (h2:h.n2≤1000) (hl6:l.length≤1000) (hn:n≤100)
 (hT:∀ s l',l=s::l'→∀ i,i+lowN (nullN G) l'≤n→TreeC W0 k h G s i)
 (hO:∀ s l',l=s::l'→∀ i,i+lowN (nullN G) l'≤n→treeN G s i ≠ 0→OthC W0 k h G Wc gf caps (n - i) (forestT (treeN G) l' (n - i))) :
 Calls Tryz.prog 92 #[.pointer (some ⟨k.c,0,none⟩), .slice Al l.length cl, .int .i64 (n:Int), .func (.func gf) #[] caps] Wc (CRet W0 k h G S0 Wc (forestT (treeN G) l n)):=by
 have hcap:=hl.cap
 have hB1:=alloc_below Wc (.cells #[.slice none 0 0, .bool false] 77)
 have hX1:=Blk.new Wc 77 #[.slice none 0 0, .bool false]
 have hC1:=C0.more hB1 (Nat.le_refl Wc.heap.size)
 have HB0:=Lib.hid C0.base.size
 have Hl:=Lib.hid hl
 have Hs:=Lib.hid hs
 have HN:=Lib.hid hN
 have HS0:=Lib.hid hS0
 have HT:=Lib.hid hT
 have HO:=Lib.hid hO
 have HP:=Lib.hid hP
 clear hs hN hl hS0 hT hO hP C0
 go_enter Tryz.func92,Tryz.ntmps92
 go_upto_region 1 with fail
 have hO1:Off k.maps Wc (Wc.alloc (.cells #[.slice none 0 0, .bool false] 77)):=Off.of_below hB1
 generalize Wc.alloc (.cells #[.slice none 0 0, .bool false] 77)=W1 at *
 have HC1:=Lib.hid hC1
 have HX1:=Lib.hid hX1
 have HO1:=Lib.hid hO1
 have l1:=hX1.lt
 have c0:W1.cell? ⟨Wc.heap.size,0,none⟩=some (.slice none 0 0):=hX1.cell 0
 have c1:W1.cell? ⟨Wc.heap.size,1,none⟩=some (.bool false):=hX1.cell 1
 have f0:=hX1.frozen 0
 have f1:=hX1.frozen 1
 clear hC1 hX1 hO1 hB1
 cases l with
 | nil =>
   by_cases hn0:n=0
   case pos =>
    subst hn0
    have Hf:Hid (forestT (treeN G) [] 0=1):=Lib.hid rfl
    have CO:Calls Tryz.prog 153 #[.int .u64 1] W1 (RetLimbs W1 (limbs 1)):=nat_of 1 W1 (by omega)
    go_wp2_with fail
    (with_reducible refine CO.mono ?_)
    rintro e W2 ⟨A3,c3,rfl,hN3,hB3⟩
    have hl1:limbs 1=[1]:=rfl
    rw [hl1] at hN3
    simp only [hl1,List.length_singleton] at hN3 ⊢
    have X3:=HX1.out.ext hB3
    have C3:=HC1.out.below hB3
    have O3:=HO1.out.maps_trans (Off.of_below hB3)
    obtain ⟨C4,O4,K4,X4⟩:=C3.store0 X3 (.inr rfl) HB0.out A3 1 c3
    have hv4:ValN (W2.setCell ⟨Wc.heap.size,0,none⟩ (.slice A3 1 c3)) A3 1 c3 false 1:=by
     unfold ValN
     rw [capV_one]
     exact ⟨rfl,hN3.kept K4⟩
    have Hend:=Lib.hid (cnt_end (S':=S0) C4 X4 hv4 (O3.maps_new O4 (Nat.le_refl _)) (.inr rfl) HB0.out (Nat.le_refl _) fun q hq => .inl hq)
    have d0:W2.cell? ⟨Wc.heap.size,0,none⟩=some (.slice none 0 0):=X3.cell 0
    have d1:W2.cell? ⟨Wc.heap.size,1,none⟩=some (.bool false):=X3.cell 1
    have g0:=X3.frozen 0
    have g1:=X3.frozen 1
    have l2:=X3.lt
    have e1:((W2.setCell ⟨Wc.heap.size,0,none⟩ (.slice A3 1 c3)).cell? ⟨Wc.heap.size,0,none⟩)=some (.slice A3 1 c3):=X4.cell 0
    have e2:((W2.setCell ⟨Wc.heap.size,0,none⟩ (.slice A3 1 c3)).cell? ⟨Wc.heap.size,1,none⟩)=some (.bool false):=X4.cell 1
    have i0:=X4.frozen 0
    have i1:=X4.frozen 1
    have l4:=X4.lt
    clear c0 c1 f0 f1 l1 hN3 hB3 X3 C3 O3 C4 O4 K4 X4 hv4 CO
    go_wp2_with fail
    refine bodyPost_ret (results_cell_row (p:=8) (by kernel_rfl) _ _ Wc.heap.size 77 #[.slice A3 1 c3, .bool false] (0,0) _ rfl Hend.out.1 Tryz.underlying77 rfl (by kernel_rfl)) rfl ?_
    rw [Hf.out]
    exact Hend.out.2
   case neg =>
    have Hf:Hid (forestT (treeN G) [] n=0):=Lib.hid (by unfold forestT;rw [if_neg hn0])
    have hni:((n:Int) == 0)=false:=by rw [beq_eq_false_iff_ne];omega
    have Hend:=Lib.hid (cnt_end (S':=S0) HC1.out HX1.out (ValN.zero _ _ _ (by omega)) HO1.out (.inr rfl) HB0.out (Nat.le_refl _) fun q hq => .inl hq)
    clear hn0
    go_wp2_with fail
    refine bodyPost_ret (results_cell_row (p:=8) (by kernel_rfl) _ _ Wc.heap.size 77 #[.slice none 0 0, .bool false] (0,0) _ rfl Hend.out.1 Tryz.underlying77 rfl (by kernel_rfl)) rfl ?_
    rw [Hf.out]
    exact Hend.out.2
 | cons s l' =>
   rw [List.length_cons] at *
   obtain ⟨bb,off,s',rfl,hbb,Hsv,q0⟩:=Hl.out.get (j:=0) (by omega)
   have hss:s=s':=by have:=Hsv.out;simpa using this
   subst hss
   rw [Nat.add_zero] at q0
   have hl1:Ints .i64 W0 (some ⟨bb,off,none⟩) 1 cl [s]:=Hl.out.take 1 cl (by omega) (by omega) (by omega)
   have hlt:=Hl.out.tail1
   rw [Nat.add_sub_cancel] at hlt
   have hlen:((l'.length+1:Nat):Int)=(l'.length:Int)+1:=by omega
   obtain ⟨At,hAt⟩:∃ At:Option Addr,At=(if cl=1 then some ⟨bb,off,none⟩ else some ⟨bb,off+1,none⟩):=⟨_,rfl⟩
   have hsl:∀ w:World,(Instr.sliceAt 27 (.slice (some ⟨bb,off,none⟩) (l'.length+1) cl) (some (.int .i64 1)) none none).run Tryz.prog w = .ok (.slice At l'.length (cl - 1)) w:=fun w=>by
    rw [hAt]
    have hno:¬ ((l'.length:Int)+1 < 1):=by omega
    go_simp
   rw [← hAt] at hlt
   clear hAt
   have hz:(((l'.length+1:Nat):Int) == 0)=false:=by rw [beq_eq_false_iff_ne];omega
   have HS1:Hid (∀ b,(S0 b∨b=Wc.heap.size)→b < Wc.heap.size+1):=Lib.hid fun b hb=>by
    rcases hb with hb | rfl
    · exact Nat.lt_succ_of_lt (HS0.out b hb)
    · exact Nat.lt_succ_self _
   obtain ⟨lo,Hlo⟩:∃ lo,Hid (lo=lowN (nullN G) [s]):=⟨_,Lib.hid rfl⟩
   obtain ⟨lw,Hlw⟩:∃ lw,Hid (lw=lowN (nullN G) l'):=⟨_,Lib.hid rfl⟩
   have hlo:lo≤1:=by have:=lowN_le (nullN G) [s];rw [Hlo.out];simpa using this
   have hlw:lw≤l'.length:=by rw [Hlw.out];exact lowN_le _ _
   have CL1:Hid (∀ X,CntAt W0 k h G (fun b=>S0 b∨b=Wc.heap.size) X→Calls Tryz.prog 154 #[.pointer (some ⟨k.c,0,none⟩), .slice (some ⟨bb,off,none⟩) 1 cl] X fun e w'=>e = .returned (.int .i64 (lo:Int))∧X=w'):=Lib.hid fun X C=>by
    rw [Hlo.out]
    exact tr_least _ cl 1 [s] X C (hl1.below C.base) HN.out (fun q hq=>Hs.out q (by rw [List.mem_singleton.1 hq];exact List.mem_cons_self ..)) h2 (by omega)
   have CL2:Hid (∀ X,CntAt W0 k h G (fun b=>S0 b∨b=Wc.heap.size) X→Calls Tryz.prog 154 #[.pointer (some ⟨k.c,0,none⟩), .slice At l'.length (cl - 1)] X fun e w'=>e = .returned (.int .i64 (lw:Int))∧X=w'):=Lib.hid fun X C=>by
    rw [Hlw.out]
    exact tr_least _ (cl - 1) l'.length l' X C (hlt.below C.base) HN.out (fun q hq=>Hs.out q (List.mem_cons_of_mem _ hq)) h2 (by omega)
   have Hq0:Hid (∀ X,CntAt W0 k h G (fun b=>S0 b∨b=Wc.heap.size) X→bb < X.heap.size∧X.cell? ⟨bb,off,none⟩=some (.int .i64 s)):=Lib.hid fun X C=>⟨Nat.lt_of_lt_of_le hbb C.base.size,(C.base.cell (p:=⟨bb,off,none⟩) hbb).trans q0⟩
   have Hspl:Hid (splitN (treeN G) s l' n lo (n+1 - lw - lo)=forestT (treeN G) (s::l') n):=Lib.hid (by
    rw [Hlo.out,Hlw.out]
    exact splitN_all (fun s hs=>treeN_null HP.out hs) s l' n)
   have HT2:Hid (∀ i,i+lw≤n→TreeC W0 k h G s i):=Lib.hid fun i hi=>HT.out s l' rfl i (by rw [← Hlw.out];exact hi)
   have HO2:Hid (∀ i,i+lw≤n→treeN G s i ≠ 0→OthC W0 k h G Wc gf caps (n - i) (forestT (treeN G) l' (n - i))):=Lib.hid fun i hi hx=>HO.out s l' rfl i (by rw [← Hlw.out];exact hi) hx
   clear HT HO hl1 hlt q0 hbb Hsv Hl
   go_wp2_with (go_at_call 154;(with_reducible refine (CL1.out W1 HC1.out).mono ?_);rintro e W2 ⟨rfl,rfl⟩)
   go_loopw [9] (fun i wr=>∃ (d:Nat) (As:Option Addr) (ns cs:Nat) (bs:Bool),i = .int .i64 ((lo+d:Nat):Int)∧d≤n+1 - lw - lo∧Hid (CntAt W0 k h G (fun b=>S0 b∨b=Wc.heap.size) wr)∧Hid (Off k.maps Wc wr)∧Hid (Blk wr Wc.heap.size 77 #[.slice As ns cs, .bool bs])∧Hid (ValN wr As ns cs bs (splitN (treeN G) s l' n lo d))) (fun i _=>n+3 - (intOf i).toNat)
   case atStart=>exact ⟨0,none,0,0,false,by go_num,Nat.zero_le _,HC1,HO1,HX1,Lib.hid (ValN.zero _ _ _ (by omega))⟩
   case round =>
    clear c0 c1 f0 f1 l1 HC1 HO1 HX1
    obtain ⟨d,As,ns,cs,bs,rfl,hd,HC,HO,HX,HV⟩:=hrel
    obtain ⟨qb,qc⟩:=Hq0.out wr HC.out
    have xl:=HX.out.lt
    have x0:wr.cell? ⟨Wc.heap.size,0,none⟩=some (.slice As ns cs):=HX.out.cell 0
    have x1:wr.cell? ⟨Wc.heap.size,1,none⟩=some (.bool bs):=HX.out.cell 1
    have fz0:=HX.out.frozen 0
    have fz1:=HX.out.frozen 1
    have hsub:IntKind.i64.wrap ((n:Int) - (lw:Int))=(n:Int) - (lw:Int):=IntWalk.i64_in _ (by omega)
    by_cases hin:lo+d+lw≤n
    case neg =>
     obtain rfl:d=n+1 - lw - lo:=by omega
     have hle:¬ (((lo+(n+1 - lw - lo):Nat):Int)≤(n:Int) - (lw:Int)):=by omega
     have Hend:=Lib.hid (cnt_end (S':=S0) HC.out HX.out HV.out HO.out (.inr rfl) HB0.out (Nat.le_refl _) fun q hq => .inl hq)
     go_wp2_with (go_at_call 154;(with_reducible refine (CL2.out wr HC.out).mono ?_);rintro e W2 ⟨rfl,rfl⟩)
     · refine bodyPost_ret (results_cell_row (p:=8) (by kernel_rfl) _ _ Wc.heap.size 77 #[.slice As ns cs, .bool bs] (0,0) _ rfl Hend.out.1 Tryz.underlying77 rfl (by kernel_rfl)) rfl ?_
       rw [← Hspl.out]
       exact Hend.out.2
    case pos =>
     have hle:((lo+d:Nat):Int)≤(n:Int) - (lw:Int):=by omega
     have hSr:∀ b,(S0 b∨b=Wc.heap.size)→b < wr.heap.size:=fun b hb=>by
      rcases hb with hb | rfl
      · exact Nat.lt_of_lt_of_le (HS0.out b hb) HO.out.size
      · exact xl
     have CT:=Lib.hid (HT2.out (lo+d) hin (fun b=>S0 b∨b=Wc.heap.size) wr HC.out hSr)
     have hnx:=splitN_succ (treeN G) s l' n lo d
     have HO3:=Lib.hid (HO2.out (lo+d) hin)
     clear hSr
     generalize hxv:treeN G s (lo+d)=xv at *
     generalize forestT (treeN G) l' (n - (lo+d))=fv at *
     have hcast:((lo+d:Nat):Int)=(lo:Int)+(d:Int):=by omega
     rw [hcast] at CT
     have Hcast:=Lib.hid hcast
     clear hcast
     have Hxv:=Lib.hid hxv
     have Hnx:=Lib.hid hnx
     clear hxv hnx
     go_wp2_with (go_at_call 154;(with_reducible refine (CL2.out wr HC.out).mono ?_);rintro e W2 ⟨rfl,rfl⟩)
     clear x0 x1 fz0 fz1 xl qb qc hle hsub CL1 CL2
     (with_reducible refine CT.out.mono ?_)
     rintro e w2 ⟨hC2,hO2,Ax,nx,cx,dx,rfl,hvx⟩
     have hk2:=HC.out.keep hO2
     have hX2:=hO2.blk HX.out (HC.out.not_map HX.out)
     have hV2:=HV.out.kept hk2
     have hB3:=alloc_below w2 (.cells #[.slice Ax nx cx, .bool dx] 77)
     have hG3:=Blk.new w2 77 #[.slice Ax nx cx, .bool dx]
     have HC3:=Lib.hid (hC2.below hB3)
     have HO3':=Lib.hid ((HO.out.maps_trans hO2).maps_trans (Off.of_below hB3))
     have HX3:=Lib.hid (hX2.ext hB3)
     have HV3:=Lib.hid (hV2.below hB3)
     have HVx:=Lib.hid (hvx.below hB3)
     have hgx:Wc.heap.size < w2.heap.size:=hX2.lt
     have CN:=fun X hX=>tr_none Ax nx cx dx xv X hX
     go_upto_region 9 with fail
     generalize w2.alloc (.cells #[.slice Ax nx cx, .bool dx] 77)=w3 at *
     generalize w2.heap.size=gx at *
     have HG3:=Lib.hid hG3
     have g0:w3.cell? ⟨gx,0,none⟩=some (.slice Ax nx cx):=hG3.cell 0
     have g1:w3.cell? ⟨gx,1,none⟩=some (.bool dx):=hG3.cell 1
     have gl:=hG3.lt
     clear hC2 hO2 hvx hk2 hX2 hV2 hB3 hG3 HC HO HX HV
     have CN3:=Lib.hid (CN w3 HVx.out)
     clear CN
     by_cases hx0:xv=0
     case pos =>
      have hdx:decide (xv=0)=true:=decide_eq_true hx0
      have Hnx2:Hid (splitN (treeN G) s l' n lo (d+1)=splitN (treeN G) s l' n lo d):=Lib.hid (by rw [Hnx.out,hx0,Nat.zero_mul,Nat.add_zero])
      rw [hdx] at CN3
      clear hx0
      go_wp2_with (go_at_call 156;(with_reducible refine CN3.out.mono ?_);rintro e w4 ⟨rfl,hb4⟩)
      have HC4:=Lib.hid (HC3.out.below hb4)
      have HO4:=Lib.hid (HO3'.out.maps_trans (Off.of_below hb4))
      have HX4:=Lib.hid (HX3.out.ext hb4)
      have HV4:=Lib.hid (HV3.out.below hb4)
      go_roundw
      case rel=>exact ⟨d+1,As,ns,cs,bs,by go_num,by omega,HC4,HO4,HX4,by rw [Hnx2.out];exact HV4⟩
      case measure=>simp [intOf];omega
     case neg =>
      have hdx:decide (xv=0)=false:=decide_eq_false hx0
      have HOth:=Lib.hid (HO3.out hx0)
      rw [hdx] at CN3
      clear hx0
      go_upto_region 10 with (go_at_call 156;(with_reducible refine CN3.out.mono ?_);rintro e w4 ⟨rfl,hb4⟩)
      have HC4:=Lib.hid (HC3.out.below hb4)
      have HO4:=Lib.hid (HO3'.out.maps_trans (Off.of_below hb4))
      have HX4:=Lib.hid (HX3.out.ext hb4)
      have HV4:=Lib.hid (HV3.out.below hb4)
      have HG4:=Lib.hid (HG3.out.ext hb4)
      have HVx4:=Lib.hid (HVx.out.below hb4)
      clear HC3 HO3' HX3 HV3 HG3 HVx hb4 g0 g1 gl CN3
      have Hcm:Hid (((n - (lo+d):Nat):Int)=(n:Int) - ((lo:Int)+(d:Int))):=Lib.hid (by omega)
      have hsub2:IntKind.i64.wrap ((n:Int) - ((lo:Int)+(d:Int)))=(n:Int) - ((lo:Int)+(d:Int)):=IntWalk.i64_in _ (by omega)
      refine wp_region_grow1 (fun X=>MidC W0 k h G (fun b=>S0 b∨b=Wc.heap.size) w4 X) (fun X X'=>IntKeep X X') (fun u=>(⟨(Value.pointer (some ⟨k.c,0,none⟩)::Value.slice (some ⟨bb,off,none⟩) (l'.length+1) cl::Value.int IntKind.i64 (n:Int)::Value.func (Fn.func gf) #[] caps::undef::undef::undef::undef::Value.pointer (some ⟨Wc.heap.size,0,none⟩)::Value.int IntKind.i64 ((lo:Int)+(d:Int))::Value.pointer (some ⟨gx,0,none⟩)::Value.slice (some ⟨bb,off,none⟩) (l'.length+1) cl::Value.int IntKind.i64 ((l'.length:Int)+1)::Value.bool false::undef::undef::undef::undef::undef::Value.pointer (some ⟨k.c,0,none⟩)::Value.slice (some ⟨bb,off,none⟩) (l'.length+1) cl::Value.slice (some ⟨bb,off,none⟩) 1 cl::Value.int IntKind.i64 (lo:Int)::Value.int IntKind.i64 ((lo:Int)+(d:Int))::Value.int IntKind.i64 (n:Int)::Value.pointer (some ⟨k.c,0,none⟩)::Value.slice (some ⟨bb,off,none⟩) (l'.length+1) cl::Value.slice At l'.length (cl - 1)::Value.int IntKind.i64 (lw:Int)::Value.int IntKind.i64 ((n:Int) - (lw:Int))::Value.bool true::u31::u32::Value.pointer (some ⟨k.c,0,none⟩)::Value.slice (some ⟨bb,off,none⟩) (l'.length+1) cl::Value.pointer (some ⟨bb,off,none⟩)::Value.int IntKind.i64 s::Value.int IntKind.i64 ((lo:Int)+(d:Int))::Value.agg #[Value.slice Ax nx cx,Value.bool dx]::Value.agg #[Value.slice Ax nx cx,Value.bool dx]::Value.bool false::Value.bool true::u 0::u 1::u 2::u 3::u 4::u 5::u 6::u 7::u 8::undef::[]).toArray,[]⟩:Act)) [u42,u43,u44,u45,u46,u47,u48,u49,u50] [fun v X=>v=Value.agg #[Value.slice As ns cs,Value.bool bs],fun v X=>v=Value.agg #[Value.slice Ax nx cx,Value.bool dx],fun v X=>v=Value.func (Fn.func gf) #[] caps,fun v X=>v=Value.int .i64 (n:Int),fun v X=>v=Value.int .i64 ((lo:Int)+(d:Int)),fun v X=>v=Value.int .i64 ((n:Int) - ((lo:Int)+(d:Int))),fun v X=>∃ Aq nq cq bq,v=Value.agg #[Value.slice Aq nq cq,Value.bool bq]∧ValN X Aq nq cq bq (fv),fun v X=>∃ Aq nq cq bq,v=Value.agg #[Value.slice Aq nq cq,Value.bool bq]∧ValN X Aq nq cq bq (xv * fv),fun v X=>∃ Aq nq cq bq,v=Value.agg #[Value.slice Aq nq cq,Value.bool bq]∧ValN X Aq nq cq bq (splitN (treeN G) s l' n lo d+xv * fv)] (fun u X=>∃ A9 n9 c9 d9,CntAt W0 k h G (fun b=>S0 b∨b=Wc.heap.size) X∧Off k.maps Wc X∧Blk X Wc.heap.size 77 #[Value.slice A9 n9 c9,Value.bool d9]∧ValN X A9 n9 c9 d9 (splitN (treeN G) s l' n lo d+xv * fv)) (l:=[_,_,_,_,_,_,_,_,_]) (by kernel_rfl) (by kernel_rfl) (by kernel_rfl) rfl rfl ⟨HC4.out.below (Below.refl _ _).drew,Off.of_below (Below.refl _ _).drew⟩ ⟨fun _ _ _ h _=>h,fun _ _ _ h _=>h,fun _ _ _ h _=>h,fun _ _ _ h _=>h,fun _ _ _ h _=>h,fun _ _ _ h _=>h,(fun _ _ _ ⟨A,n,c,b,e,h⟩ hb=>⟨A,n,c,b,e,h.kept hb⟩),(fun _ _ _ ⟨A,n,c,b,e,h⟩ hb=>⟨A,n,c,b,e,h.kept hb⟩),(fun _ _ _ ⟨A,n,c,b,e,h⟩ hb=>⟨A,n,c,b,e,h.kept hb⟩),trivial⟩ ?_ ?_ ?_
      · refine StepsF.cons rfl (fun _ _=>rfl) (fun Q u X hBX hp KK hKK=>?_) ?_
        · have hXX:=hBX.2.blk HX4.out (HC4.out.not_map HX4.out)
          have cg0:X.cell? ⟨Wc.heap.size,0,none⟩=some (.slice As ns cs):=hXX.cell 0
          have cg1:X.cell? ⟨Wc.heap.size,1,none⟩=some (.bool bs):=hXX.cell 1
          have hxl:=hXX.lt
          go_simp
          exact hKK _ _ hBX ⟨Nat.le_refl _,fun _ _ _=>rfl⟩ rfl
        refine StepsF.cons rfl (fun _ _=>rfl) (fun Q u X hBX hp KK hKK=>?_) ?_
        · have hXX:=hBX.2.blk HG4.out (HC4.out.not_map HG4.out)
          have cg0:X.cell? ⟨gx,0,none⟩=some (.slice Ax nx cx):=hXX.cell 0
          have cg1:X.cell? ⟨gx,1,none⟩=some (.bool dx):=hXX.cell 1
          have hxl:=hXX.lt
          go_simp
          exact hKK _ _ hBX ⟨Nat.le_refl _,fun _ _ _=>rfl⟩ rfl
        refine StepsF.cons rfl (fun _ _=>rfl) (fun Q u X hBX hp KK hKK=>?_) ?_
        · go_simp
          exact hKK _ _ hBX ⟨Nat.le_refl _,fun _ _ _=>rfl⟩ rfl
        refine StepsF.cons rfl (fun _ _=>rfl) (fun Q u X hBX hp KK hKK=>?_) ?_
        · go_simp
          exact hKK _ _ hBX ⟨Nat.le_refl _,fun _ _ _=>rfl⟩ rfl
        refine StepsF.cons rfl (fun _ _=>rfl) (fun Q u X hBX hp KK hKK=>?_) ?_
        · go_simp
          exact hKK _ _ hBX ⟨Nat.le_refl _,fun _ _ _=>rfl⟩ rfl
        refine StepsF.cons rfl (fun _ _=>rfl) (fun Q u X hBX hp KK hKK=>?_) ?_
        · have p3:u 3=_:=hp 3 rfl
          have p4:u 4=_:=hp 4 rfl
          clear hp
          generalize u 3=x3 at *
          subst p3
          generalize u 4=x4 at *
          subst p4
          go_simp
          exact hKK _ _ hBX ⟨Nat.le_refl _,fun _ _ _=>rfl⟩ rfl
        refine StepsF.cons rfl (fun _ _=>rfl) (fun Q u X hBX hp KK hKK=>?_) ?_
        · have p2:u 2=_:=hp 2 rfl
          have p5:u 5=_:=hp 5 rfl
          clear hp
          generalize u 2=x2 at *
          subst p2
          generalize u 5=x5 at *
          subst p5
          have hSX:∀ b,(S0 b∨b=Wc.heap.size)→b < X.heap.size:=fun b hb=>by
           rcases hb with hb | rfl
           · exact Nat.lt_of_lt_of_le (HS0.out b hb) (Nat.le_trans HO4.out.size hBX.2.size)
           · exact Nat.lt_of_lt_of_le HX4.out.lt hBX.2.size
          have CO:=HOth.out (fun b=>S0 b∨b=Wc.heap.size) X hBX.1 hSX (HO4.out.maps_trans hBX.2)
          rw [Hcm.out] at CO
          go_simp
          (with_reducible refine CO.mono ?_)
          rintro e w5 ⟨hC5,hO5,A2,m2,c2,d2,rfl,hv2⟩
          go_simp
          exact hKK _ _ (⟨hC5,hBX.2.maps_trans hO5⟩) (hBX.1.keep hO5) ⟨A2,m2,c2,d2,rfl,hv2⟩
        refine StepsF.cons rfl (fun _ _=>rfl) (fun Q u X hBX hp KK hKK=>?_) ?_
        · have p1:u 1=_:=hp 1 rfl
          obtain ⟨A2,m2,c2,d2,p6,hv2⟩:=hp 6 rfl
          clear hp
          generalize u 1=x1 at *
          subst p1
          generalize u 6=x6 at *
          subst p6
          have hva:=HVx4.out.kept (HC4.out.keep hBX.2)
          go_simp
          (with_reducible refine (tr_times Ax nx cx dx _ A2 m2 c2 d2 _ X hva hv2).mono ?_)
          rintro e w5 ⟨hB5,A3,m3,c3,d3,rfl,hv3⟩
          go_simp
          exact hKK _ _ (⟨hBX.1.below hB5,hBX.2.maps_trans (Off.of_below hB5)⟩) (IntKeep.of_below hB5) ⟨A3,m3,c3,d3,rfl,hv3⟩
        refine StepsF.cons rfl (fun _ _=>rfl) (fun Q u X hBX hp KK hKK=>?_) ?_
        · have p0:u 0=_:=hp 0 rfl
          obtain ⟨A3,m3,c3,d3,p7,hv3⟩:=hp 7 rfl
          clear hp
          generalize u 0=x0 at *
          subst p0
          generalize u 7=x7 at *
          subst p7
          have hva:=HV4.out.kept (HC4.out.keep hBX.2)
          go_simp
          (with_reducible refine (tr_plus As ns cs bs _ A3 m3 c3 d3 _ X hva hv3).mono ?_)
          rintro e w5 ⟨hB5,A4,m4,c4,d4,rfl,hv4⟩
          go_simp
          exact hKK _ _ (⟨hBX.1.below hB5,hBX.2.maps_trans (Off.of_below hB5)⟩) (IntKeep.of_below hB5) ⟨A4,m4,c4,d4,rfl,hv4⟩
        exact StepsF.nil
      · intro Q u X hBX hp KK hKK
        obtain ⟨A4,m4,c4,d4,p8,hv4⟩:=hp 8 (by decide)
        clear hp
        generalize u 8=x8 at *
        subst p8
        have hXX:=hBX.2.blk HX4.out (HC4.out.not_map HX4.out)
        have cg0:X.cell? ⟨Wc.heap.size,0,none⟩=some (.slice As ns cs):=hXX.cell 0
        have cg1:X.cell? ⟨Wc.heap.size,1,none⟩=some (.bool bs):=hXX.cell 1
        have hxl:=hXX.lt
        have fz0:=hXX.frozen 0
        have fz1:=hXX.frozen 1
        have hst:=hBX.1.store hXX (.inr rfl) HB0.out A4 m4 c4 d4
        have Hfin:=Lib.hid (And.intro hst.1 (And.intro ((HO4.out.maps_trans hBX.2).maps_new hst.2.1 (Nat.le_refl _)) (And.intro hst.2.2.2 (hv4.kept hst.2.2.1))))
        clear hst hXX
        go_simp
        exact hKK (fun i=>([u 0,u 1,u 2,u 3,u 4,u 5,u 6,u 7,Value.agg #[Value.slice A4 m4 c4,Value.bool d4]]:List Value).getD i undef) _ (⟨A4,m4,c4,d4,Hfin.out⟩)
      intro u W9 hfin
      obtain ⟨A9,n9,c9,d9,g1,g2,g3,g4⟩:=hfin
      have HC9:=Lib.hid g1
      have HO9:=Lib.hid g2
      have HX9:=Lib.hid g3
      rw [← Hnx.out] at g4
      have HV9:=Lib.hid g4
      clear g1 g2 g3 g4
      go_wp2_with fail
      go_roundw
      case rel=>exact ⟨d+1,A9,n9,c9,d9,by go_num,by omega,HC9,HO9,HX9,HV9⟩
      case measure=>simp [intOf];omega
end Go.Proofs.YtggbjdmpjidhgaaGreatDoor
