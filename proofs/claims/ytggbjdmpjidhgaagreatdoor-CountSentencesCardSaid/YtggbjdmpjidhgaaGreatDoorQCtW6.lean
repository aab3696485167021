/- the program's counter: what its functions are asked for; least, walked. -/
import Derived.Test.YtggbjdmpjidhgaaGreatDoorQCtW5
set_option linter.unusedVariables false
set_option linter.unusedSimpArgs false
set_option maxHeartbeats 8000000
set_option maxRecDepth 100000
namespace Go.Proofs.YtggbjdmpjidhgaaGreatDoor
open Go.RowKit
def CRet (W0:World) (k:CH) (h:GH) (G:Gr) (S:Nat→Prop) (w:World) (x:Nat) (e:Ending) (w':World):Prop :=
 CntAt W0 k h G S w'∧Off k.maps w w'∧∃ A n c d,e = .returned (.agg #[.slice A n c, .bool d])∧ValN w' A n c d x
def TreeC (W0:World) (k:CH) (h:GH) (G:Gr) (s:Int) (n:Nat):Prop:=∀ (S:Nat→Prop) (w:World),CntAt W0 k h G S w→(∀ b,S b→b < w.heap.size) →
 Calls Tryz.prog 155 #[.pointer (some ⟨k.c,0,none⟩), .int .i64 s, .int .i64 (n:Int)] w (CRet W0 k h G S w (treeN G s n))
def RuleC (W0:World) (k:CH) (h:GH) (G:Gr) (x:Rul) (i d n:Nat):Prop:=∀ (S:Nat→Prop) (w:World),CntAt W0 k h G S w→(∀ b,S b→b < w.heap.size) →
 Calls Tryz.prog 201 #[.pointer (some ⟨k.c,0,none⟩),kF i d n] w (CRet W0 k h G S w (forestT (treeN G) (x.right.drop d) n))
def OthC (W0:World) (k:CH) (h:GH) (G:Gr) (Wc:World) (gf:FuncId) (caps:Array Value) (m x:Nat):Prop:=∀ (S:Nat→Prop) (w:World),CntAt W0 k h G S w→(∀ b,S b→b < w.heap.size)→Off k.maps Wc w →
 Calls Tryz.prog gf (#[.int .i64 (m:Int)]++caps) w (CRet W0 k h G S w x)
theorem CntAt.cells {W0 w:World} {k:CH} {h:GH} {G:Gr} {S:Nat→Prop} (C:CntAt W0 k h G S w):k.c < w.heap.size∧k.n < w.heap.size∧w.cell? ⟨k.c,2,none⟩=some (.slice h.a3 h.n3 h.c3)∧w.cell? ⟨k.c,4,none⟩=some (.slice (some ⟨k.n,0,none⟩) h.n2 h.n2)∧w.cell? ⟨k.c,5,none⟩=some (.map (some k.t))∧w.cell? ⟨k.c,6,none⟩=some (.map (some k.f)) :=
 ⟨C.box.lt,Blk.lt C.nul,C.box.cell 2,C.box.cell 4,C.box.cell 5,C.box.cell 6⟩
theorem lowN_take {N:List Bool} {l:List Int} {q:Nat} {s:Int} (h:l[q]? = some s):lowN N (l.take (q+1))=lowN N (l.take q)+(if nulB N s then 0 else 1):=by
 rw [List.take_add_one,h]
 unfold lowN
 rw [List.countP_append]
 cases hn:nulB N s <;> simp [List.countP_cons,List.countP_nil,hn]
theorem lowN_le (N:List Bool) (l:List Int):lowN N l≤l.length:=List.countP_le_length
theorem tr_least {W0:World} {k:CH} {h:GH} {G:Gr} {S:Nat→Prop} (Al:Option Addr) (cl n:Nat) (l:List Int) (w:World) (C:CntAt W0 k h G S w) (hl:Ints .i64 w Al n cl l) (hN:(nullN G).length=h.n2) (hs:∀ s ∈ l,-(h.n2:Int)≤s∧s≤1000) (h2:h.n2≤1000) (hn:n≤1000) :
 Calls Tryz.prog 154 #[.pointer (some ⟨k.c,0,none⟩), .slice Al n cl] w fun e w'=>e = .returned (.int .i64 (lowN (nullN G) l:Int))∧w=w':=by
 obtain rfl:=hl.len
 have hcap:=hl.cap
 obtain ⟨gc,gn,gt,gf⟩:=k
 obtain ⟨a1,n1,c1,a2,n2,c2,a3,n3,c3⟩:=h
 obtain ⟨x1,x2,_,x4,_,_⟩:=C.cells
 have Hnul:=LH C.nul
 have Hs:=LH hs
 have HN:=LH hN
 simp only [] at x1 x2 x4 h2 Hnul HN
 clear hs hN C
 go_enter Tryz.func154,Tryz.ntmps154
 go_wp2_with fail
 go_loop [4,9] (fun v i=>∃ q:Nat,q≤l.length∧i = .int .i64 (q:Int)∧v = .int .i64 (lowN (nullN G) (l.take q):Int)) (fun _ i=>l.length - (intOf i).toNat)
 case atStart=>exact ⟨0,Nat.zero_le _,rfl,rfl⟩
 case round =>
  obtain ⟨q,hq,rfl,rfl⟩:=hrel
  by_cases hqq:q < l.length
  case pos =>
   obtain ⟨bb,off,s,rfl,hb,Hsv,q0⟩:=hl.get hqq
   obtain ⟨s1,s2⟩:=Hs.out s (List.mem_of_getElem? Hsv.out)
   have hnx:=lowN_take (N:=nullN G) Hsv.out
   have hle:=lowN_le (nullN G) (l.take q)
   have hle2:(l.take q).length≤q:=by rw [List.length_take];omega
   generalize lowN (nullN G) (l.take q)=c at *
   by_cases h0:0≤s
   · have hnn:nulB (nullN G) s=false:=by unfold nulB;rw [decide_eq_false (by omega)];rfl
     rw [hnn] at hnx
     have Hnx:=LH hnx
     clear hnx hnn
     go_wp2_with fail
     go_roundw
     case rel=>exact ⟨q+1,by omega,by go_num,by rw [Hnx.out];go_num⟩
     case measure=>simp [intOf];omega
   · obtain ⟨j,hj,hnj,hw⟩:=non_place (s:=s) (n:=n2) (by omega) s1 h2
     have hat:=Hnul.out.at (i:=j) (by rw [HN.out];exact hj)
     have hnn:nulB (nullN G) s=(nullN G).getD j false:=by unfold nulB;rw [decide_eq_true (by omega:s < 0),Bool.true_and,hnj]
     rw [hnn] at hnx
     have Hnx:=LH hnx
     clear hnx hnn
     generalize (nullN G).getD j false=z at *
     rcases (by cases z <;> simp:z=false∨z=true) with rfl | rfl
     all_goals
      go_wp2_with fail
      go_roundw
      case rel=>exact ⟨q+1,by omega,by go_num,by rw [Hnx.out];go_num⟩
      case measure=>simp [intOf];omega
  case neg =>
   obtain rfl:q=l.length:=by omega
   have Hf:Hid (lowN (nullN G) (l.take l.length)=lowN (nullN G) l):=LH (by rw [List.take_length])
   generalize lowN (nullN G) (l.take l.length)=c at *
   go_wp2_with fail
   go_ret
   exact ⟨by rw [← Hf.out];rfl,rfl⟩
end Go.Proofs.YtggbjdmpjidhgaaGreatDoor
