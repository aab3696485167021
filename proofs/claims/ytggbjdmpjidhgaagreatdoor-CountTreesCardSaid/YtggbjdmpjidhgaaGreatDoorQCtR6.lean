/- counts: the reference's table, made length by length: walked. -/
import Derived.Test.YtggbjdmpjidhgaaGreatDoorQCtR5
import Derived.Test.YtggbjdmpjidhgaaGreatDoorQInvF
import Derived.Test.YtggbjdmpjidhgaaGreatDoorQCtK2
import Derived.Test.YtggbjdmpjidhgaaGreatDoorQCyR2
set_option linter.unusedVariables false
set_option linter.unusedSimpArgs false
set_option maxHeartbeats 8000000
set_option maxRecDepth 100000
namespace Go.Proofs.YtggbjdmpjidhgaaGreatDoor
open Go.RowKit
theorem Tryz.infoValS:(Tryz.prog.info? 89).map (fun i=>(i.zero,i.size,i.bytes))=some (some (.slice none 0 0),1,24):=by kernel_rfl
theorem valcell_set {W2:World} {g:Nat} {As:Option Addr} {ns cs:Nat} {bs:Bool} (hX:Blk W2 g 46 #[.slice As ns cs, .bool bs]) (A:Option Addr) (n c:Nat) (b:Bool) :
 Off (fun k=>k=g) W2 ((W2.setCell ⟨g,0,none⟩ (.slice A n c)).setCell ⟨g,1,none⟩ (.bool b)) ∧
 Blk ((W2.setCell ⟨g,0,none⟩ (.slice A n c)).setCell ⟨g,1,none⟩ (.bool b)) g 46 #[.slice A n c, .bool b]∧IntKeep W2 ((W2.setCell ⟨g,0,none⟩ (.slice A n c)).setCell ⟨g,1,none⟩ (.bool b)):=by
 have ho:Off (fun k=>k=g) W2 ((W2.setCell ⟨g,0,none⟩ (.slice A n c)).setCell ⟨g,1,none⟩ (.bool b)):=(Off.of_set W2 g 0 (.slice A n c)).trans (Off.of_set _ g 1 (.bool b)) fun _ _ h=>h
 refine ⟨ho,(hX.set 0 _).set 1 _,IntKeep.of_off ho fun q hq=>?_⟩
 rw [hq]
 intro o k z hc
 rw [hX.cell o] at hc
 rcases o with _ | _ | o <;> cases hc
theorem zero_row (N m:Nat) {tab:Nat→Nat→Nat} (h:∀ i,tab m i=0):List.replicate N 0=(List.range N).map (tab m):=by
 refine List.ext_getElem? fun j=>?_
 rw [List.getElem?_replicate,List.getElem?_map]
 by_cases hj:j < N
 · rw [List.getElem?_range hj,if_pos hj,Option.map_some,h]
 · rw [List.getElem?_eq_none (by simpa using hj),if_neg hj];rfl
theorem slices_noInt {gs:List Nat} {N:Nat}:∀ u ∈ gs.map (fun g=>Value.slice (some ⟨g,0,none⟩) N N),∀ k x,u ≠ Value.int k x:=by
 intro u hu k x he
 rw [List.mem_map] at hu
 obtain ⟨g,_,rfl⟩:=hu
 cases he
def RetMake (G:Gr) (n:Nat) (w:World) (e:Ending) (w':World):Prop:=Below w.heap.size w w'∧∃ A c tab,e = .returned (.slice A (n+1) c)∧TabM w' A (n+1) c G.nons.length tab∧∀ k,k≤n→∀ i,i < G.nons.length→tab k i=treeN G (-1 - (i:Int)) k
theorem rulesT_take {T:Int→Nat→Nat} {rs:List Rul} {k:Nat} {r:Rul} (hr:rs[k]? = some r) (i n:Nat):rulesT T (rs.take (k+1)) i n=rulesT T (rs.take k) i n+(if r.left.toNat=i then forestT T r.right n else 0):=by
 rw [List.take_add_one,hr]
 exact rulesT_snoc T _ r i n
theorem rf_Make (h:GH) (G:Gr) (n:Nat) (w:World) (hg:GrAt w h G) (h1:h.n1≤100) (h2:h.n2≤100) (h3:h.n3≤100) (hP:Plain G) (hO:Ordered G (ordG G).1) (hn:n≤100) :
 Calls Tryz.prog 54 #[GV h G.start, .int .i64 (n:Int)] w (RetMake G n w):=by
 obtain ⟨a1,n1,c1,a2,n2,c2,a3,n3,c3⟩:=h
 have e2:G.nons.length=n2:=hg.nons.len
 have e3:G.rules.length=n3:=hg.rules.len
 have k2:=hg.nons.cap
 have k3:=hg.rules.cap
 simp only [] at h1 h2 h3 k2 k3
 have Hg:=Lib.hid hg
 have hB0:=alloc_below w (.cells #[.slice a1 n1 c1, .slice a2 n2 c2, .slice a3 n3 c3, .int .i64 G.start] 26)
 have hbox:=GBox.new w 26 ⟨a1,n1,c1,a2,n2,c2,a3,n3,c3⟩ G.start
 clear hg
 go_enter Tryz.func54,Tryz.ntmps54
 have ⟨z5,z0,z1,z2,z3⟩:=hbox
 simp only [] at z0 z1 z2 z3
 go_wp2_with fail
 generalize w.alloc (.cells #[.slice a1 n1 c1, .slice a2 n2 c2, .slice a3 n3 c3, .int .i64 G.start] 26)=W0 at *
 (with_reducible refine (rf_Order ⟨a1,n1,c1,a2,n2,c2,a3,n3,c3⟩ G W0 (Hg.out.below hB0) (by simp only [];omega) (by simp only [];omega) (by simp only [];omega)).mono ?_)
 rintro e W1 ⟨hb1,Ao,co,rfl,hI⟩
 have HB1:=Lib.hid (below_tail hB0 hb1)
 have Hbx1:=Lib.hid (hbox.below hb1)
 have hocap:=hI.cap
 have HP:=Lib.hid hP
 have Hfit:=Lib.hid hP.fits
 have HO:=Lib.hid hO
 have hol:(intsOf (ordG G).1).length=(ordG G).1.length:=by simp [intsOf]
 generalize (ordG G).2=er at *
 generalize (ordG G).1=ord at *
 have HI:=Lib.hid hI
 clear z0 z1 z2 z3 z5 hbox hb1 hB0 hI hP hO hol
 go_wp2_with fail
 go_loopw [5,8] (fun cv i wr=>∃ (m:Nat) (A:Option Addr) (c:Nat) (gs:List Nat) (tab:Nat→Nat→Nat),m≤n+1∧i = .int .i64 (m:Int)∧cv = .slice A m c∧Hid (TabO wr W1.heap.size A m c n2 gs tab)∧Hid (Told G ord tab m 0)∧Hid (∀ k,m≤k→∀ i,tab k i=0)∧Hid (Below W1.heap.size W1 wr)) (fun _ i _=>n+1 - (intOf i).toNat)
 case atStart=>exact ⟨0,none,0,[],fun _ _=>0,Nat.zero_le _,rfl,rfl,Lib.hid (TabO.start _ _ _ _),Lib.hid (Told.start G ord),Lib.hid fun _ _ _=>rfl,Lib.hid (Below.refl _ _)⟩
 case round =>
  obtain ⟨m,A,c,gs,tab,hm,rfl,rfl,HT,HD,HZ,HB⟩:=hrel
  have hbx:=Hbx1.out.below HB.out
  have ⟨y5,y0,y1,y2,y3⟩:=hbx
  simp only [] at y0 y1 y2 y3
  clear hbx
  by_cases hmn:m≤n
  case neg =>
   obtain rfl:n+1=m:=by omega
   have hnl:¬ (((n+1:Nat):Int)≤(n:Int)):=by omega
   have Hend:Hid (RetMake G n w (.returned (.slice A (n+1) c)) wr):=Lib.hid ⟨below_tail HB1.out HB.out,A,c,tab,rfl,by rw [e2];exact HT.out.tab,fun k hk i hi=>HD.out.low k (by omega) i hi⟩
   go_wp2_with fail
   go_ret
   exact Hend.out
  case pos =>
   have hmk:=make_vals n2 (by omega)
   have hzR:=VRow.new wr 46 n2
   have hzB:=alloc_below wr (.cells (zeroCells n2) 46)
   have hsz:(wr.alloc (.cells (zeroCells n2) 46)).heap.size=wr.heap.size+1:=alloc_size _ _
   have hlB:=alloc_below (wr.alloc (.cells (zeroCells n2) 46)) (.cells #[.slice (some ⟨wr.heap.size,0,none⟩) n2 n2] 89)
   have hlc:((wr.alloc (.cells (zeroCells n2) 46)).alloc (.cells #[.slice (some ⟨wr.heap.size,0,none⟩) n2 n2] 89)).cell? ⟨(wr.alloc (.cells (zeroCells n2) 46)).heap.size,0,none⟩=some (.slice (some ⟨wr.heap.size,0,none⟩) n2 n2):=(Blk.new _ 89 #[.slice (some ⟨wr.heap.size,0,none⟩) n2 n2]).cell 0
   have HlB:=Lib.hid (below_tail hzB hlB)
   have HzR:=Lib.hid (hzR.below hlB)
   have HT2:=Lib.hid (HT.out.below HlB.out)
   have hrl:∀ g ∈ gs,g < wr.heap.size:=fun g hg=>by
    obtain ⟨j,hj⟩:=List.getElem?_of_mem hg
    exact (HT.out.row j g hj).2.lt
   have Hrl:=Lib.hid hrl
   have Hlc:=Lib.hid hlc
   have hbz:W1.heap.size≤wr.heap.size:=HB.out.size
   have hbl:W1.heap.size≤((wr.alloc (.cells (zeroCells n2) 46)).alloc (.cells #[.slice (some ⟨wr.heap.size,0,none⟩) n2 n2] 89)).heap.size:=by rw [alloc_size,alloc_size];omega
   have HiV:=Lib.hid Tryz.infoValS
   have Hsz:=Lib.hid hsz
   clear hzR hzB hlB hlc hrl hsz
   go_upto_region 7 with (at_builtin;refine wpl_appendV rfl _ _ 84 rfl W1.heap.size 89 _ 24 Tryz.underlying84 HiV.out (by decide) (by intro u hu k x he;subst he;simp [Value.cells] at hu) A m c (gs.map fun g=>Value.slice (some ⟨g,0,none⟩) n2 n2) rfl HT2.out.own HT2.out.noInt slices_noInt _ 1 (.slice (some ⟨wr.heap.size,0,none⟩) n2 n2) rfl (by first | exact Hlc.out | (rw [← Hsz.out];exact Hlc.out)) rfl (by intro k x he;cases he) (by omega) (by omega) hbl ?_;intro A5 c5 w5 ho hg ha hno)
   have HT5:Hid (TabO w5 W1.heap.size A5 (m+1) c5 n2 (gs++[wr.heap.size]) tab):=Lib.hid (HT2.out.snoc ho hg hno (by rw [← zero_row n2 m fun i=>HZ.out m (Nat.le_refl _) i];exact HzR.out) hbz fun hin=>Nat.lt_irrefl _ (Hrl.out _ hin))
   have HB5:Hid (Below W1.heap.size W1 w5):=Lib.hid ((HB.out.trans (HlB.out.mono hbz)).trans ((Off.of_grown hg).is_below hbl fun k hk=>(HT2.out.own.lt k hk).1))
   have hg5:wr.heap.size < w5.heap.size:=Nat.lt_of_lt_of_le HzR.out.lt hg.size
   have HgM:Hid ((gs++[wr.heap.size])[m]? = some wr.heap.size):=Lib.hid (by rw [List.getElem?_append_right (by rw [HT.out.len];exact Nat.le_refl _),HT.out.len,Nat.sub_self];rfl)
   have hg0:W1.heap.size≤wr.heap.size:=hbz
   clear ho hg ha hno hmk hbl hbz y0 y1 y2 y3 y5
   generalize wr.heap.size=gM at *
   generalize gs++[gM]=gs' at *
   clear HT HT2 HB HlB HzR Hrl Hlc Hsz
   go_wp2_with fail
   go_loopw [9] (fun i wz=>∃ (p:Nat) (tab2:Nat→Nat→Nat),p≤ord.length∧i = .int .i64 (p:Int)∧Hid (TabO wz W1.heap.size A5 (m+1) c5 n2 gs' tab2)∧Hid (Told G ord tab2 m p)∧Hid (∀ k,m < k→∀ i,tab2 k i=0)∧Hid (Below W1.heap.size W1 wz)) (fun i _=>ord.length - (intOf i).toNat)
   case atStart=>exact ⟨0,tab,Nat.zero_le _,rfl,HT5,HD,Lib.hid fun k hk i=>HZ.out k (by omega) i,HB5⟩
   case round =>
    obtain ⟨p,tab2,hp,rfl,HT,HD2,HZ2,HB⟩:=hrel
    have hbx:=Hbx1.out.below HB.out
    have ⟨y5,y0,y1,y2,y3⟩:=hbx
    simp only [] at y0 y1 y2 y3
    clear hbx
    by_cases hpp:p < ord.length
    case neg =>
     obtain rfl:p=ord.length:=by omega
     have HDn:Hid (Told G ord tab2 (m+1) 0):=Lib.hid (HD2.out.row HO.out fun i=>HZ2.out (m+1) (by omega) i)
     have HZn:Hid (∀ k,m+1≤k→∀ i,tab2 k i=0):=Lib.hid fun k hk i=>HZ2.out k (by omega) i
     go_wp2_with fail
     go_roundw
     case rel=>exact ⟨m+1,A5,c5,gs',tab2,by omega,by go_num,rfl,HT,HDn,HZn,HB⟩
     case measure=>simp [intOf] <;> omega
    case pos =>
     have hBs:=alloc_below wr (.cells #[.slice none 0 0, .bool false] 46)
     have hXs:=Blk.new wr 46 #[.slice none 0 0, .bool false]
     obtain ⟨i0,Hi0⟩:∃ i0,Hid (ord[p]? = some i0):=⟨_,Lib.hid (List.getElem?_eq_getElem hpp)⟩
     have hi0:i0 < n2:=by rw [← e2];exact HO.out.lt i0 (List.mem_of_getElem? Hi0.out)
     have hwl:∀ g ∈ gs',g < wr.heap.size:=fun g hg=>by
      obtain ⟨j,hj⟩:=List.getElem?_of_mem hg
      exact (HT.out.row j g hj).2.lt
     have hwo:∀ b,(Value.slice A5 (m+1) c5).ownBlock=some b→b < wr.heap.size:=fun b hb=>(HT.out.own.lt b hb).2
     have HTs:=Lib.hid (HT.out.below hBs)
     have HBs0:=Lib.hid (HB.out.trans (hBs.mono HB.out.size))
     have hgs0:W1.heap.size≤wr.heap.size:=HB.out.size
     go_upto_region 11 with fail
     generalize wr.alloc (.cells #[.slice none 0 0, .bool false] 46)=WS at *
     generalize wr.heap.size=gS at *
     have HXs:=Lib.hid hXs
     have Hwl:=Lib.hid hwl
     have Hwo:=Lib.hid hwo
     clear hXs hwl hwo hBs HT HB y0 y1 y2 y3 y5
     go_wp2_with fail
     go_loopw [11] (fun i wz=>∃ (k:Nat) (As:Option Addr) (ns cs:Nat) (bs:Bool),k≤n3∧i = .int .i64 (k:Int)∧Hid (TabO wz W1.heap.size A5 (m+1) c5 n2 gs' tab2)∧Hid (Blk wz gS 46 #[.slice As ns cs, .bool bs])∧Hid (ValN wz As ns cs bs (rulesT (tabT tab2) (G.rules.take k) i0 m))∧Hid (Below W1.heap.size W1 wz)) (fun i _=>n3 - (intOf i).toNat)
     case atStart=>exact ⟨0,none,0,0,false,Nat.zero_le _,rfl,HTs,HXs,Lib.hid (ValN.zero _ _ _ (by omega)),HBs0⟩
     case round =>
      obtain ⟨k,As,ns,cs,bs,hk,rfl,HT,HX,HV,HB⟩:=hrel
      have hbx:=Hbx1.out.below HB.out
      have ⟨y5,y0,y1,y2,y3⟩:=hbx
      simp only [] at y0 y1 y2 y3
      clear hbx
      have x0:wr.cell? ⟨gS,0,none⟩=some (.slice As ns cs):=HX.out.cell 0
      have x1:wr.cell? ⟨gS,1,none⟩=some (.bool bs):=HX.out.cell 1
      have xl:=HX.out.lt
      obtain ⟨ob,oo,ov,rfl,hob,Hov,cov⟩:=(HI.out.below HB.out).get (j:=p) (by first | exact hpp | (simp [intsOf];exact hpp))
      have hov:ov=(i0:Int):=by have:=Hov.out;unfold intsOf at this;rw [List.getElem?_map,Hi0.out] at this;simpa using this.symm
      subst hov
      by_cases hkk:k < n3
      case neg =>
       obtain rfl:k=n3:=by omega
       as_aux_lemma =>
        have Hval:Hid (rulesT (tabT tab2) (G.rules.take k) i0 m=treeN G (-1 - (i0:Int)) m):=Lib.hid (by rw [List.take_of_length_le (by omega)];exact HD2.out.next HP.out HO.out Hi0.out)
        obtain ⟨tb,tu,rfl,_,htl,Htu,ctu,_⟩:=own_at HT.out.own (j:=m) (by omega)
        have htu:tu = .slice (some ⟨gM,0,none⟩) n2 n2:=by have:=Htu.out;rw [List.getElem?_map,HgM.out] at this;simpa using this.symm
        subst htu
        have hrow:=(HT.out.row m gM HgM.out).2
        obtain ⟨Aq,nq,cq,dq,g0,g1,_⟩:=hrow.get (j:=i0) (by simp;exact hi0)
        have fz0:=hrow.frozen (i0 * 2)
        have fz1:=hrow.frozen (i0 * 2+1)
        have hgl:=hrow.lt
        have HPut:=Lib.hid fun x:Ext wr=>(HT.out.below (bl_below wr x)).put HgM.out hi0 (HV.out.below (bl_below wr x))
        have hbsz:=HB.out.size
        have HDn:Hid (Told G ord (putTab tab2 m i0 (rulesT (tabT tab2) (G.rules.take k) i0 m)) m (p+1)):=Lib.hid (HD2.out.put Hi0.out _ Hval.out)
        have HZn:Hid (∀ k',m < k'→∀ i,putTab tab2 m i0 (rulesT (tabT tab2) (G.rules.take k) i0 m) k' i=0):=Lib.hid fun k' hk' i=>by unfold putTab;rw [if_neg (by omega)];exact HZ2.out k' hk' i
        clear hrow Hval
        generalize rulesT (tabT tab2) (G.rules.take k) i0 m=vN at *
        go_upto_region 16 with fail
        have bc:=bl_cell wr
        have bf:=bl_frozen wr
        refine wp_region_below_tail 10 (by kernel_rfl) (by kernel_rfl) ?_
        simp only [List.take_succ_cons,List.take_zero,List.drop_succ_cons,List.drop_zero]
        repeat (go_big_quiet_step (fail))
        refine wpQuiet_nil ?_
        rintro _ ⟨x,rfl⟩
        have c0:=(bc x gM (i0 * 2) hgl).trans g0
        have c1:=(bc x gM (i0 * 2+1) hgl).trans g1
        have d0:=(bf x gM (i0 * 2) hgl).trans fz0
        have d1:=(bf x gM (i0 * 2+1) hgl).trans fz1
        have hsx:=bl_size wr x
        go_wp2_with fail
        go_roundw
        case rel=>exact ⟨p+1,_,by omega,by go_num,Lib.hid (HPut.out x).1,HDn,HZn,Lib.hid ((HB.out.trans ((bl_below wr x).mono HB.out.size)).trans ((HPut.out x).2.is_below (Nat.le_trans hbsz hsx) fun k' hk'=>by omega))⟩
        case measure=>simp [intOf] <;> omega
      case pos =>
       obtain ⟨rb,roff,r,Ar,cr,rfl,hrb,Hr,q0,q1,q2,hrr⟩:=(Hg.out.below (below_tail HB1.out HB.out)).rules.get hkk
       have hmem:=List.mem_of_getElem? Hr.out
       obtain ⟨l1,l2⟩:=Hfit.out.left r hmem
       have hlen:=Hfit.out.len r hmem
       have hsy:=Hfit.out.symB hmem
       rw [e2] at hsy
       have Hnx:=Lib.hid (rulesT_take (T:=tabT tab2) Hr.out i0 m)
       obtain ⟨jl,hjl⟩:∃ jl:Nat,r.left=(jl:Int):=⟨r.left.toNat,by omega⟩
       have Hjl:Hid (r.left.toNat=jl):=Lib.hid (by omega)
       rw [hjl] at q0
       have bc:=bl_cell wr
       have Hsy:=Lib.hid hsy
       have Hrr:=Lib.hid hrr
       clear hsy hrr l1 l2 hjl hmem
       by_cases hji:jl=i0
       case neg =>
        as_aux_lemma =>
         have hcmp:((jl:Int) == (i0:Int))=false:=by rw [beq_eq_false_iff_ne];omega
         have hVn:rulesT (tabT tab2) (G.rules.take (k+1)) i0 m=rulesT (tabT tab2) (G.rules.take k) i0 m:=by rw [Hnx.out,if_neg (by rw [Hjl.out];exact hji),Nat.add_zero]
         have HVn:=Lib.hid hVn
         clear hji hVn Hnx
         go_upto_region 14 with fail
         refine wp_region_below (by kernel_rfl) (by kernel_rfl) ?_
         repeat (go_big_quiet_step (fail))
         refine wpQuiet_nil ?_
         rintro _ ⟨x,rfl⟩
         go_wp2_with fail
         go_roundw
         case rel=>exact ⟨k+1,As,ns,cs,bs,by omega,by go_num,Lib.hid (HT.out.below (bl_below wr x)),Lib.hid (Blk.ext HX.out (bl_below wr x)),Lib.hid (by rw [HVn.out];exact HV.out.below (bl_below wr x)),Lib.hid (HB.out.trans ((bl_below wr x).mono HB.out.size))⟩
         case measure=>simp [intOf] <;> omega
       case pos =>
        subst hji
        have hcmp:((jl:Int) == (jl:Int))=true:=by simp
        have hVn:rulesT (tabT tab2) (G.rules.take (k+1)) jl m=rulesT (tabT tab2) (G.rules.take k) jl m+forestT (tabT tab2) r.right m:=by rw [Hnx.out,if_pos Hjl.out]
        have HVn:=Lib.hid hVn
        clear hVn Hnx
        generalize rulesT (tabT tab2) (G.rules.take k) jl m=vN at *
        go_upto_region 14 with fail
        refine wp_region_below (by kernel_rfl) (by kernel_rfl) ?_
        repeat (go_big_quiet_step (fail))
        refine wpQuiet_nil ?_
        rintro _ ⟨x,rfl⟩
        have HTx:=Lib.hid (HT.out.below (bl_below wr x))
        have HXx:=Lib.hid (Blk.ext HX.out (bl_below wr x))
        have HVx:=Lib.hid (HV.out.below (bl_below wr x))
        have HBx:=Lib.hid (HB.out.trans ((bl_below wr x).mono HB.out.size))
        have hrb2:rb < (bl wr x).heap.size:=Nat.lt_of_lt_of_le hrb (bl_size wr x)
        have q0':=(bc x rb (roff+k * 3) hrb).trans q0
        have q1':=(bc x rb (roff+k * 3+1) hrb).trans q1
        have Hrrx:=Lib.hid (Hrr.out.below (bl_below wr x))
        generalize bl wr x=WY at *
        clear HT HX HV HB Hrr q0 q1 q2 bc hrb x0 x1 xl cov y0 y1 y2 y3 y5 x
        have ⟨y5,y0,y1,y2,y3⟩:=Hbx1.out.below HBx.out
        simp only [] at y0 y1 y2 y3
        have x0:WY.cell? ⟨gS,0,none⟩=some (.slice As ns cs):=HXx.out.cell 0
        have x1:WY.cell? ⟨gS,1,none⟩=some (.bool bs):=HXx.out.cell 1
        have xl:=HXx.out.lt
        go_upto_region 15 with fail
        refine wp_region_grow1 (fun X=>Below WY.heap.size WY X) (fun X X'=>Below X.heap.size X X') (fun u=>(⟨(GV ⟨a1,n1,c1,a2,n2,c2,some ⟨rb,roff,none⟩,n3,c3⟩ G.start::Value.int IntKind.i64 (n:Int)::Value.pointer (some ⟨w.heap.size,0,none⟩)::undef::Value.slice none 0 0::Value.slice A5 (m+1) c5::Value.slice (some ⟨ob,oo,none⟩) ord.length co::Value.int IntKind.i64 er::Value.int IntKind.i64 (m:Int)::Value.int IntKind.i64 (p:Int)::Value.pointer (some ⟨gS,0,none⟩)::Value.int IntKind.i64 (k:Int)::Value.tuple #[Value.slice (some ⟨ob,oo,none⟩) ord.length co,Value.int IntKind.i64 er]::Value.agg #[Value.slice a1 n1 c1,Value.slice a2 n2 c2,Value.slice (some ⟨rb,roff,none⟩) n3 c3,Value.int IntKind.i64 G.start]::Value.tuple #[Value.slice (some ⟨ob,oo,none⟩) ord.length co,Value.int IntKind.i64 er]::Value.slice (some ⟨ob,oo,none⟩) ord.length co::Value.int IntKind.i64 er::Value.int IntKind.i64 (m:Int)::Value.int IntKind.i64 (n:Int)::Value.bool true::u20::u21::Value.slice A m c::Value.pointer (some ⟨w.heap.size,1,none⟩)::Value.slice a2 n2 c2::Value.int IntKind.i64 (n2:Int)::Value.slice (some ⟨gM,0,none⟩) n2 n2::Value.slice (some ⟨gM+1,0,none⟩) 1 1::Value.slice A5 (m+1) c5::Value.int IntKind.i64 (p:Int)::Value.slice (some ⟨ob,oo,none⟩) ord.length co::Value.int IntKind.i64 (ord.length:Int)::Value.bool true::u33::u34::Value.agg #[Value.slice none 0 0,Value.bool false]::Value.int IntKind.i64 (k:Int)::Value.pointer (some ⟨w.heap.size,2,none⟩)::Value.slice (some ⟨rb,roff,none⟩) n3 c3::Value.int IntKind.i64 (n3:Int)::Value.bool true::u41::u42::Value.pointer (some ⟨w.heap.size,2,none⟩)::Value.slice (some ⟨rb,roff,none⟩) n3 c3::Value.int IntKind.i64 (k:Int)::Value.pointer (some ⟨rb,roff+k * 3,none⟩)::Value.pointer (some ⟨rb,roff+k * 3,none⟩)::Value.int IntKind.i64 (jl:Int)::Value.slice (some ⟨ob,oo,none⟩) ord.length co::Value.int IntKind.i64 (p:Int)::Value.pointer (some ⟨ob,oo+p,none⟩)::Value.int IntKind.i64 (jl:Int)::Value.bool true::u 0::u 1::u 2::u 3::u 4::u 5::u 6::u 7::u 8::u 9::u 10::u65::u66::u67::u68::u69::u70::u71::u72::u73::u74::undef::[]).toArray,[]⟩:Act)) [u54,u55,u56,u57,u58,u59,u60,u61,u62,u63,u64] [fun v X=>v=Value.agg #[Value.slice As ns cs,Value.bool bs],fun v X=>v=Value.slice A5 (m+1) c5,fun v X=>v=Value.pointer (some ⟨w.heap.size,2,none⟩),fun v X=>v=Value.slice (some ⟨rb,roff,none⟩) n3 c3,fun v X=>v=Value.int .i64 (k:Int),fun v X=>v=Value.pointer (some ⟨rb,roff+k * 3,none⟩),fun v X=>v=Value.pointer (some ⟨rb,roff+k * 3+1,none⟩),fun v X=>v=Value.slice Ar r.right.length cr,fun v X=>v=Value.int .i64 (m:Int),fun v X=>∃ A n c b,v=Value.agg #[Value.slice A n c,Value.bool b]∧ValN X A n c b (forestT (tabT tab2) r.right m),fun v X=>∃ A n c b,v=Value.agg #[Value.slice A n c,Value.bool b]∧ValN X A n c b (vN+forestT (tabT tab2) r.right m)] (fun u X=>∃ At nt ct dt,TabO X W1.heap.size A5 (m+1) c5 n2 gs' tab2∧Blk X gS 46 #[Value.slice At nt ct,Value.bool dt]∧ValN X At nt ct dt (vN+forestT (tabT tab2) r.right m)∧Below W1.heap.size W1 X) (l:=[_,_,_,_,_,_,_,_,_,_,_]) (by kernel_rfl) (by kernel_rfl) (by kernel_rfl) rfl rfl (Below.refl _ _).drew ⟨fun _ _ _ h _=>h,fun _ _ _ h _=>h,fun _ _ _ h _=>h,fun _ _ _ h _=>h,fun _ _ _ h _=>h,fun _ _ _ h _=>h,fun _ _ _ h _=>h,fun _ _ _ h _=>h,fun _ _ _ h _=>h,(fun _ _ _ ⟨A,n,c,b,e,h⟩ hb=>⟨A,n,c,b,e,h.below hb⟩),(fun _ _ _ ⟨A,n,c,b,e,h⟩ hb=>⟨A,n,c,b,e,h.below hb⟩),trivial⟩ ?_ ?_ ?_
        · refine StepsF.cons rfl (fun _ _=>rfl) (fun Q u X hBX hp KK hKK=>?_) ?_
          · have cg0:=(hBX.cell (p:=⟨gS,0,none⟩) xl).trans x0
            have cg1:=(hBX.cell (p:=⟨gS,1,none⟩) xl).trans x1
            go_simp
            exact hKK _ _ hBX (Below.refl _ _) rfl
          refine StepsF.cons rfl (fun _ _=>rfl) (fun Q u X hBX hp KK hKK=>?_) ?_
          · go_simp
            exact hKK _ _ hBX (Below.refl _ _) rfl
          refine StepsF.cons rfl (fun _ _=>rfl) (fun Q u X hBX hp KK hKK=>?_) ?_
          · have hyl:=Nat.lt_of_lt_of_le y5 hBX.size
            go_simp
            exact hKK _ _ hBX (Below.refl _ _) rfl
          refine StepsF.cons rfl (fun _ _=>rfl) (fun Q u X hBX hp KK hKK=>?_) ?_
          · have p2:u 2=_:=hp 2 rfl
            clear hp
            generalize u 2=x2 at *
            subst p2
            have cg0:=(hBX.cell (p:=⟨w.heap.size,2,none⟩) y5).trans y2
            go_simp
            exact hKK _ _ hBX (Below.refl _ _) rfl
          refine StepsF.cons rfl (fun _ _=>rfl) (fun Q u X hBX hp KK hKK=>?_) ?_
          · go_simp
            exact hKK _ _ hBX (Below.refl _ _) rfl
          refine StepsF.cons rfl (fun _ _=>rfl) (fun Q u X hBX hp KK hKK=>?_) ?_
          · have p3:u 3=_:=hp 3 rfl
            have p4:u 4=_:=hp 4 rfl
            clear hp
            generalize u 3=x3 at *
            subst p3
            generalize u 4=x4 at *
            subst p4
            go_simp
            exact hKK _ _ hBX (Below.refl _ _) rfl
          refine StepsF.cons rfl (fun _ _=>rfl) (fun Q u X hBX hp KK hKK=>?_) ?_
          · have p5:u 5=_:=hp 5 rfl
            clear hp
            generalize u 5=x5 at *
            subst p5
            go_simp
            exact hKK _ _ hBX (Below.refl _ _) rfl
          refine StepsF.cons rfl (fun _ _=>rfl) (fun Q u X hBX hp KK hKK=>?_) ?_
          · have p6:u 6=_:=hp 6 rfl
            clear hp
            generalize u 6=x6 at *
            subst p6
            have cg0:=(hBX.cell (p:=⟨rb,roff+k * 3+1,none⟩) hrb2).trans q1'
            go_simp
            exact hKK _ _ hBX (Below.refl _ _) rfl
          refine StepsF.cons rfl (fun _ _=>rfl) (fun Q u X hBX hp KK hKK=>?_) ?_
          · go_simp
            exact hKK _ _ hBX (Below.refl _ _) rfl
          refine StepsF.cons rfl (fun _ _=>rfl) (fun Q u X hBX hp KK hKK=>?_) ?_
          · have p1:u 1=_:=hp 1 rfl
            have p7:u 7=_:=hp 7 rfl
            have p8:u 8=_:=hp 8 rfl
            clear hp
            generalize u 1=x1 at *
            subst p1
            generalize u 7=x7 at *
            subst p7
            generalize u 8=x8 at *
            subst p8
            have hTM:=HTx.out.tab.below hBX
            have hRR:=Hrrx.out.below hBX
            go_simp
            (with_reducible refine (rf_Forest A5 (m+1) c5 n2 tab2 Ar cr r.right m X hTM (Nat.lt_succ_self m) (by omega) (by omega) hRR (by omega) fun s hs=>by have:=Hsy.out s hs;omega).mono ?_)
            rintro e w2 ⟨hB2,Ar2,nr,cr2,dr,rfl,hvr⟩
            go_simp
            exact hKK _ _ (below_tail hBX hB2) hB2 ⟨Ar2,nr,cr2,dr,rfl,hvr⟩
          refine StepsF.cons rfl (fun _ _=>rfl) (fun Q u X hBX hp KK hKK=>?_) ?_
          · have p0:u 0=_:=hp 0 rfl
            obtain ⟨Ar2,nr,cr2,dr,p9,hvr⟩:=hp 9 rfl
            clear hp
            generalize u 0=x0 at *
            subst p0
            generalize u 9=x9 at *
            subst p9
            have hva:=HVx.out.below hBX
            go_simp
            (with_reducible refine (rf_Plus As ns cs bs _ Ar2 nr cr2 dr _ X hva hvr).mono ?_)
            rintro e w2 ⟨hB2,At,nt,ct,dt,rfl,hvs⟩
            go_simp
            exact hKK _ _ (below_tail hBX hB2) hB2 ⟨At,nt,ct,dt,rfl,hvs⟩
          exact StepsF.nil
        · intro Q u X hBX hp KK hKK
          obtain ⟨At,nt,ct,dt,p10,hvs⟩:=hp 10 (by decide)
          clear hp
          generalize u 10=x10 at *
          subst p10
          have hXX:=Blk.ext HXx.out hBX
          have hvs2:=valcell_set hXX At nt ct dt
          have cg0:X.cell? ⟨gS,0,none⟩=some (.slice As ns cs):=hXX.cell 0
          have cg1:X.cell? ⟨gS,1,none⟩=some (.bool bs):=hXX.cell 1
          have fz0:=hXX.frozen 0
          have fz1:=hXX.frozen 1
          have hxl:=hXX.lt
          have hTX:=(HTx.out.below hBX).off hvs2.1 (fun b hb e=>by have:=Hwo.out b hb;omega) (fun g hg e=>by have:=Hwl.out g hg;omega) hvs2.2.2
          have hBW:=(HBx.out.trans (hBX.mono HBx.out.size)).trans (hvs2.1.is_below (Nat.le_trans HBx.out.size hBX.size) fun k' hk'=>by omega)
          have Hfin:=Lib.hid (And.intro hTX (And.intro hvs2.2.1 (And.intro (hvs.kept hvs2.2.2) hBW)))
          clear hTX hBW hvs2 hXX
          go_simp
          exact hKK (fun i=>([u 0,u 1,u 2,u 3,u 4,u 5,u 6,u 7,u 8,u 9,Value.agg #[Value.slice At nt ct,Value.bool dt]]:List Value).getD i undef) _ (⟨At,nt,ct,dt,Hfin.out⟩)
        intro u W9 hfin
        obtain ⟨A9,n9,c9,b9,g1,g2,g3,g4⟩:=hfin
        have Hg1:=Lib.hid g1
        have Hg2:=Lib.hid g2
        have Hg4:=Lib.hid g4
        rw [← HVn.out] at g3
        have Hg3:=Lib.hid g3
        clear g1 g2 g3 g4 x0 x1 q0' q1' y0 y1 y2 y3 y5
        go_wp2_with fail
        go_roundw
        case rel=>exact ⟨k+1,A9,n9,c9,b9,by omega,by go_num,Hg1,Hg2,Hg3,Hg4⟩
        case measure=>simp [intOf] <;> omega
end Go.Proofs.YtggbjdmpjidhgaaGreatDoor
