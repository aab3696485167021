/- ranks: a maker's forest (walked). -/
import Derived.Test.YtaagompdgiobeaaGreatDoorV20
import Derived.Test.YtaagompdgiobeaaGreatDoorV21
set_option linter.all false
set_option maxHeartbeats 1500000
set_option maxRecDepth 100000
namespace Go.Proofs.YtaagompdgiobeaaGreatDoor
open Go.RowKit Go.Proofs.Tryz
variable{v:Value}{p:List MemPlace}
theorem tr_open(h:GH)(G:Gr)(w:World):
 Calls prog 48 #[GV h G.start] w λe w'=>∃gc k,e = .returned (.pointer (some ⟨gc,0,none⟩))/\Wd w ⟨gc,k⟩ h G (λ_=>False) w'/\w.heap.size<=gc/\gc<w'.heap.size:=by
 obtain⟨a1,n1,c1,a2,n2,c2,a3,n3,c3⟩:=h;have g:=Zy w (.cells #[.slice a1 n1 c1,.slice a2 n2 c2,.slice a3 n3 c3,.int .i64 G.start] 26);have b:=Blk.new w 26 #[.slice a1 n1 c1,.slice a2 n2 c2,.slice a3 n3 c3,.int .i64 G.start];have o:=@run_makeMap prog;go_enter func48,ntmps48;go_upto_region 1 with fail;generalize w.alloc (.cells #[.slice a1 n1 c1,.slice a2 n2 c2,.slice a3 n3 c3,.int .i64 G.start] 26)=a at *;have q:a.cell? ⟨w,0,none⟩=some (.slice a1 n1 c1):=b.cell 0;have r:a.cell? ⟨w,1,none⟩=some (.slice a2 n2 c2):=b.cell 1;have s:a.cell? ⟨w,2,none⟩=some (.slice a3 n3 c3):=b.cell 2;have t:a.cell? ⟨w,3,none⟩=some (.int .i64 G.start):=b.cell 3;have u:=b.lt;have c:=LH g;clear g b;go_wp2_with fail;go_ret;have m:=Vv.made a prog 220;have l:=Zy a (.map #[] 0);have n:(a.alloc (.map #[] 0)).heap.size=a.heap.size+1:=AE
 have j:=Zy (a.alloc (.map #[] 0)) (.cells #[.slice a1 n1 c1,.slice a2 n2 c2,.slice a3 n3 c3,.int .i64 G.start,.map (some a)] 164);have d:=Blk.new (a.alloc (.map #[] 0)) 164 #[.slice a1 n1 c1,.slice a2 n2 c2,.slice a3 n3 c3,.int .i64 G.start,.map (some a)];rw[n] at d;refine⟨a+1,a.heap.size,rfl,⟨Zz (Zz c.out l) j,d,c.out.size,[],m.below j,λp f=>(by cases f),λp f=>(by cases f)⟩,by have:=c.out.size;omega,d.lt⟩
theorem Zqx(a:Option Addr)(n c1:Nat)(xs:List Nat)(w:World)(h1:Zq .u32 w a n c1 xs)(o:Lim xs):
 Calls prog 46 #[.slice a n c1] w λe w'=>e = .returned (.int .i64 (Zrs xs:Int))/\Below w w w':=by
 have d:Calls prog 104 #[.int .u64 1] w (Bq w (limbs 1)):=nat_of 1 w AC;have g:=LH d;have h:Hid (Zz9 (Mw xs (limbs 1)).1=Zrs xs):=rfl;have f:=LH (Z9 1);have j:=LH (Zqc xs (limbs 1));generalize limbs 1=os at *;go_enter func46,ntmps46;go_wp2_with (first
  | (go_at_call 104;refine g.out.mono ?_;rintro e w1⟨A,c,rfl,l,b⟩)
  | (go_at_call 103;refine (nat_sub _ _ _ _ _ _ _ _ _ (h1.below b) l o f.out).mono ?_;rintro e r⟨p,q,rfl,m,k⟩)
  | (go_at_call 105;refine (Zqb _ _ _ _ _ m j.out).mono ?_;rintro e s⟨rfl,rfl⟩;rw[h]))
 go_ret;exact⟨rfl,Zz b k⟩
theorem Zqe(a:Option Addr)(n c1:Nat)(xs:List Nat)(w:World)(h1:Zq .u32 w a n c1 xs)(b:Lim xs):
 Calls prog 43 #[.slice a n c1] w λe w'=>e = .returned (.int .i64 (B9 xs:Int))/\Below w w w':=by
 have f:=Zr5 xs b;have c:Hid (((Zrs xs:Int)+32-1) / 32=(B9 xs:Int)):=LH (by unfold B9;omega);go_enter func43,ntmps43;go_wp2_with (go_at_call 46;refine (Zqx _ _ _ _ _ h1 b).mono ?_;rintro e w1⟨rfl,d⟩);go_ret;exact⟨by rw[<-c];rfl,d⟩
section
open Go.RowKit Go.Shelf
attribute [local go_sem] Oper.semAt_some
open Go.RowKit Go.Shelf
theorem Zrv{w W c:World}(h:Zqy w W v)(a:Below W W c):Zqy w c v:=⟨Boxed.below h.b a,Boxed.below h.r0 a,Boxed.below h.r1 a,Boxed.below h.r2 a⟩
theorem draw_below_early(k:Option Addr)(n c1:Nat)(xs:List Nat)(p:Option Addr)(m c2:Nat)(b:List Nat)(w:World)(h1:Zq .u32 w k n c1 xs)(r:Zq .u32 w p m c2 b)(y:Lim xs)(L:Lim b)(d:Zm xs=false\/xs.length=0\/1000<b.length\/B9 xs=0):
 Calls prog 23 #[.slice k n c1,.slice p m c2] w (RetDraw w (X5 xs b)):=by
 obtain rfl:=h1.len;obtain rfl:=r.len;by_cases g:Zm xs=true
 case neg =>
  have z:Zm xs=false:=by simpa using g
  have a:X5 xs b=([],0,1):=by simp[X5,z]
  clear g d;rw[a];clear a;go_enter func23,ntmps23;go_wp2_with ((go_at_call 42;(with_reducible refine (Zb _ _ _ _ _ (h1.below (Zrt _ _))).mono ?_);rintro e w'⟨rfl,rfl⟩));refine AW (v := .tuple #[.slice none 0 0,.int .i64 0,.int .i64 1]) (by simp[results,Tryz.results23,go_sem]) rfl ?_;unfold RetDraw;exact⟨none,0,rfl,Zq.nil _ _ _ _ AE,(((((AL _ _).alloc (AJ _) _).alloc AE _).alloc AG _).alloc AG _)⟩
 by_cases f:xs.length=0
 case pos =>
  have a:X5 xs b=([],0,1):=by simp[X5,f]
  have u:((xs.length:Int)==0)=true:=by simp[f]
  clear f d;rw[a];clear a;go_enter func23,ntmps23;go_wp2_with ((go_at_call 42;(with_reducible refine (Zb _ _ _ _ _ (h1.below (Zrt _ _))).mono ?_);rintro e w'⟨rfl,rfl⟩));refine AW (v := .tuple #[.slice none 0 0,.int .i64 0,.int .i64 1]) (by simp[results,Tryz.results23,go_sem]) rfl ?_;unfold RetDraw;exact⟨none,0,rfl,Zq.nil _ _ _ _ AE,(((((AL _ _).alloc (AJ _) _).alloc AE _).alloc AG _).alloc AG _)⟩
 have u:((xs.length:Int)==0)=false:=by rw[AQ];omega
 by_cases q:1000<b.length
 case pos =>
  have a:X5 xs b=([],0,5):=by simp[X5,g,f,q]
  clear d;rw[a];clear a;go_enter func23,ntmps23;go_wp2_with ((go_at_call 42;(with_reducible refine (Zb _ _ _ _ _ (h1.below (Zrt _ _))).mono ?_);rintro e w'⟨rfl,rfl⟩));refine AW (v := .tuple #[.slice none 0 0,.int .i64 0,.int .i64 5]) (by simp[results,Tryz.results23,go_sem]) rfl ?_;unfold RetDraw;exact⟨none,0,rfl,Zq.nil _ _ _ _ AE,(((((AL _ _).alloc (AJ _) _).alloc AE _).alloc AG _).alloc AG _)⟩
 have o:B9 xs=0:=by
  rcases d with h | h | h | h
  ·rw[g] at h;cases h
  ·omega
  ·omega
  exact h
 ·have a:X5 xs b=([],0,0):=by simp[X5,g,f,q,o]
  have G:((B9 xs:Int)==0)=true:=by simp[o]
  clear d o;rw[a];clear a;go_enter func23,ntmps23;go_wp2_with (first | (go_at_call 42;(with_reducible refine (Zb _ _ _ _ _ (h1.below (Zrt _ _))).mono ?_);rintro e w'⟨rfl,rfl⟩) | (go_at_call 43;(with_reducible refine (Zqe _ _ _ _ _ (h1.below (Zrt _ _)) y).mono ?_);rintro e w1⟨rfl,j⟩;have t:=Zrv (Zq1 w _) j;have x:=j.size;rw[Zr4] at x;have s:=(Zrt w (.slice k xs.length c1)).trans (j.mono (by rw[Zr4];omega));clear j;have c:=Zrh t (.cells #[.int .i64 ((B9 xs:Nat):Int)] 3);have H:=Boxed.cell c.r0;have I:=Boxed.cell c.r1;have J:=Boxed.cell c.r2;have D:=Boxed.frozen c.r0;have E:=Boxed.frozen c.r1;have F:=Boxed.frozen c.r2));have l:=Zr9 c (.slice none 0 0) (.int .i64 0) (.int .i64 0);have A:=Boxed.cell l.1;have B:=Boxed.cell l.2.1;have C:=Boxed.cell l.2.2;refine AW (v := .tuple #[.slice none 0 0,.int .i64 0,.int .i64 0]) (by simp[results,Tryz.results23,go_sem,A,B,C]) rfl ?_;unfold RetDraw;exact⟨none,0,rfl,Zq.nil _ _ _ _ AE,((((s.alloc AA _).setCell (by simp <;> omega) _).setCell (by simp <;> omega) _).setCell (by simp <;> omega) _)⟩
end
section
open Go.RowKit Go.Shelf
attribute [local go_sem] Oper.semAt_some
open Go.RowKit Go.Shelf
open Go.RowKit Go.Shelf
attribute [local go_sem] Oper.semAt_some
theorem draw_below_loop(A1:Option Addr)(n c1:Nat)(xs:List Nat)(u:Option Addr)(m c2:Nat)(d:List Nat)(w:World)(h1:Zq .u32 w A1 n c1 xs)(h2:Zq .u32 w u m c2 d)(S:Lim xs)(lw:Lim d)(r1:Zm xs=true)(de:xs.length≠0)(hw:d.length<=1000)(bh:B9 xs≠0):
 Calls prog 23 #[.slice A1 n c1,.slice u m c2] w (RetDraw w (X5 xs d)):=by
 obtain rfl:=h1.len;obtain rfl:=h2.len;have d0:((xs.length:Int)==0)=false:=by rw[AQ];omega
 have c9:((B9 xs:Int)==0)=false:=by rw[AQ];omega
 have bg:X5 xs d=Zrr (val xs) (Zrs xs) (B9 xs) (d.length+1) 0 d:=by simp[X5,r1,de,bh];omega
 have cb:=Zr5 xs S;have c7:=Zqf xs bh;have b5:B9 xs<=32:=AA
 obtain⟨N,HN⟩:∃N,Hid (B9 xs=N):=⟨_,LH rfl⟩;obtain⟨K,T⟩:∃K,Hid (Zrs xs=K):=⟨_,LH rfl⟩;rw[HN,T] at bg;rw[HN] at c9 bh b5;rw[T] at cb;rw[HN,T] at c7;rw[bg];have ad:0<N:=AA
 obtain⟨b,H,hA⟩:∃b H,0<d.length->u=some ⟨b,H,none⟩:=by
  rcases BY d.length with h | h
  ·exact⟨0,0,λh'=>AA⟩
  obtain⟨b,H,e,_⟩:=h2.at_ h;exact⟨b,H,λ_=>e⟩
 have b2:=h2.cap;refine (callsIn_wide (n:=5)).1 ?_;refine callsIn_of_wp_marks func23 rfl trivial ?_ rfl;simp only[ntmps23,List.size_toArray,AY,DE,Nat.reduceAdd,Nat.reduceSub,Array.replicate_succ,Array.replicate_zero,List.push_toArray,List.append_toArray,DA,DM]
 gi_wp2_with (first
  | (refine⟨trivial,?_⟩;gi_at_call 42;refine (callsIn_wide.2 (Zb _ _ _ _ _ (h1.below (Zrt _ _)))).mono ?_;rintro e w'⟨rfl,rfl⟩)
  | (refine⟨trivial,?_⟩;gi_at_call 43;refine (callsIn_wide.2 (Zqe _ _ _ _ _ (h1.below (Zrt _ _)) S)).mono ?_;rintro e w1⟨rfl,au⟩;have g:=Zrv (Zq1 w _) au;have hz:=au.size;rw[Zr4] at hz;have bx:=(Zrt w (.slice A1 xs.length c1)).trans (au.mono (by rw[Zr4];omega));rw[HN])
  | (refine⟨trivial,?_⟩;gi_at_call 44;refine (callsIn_wide.2 (chunk_in _ _ _ _ ad _)).mono ?_;rintro e w2⟨rfl,rfl⟩))
 have b7:=Boxed.new w1 3 (.int .i64 (N:Int));have b8:=Boxed.new (w1.alloc (.cells #[.int .i64 (N:Int)] 3)) 3 (.int .i64 0);have bs:=Boxed.new ((w1.alloc (.cells #[.int .i64 (N:Int)] 3)).alloc (.cells #[.int .i64 0] 3)) 27 (.slice u d.length c2);have bn:=Boxed.new (((w1.alloc (.cells #[.int .i64 (N:Int)] 3)).alloc (.cells #[.int .i64 0] 3)).alloc (.cells #[.slice u d.length c2] 27)) 3 (.int .i64 (N:Int));simp only[World.size_alloc] at b8 bs bn;have b7:=((b7.alloc (.cells #[.int .i64 0] 3)).alloc (.cells #[.slice u d.length c2] 27)).alloc (.cells #[.int .i64 (N:Int)] 3);have b8:=(b8.alloc (.cells #[.slice u d.length c2] 27)).alloc (.cells #[.int .i64 (N:Int)] 3);have bs:=bs.alloc (.cells #[.int .i64 (N:Int)] 3);have hU:=Zrh (Zrh (Zrh (Zrh g (.cells #[.int .i64 (N:Int)] 3)) (.cells #[.int .i64 0] 3)) (.cells #[.slice u d.length c2] 27)) (.cells #[.int .i64 (N:Int)] 3);have cy:Below w w ((((w1.alloc (.cells #[.int .i64 (N:Int)] 3)).alloc (.cells #[.int .i64 0] 3)).alloc (.cells #[.slice u d.length c2] 27)).alloc (.cells #[.int .i64 (N:Int)] 3)) :=
  ((((bx.alloc AA _).alloc (by simp <;> omega) _).alloc (by simp <;> omega) _).alloc (by simp <;> omega) _)
 have dz:((((w1.alloc (.cells #[.int .i64 (N:Int)] 3)).alloc (.cells #[.int .i64 0] 3)).alloc (.cells #[.slice u d.length c2] 27)).alloc (.cells #[.int .i64 (N:Int)] 3)).heap.size=w1.heap.size+1+1+1+1:=AE
 generalize ((((w1.alloc (.cells #[.int .i64 (N:Int)] 3)).alloc (.cells #[.int .i64 0] 3)).alloc (.cells #[.slice u d.length c2] 27)).alloc (.cells #[.int .i64 (N:Int)] 3))=wS at *
 refine' wpIn_rangeFunc_ownF (F:=Fence.wide) (n:=5) rfl AC (gf:=101) (lb:=#[.pointer (some ⟨w1+1+1,0,none⟩),.pointer (some ⟨w1+1+1+1,0,none⟩)]) rfl trivial (enters_of func101 AB rfl)
  (chunk_stops 4 AC (w1.heap.size+1+1) (w1.heap.size+1+1+1) b H d.length c2 N u hA ad AA hw b2.1 b2.2 wS AA AA bs.cell bn.cell)
  (λh k=>Zrq.t h k) (Zrq.b AA AA) (AL _ _) (λ_=>rfl)
  (λB W=>IBel w w1 d (.slice A1 xs.length c1) (val xs) K N B W)
  (λc B W=>XBel w w1 d (val xs) K N c B W)
  (OwnFrom.and ((ib_own w w1 d _ _ K N).from _) (ownFrom_below (AJ _) AA))
  (λc=>OwnFrom.and ((xb_own w w1 d _ K N c).from _) (ownFrom_below (AJ _) AA))
  ⟨⟨hU,b7,by simpa using b8,AA,λx G=>by cases G⟩,cy⟩ _ ?_ ?_ ?_ ?_
 rotate_left
 ·intro l x W Kx A;simp only[encP]
  gi_wp2
  exact A
 ·rintro l B ⟨⟨E,f⟩,aa,ab⟩ W ⟨⟨g,bc,Z,cc,L⟩,I⟩ dx;have da:N*B.length<=1000000:=by
   have:=Nat.mul_le_mul b5 (show B.length<=1000 by omega);omega
  obtain⟨U,HU⟩:∃U,Hid (N*B.length=U):=⟨_,LH rfl⟩;rw[HU] at da Z;have k0:=Boxed.cell g.b;have k1:=Boxed.cell g.r0;have k2:=Boxed.cell g.r1;have k3:=Boxed.cell g.r2;have k7:=Boxed.cell bc;have k8:=Boxed.cell Z;have f8:=Boxed.frozen Z;by_cases hm:f<N
  ·gi_wp2
   exact⟨KeepsOthers.setCell _ _ _,⟨B,_,rfl,L,.inr ⟨rfl,hm,_,Zqa g AA _⟩⟩,I.setCell (by simp <;> omega) _⟩
  have c6:f=N:=by simp at ab;omega
  subst c6;have db:E+f<=d.length:=aa;have bw:=hA AA;have cx:Zq .u32 w (some ⟨b,H,none⟩) d.length c2 d:=by rw[<-bw];exact h2
  obtain⟨ps,a0⟩:∃ps,Hid (Zrp d (⟨(E,f),aa,ab⟩:Zrl d.length f)=ps):=⟨_,LH rfl⟩;have a1:Hid ((d.drop E).take f=ps):=a0.out;have ca:ps.length=f:=by rw[<-a1,BS,BT];omega
  have lp:Lim ps:=by rw[<-a1];exact (lw.drop E).take f
  have O:=I.setCell (p:=⟨w1+1,0,none⟩) (by simp <;> omega) (.int .i64 ((U:Int)+(f:Int)));have ba:=Zqa g (b:=w1.heap.size+1) AA (.int .i64 ((U:Int)+(f:Int)));have c5:=Boxed.far bc (b:=w1.heap.size+1) AA (.int .i64 ((U:Int)+(f:Int)));have b0:=Boxed.set (.int .i64 ((U:Int)+(f:Int))) Z;have bz:=KeepsOthers.setCell W ⟨w1+1,0,none⟩ (.int .i64 ((U:Int)+(f:Int)));have c0:=keep2_far (a:=w1.heap.size+1+1) (b:=w1.heap.size+1+1+1) (c:=w1.heap.size+1) W AA AA (.int .i64 ((U:Int)+(f:Int)));have ce:(W.setCell ⟨w1+1,0,none⟩ (.int .i64 ((U:Int)+(f:Int)))).heap.size=W.heap.size:=AE
  have b9:∀C,Below w w C->Zq .u32 C (some ⟨b,H+E,none⟩) f f ps:=λC a5=>by
   have:=(cx.below a5).part E f f db (AJ _) AA;rwa [a1] at this
  have cl:=LH b9;have d3:=Boxed.cell ba.b;have bm:Hid (oneOf K ps=limbs (val ps % 2 ^ K)):=rfl;have b1:=one_big K (val ps) cb;have M:=LH (one_cmp xs r1 _ b1);obtain⟨t,Ht⟩:∃t,Hid (val ps % 2 ^ K=t):=⟨_,LH rfl⟩;rw[Ht] at bm M;obtain⟨cv,ay⟩:∃cv,Hid (Vq (limbs t) xs=cv):=⟨_,LH rfl⟩;rw[ay] at M;have bf:=M.out;rw[decide_eq_decide] at bf;replace M:=LH bf;have bk:=LH (Z9 t);have al:=LH ca;have b6:∀C,Below w w C->Calls prog 45 #[.slice (some ⟨b,H+E,none⟩) f f,.int .i64 (K:Int)] C (Bq C (limbs t)):=λC a5=>by
   have:=draw_number _ _ _ ps K C (cl C a5) lp (by rw[al];omega) (by rw[al];omega) (by rw[al];omega) (by rw[al];omega);rwa [bm] at this
  have bl:=LH b6;have az:=LH L;by_cases R:t<val xs
  ·have c8:cv<0:=M.2 R;have a3:=LH R
   gi_wp2_with (first
    | (refine⟨trivial,?_⟩;gi_at_call 46;refine (CallsIn.inRound l (callsIn_wide.2 (Zqx _ _ _ _ _ (h1.below O) S))).mono ?_;rintro e W3⟨rfl,s⟩;rw[T];have J:=O.trans (s.mono O.size);have bb:=Zrv ba s;have bd:=Boxed.below b0 s;have q:=bz.trans (Zru s);have cf:=BC (Nat.le_of_eq ce.symm) s.size)
    | (refine⟨trivial,?_⟩;gi_at_call 45;refine (CallsIn.inRound l (callsIn_wide.2 (bl.out _ J))).mono ?_;rintro e W4⟨A4,c4,rfl,ae,z⟩;have X:=J.trans (z.mono J.size);have Y:=Zrv bb z;have be:=Boxed.below bd z;have a7:=q.trans (Zru z);have dk:=Boxed.cell Y.b)
    | (refine⟨trivial,?_⟩;gi_at_call 47;refine (CallsIn.inRound l (callsIn_wide.2 (Zym _ _ _ _ _ _ _ _ _ ae (h1.below X) bk.out S))).mono ?_;rintro e W5⟨rfl,j⟩;rw[ay];have o:=Zrv Y (j.below _);have av:=Boxed.below be (j.below _);have a8:=a7.trans (Zru (j.below _));have a6:=X.trans (j.below _);have cd:=ae.same j;have dl:=Boxed.cell o.r0;have dm:=Boxed.cell o.r1;have dn:=Boxed.cell o.r2;have co:=Boxed.frozen o.r0;have cq:=Boxed.frozen o.r1;have cs:=Boxed.frozen o.r2;have dp:=Boxed.cell av))
   have dy:prog.follows .mixedOrders=true:=AB
   gi_region_with_o (fail)
   all_goals gi_wp2
   all_goals
    have a9:=Zr9 o (.slice A4 (limbs t).length c4) (.int .i64 ((U:Int)+(f:Int))) (.int .i64 0);have df:=nums_sets o cd (.slice A4 (limbs t).length c4) (.int .i64 ((U:Int)+(f:Int))) (.int .i64 0);have aw:val (Zrp d (⟨(E,f),aa,ab⟩:Zrl d.length f)) % 2 ^ K=t:=by rw[a0];exact Ht
    refine⟨(((a8.trans (KeepsOthers.setCell _ _ _)).trans (KeepsOthers.setCell _ _ _)).trans (KeepsOthers.setCell _ _ _)).trans (Zru ((AL _ _).drew)),⟨B,_,rfl,az,.inl ⟨rfl,rfl,by rw[aw];exact a3,A4,c4,?_⟩⟩,(((a6.setCell (by simp <;> omega) _).setCell (by simp <;> omega) _).setCell (by simp <;> omega) _).drew⟩;rw[aw];refine⟨a9.1,?_,a9.2.2,df⟩;rw[HU];exact a9.2.1
  have c8:0<=cv:=by
   have:=mt M.1 R;omega
  have a3:=LH R
  gi_wp2_with (first
   | (refine⟨trivial,?_⟩;gi_at_call 46;refine (CallsIn.inRound l (callsIn_wide.2 (Zqx _ _ _ _ _ (h1.below O) S))).mono ?_;rintro e W3⟨rfl,s⟩;rw[T];have J:=O.trans (s.mono O.size);have bb:=Zrv ba s;have bd:=Boxed.below b0 s;have q:=bz.trans (Zru s);have cf:=BC (Nat.le_of_eq ce.symm) s.size)
   | (refine⟨trivial,?_⟩;gi_at_call 45;refine (CallsIn.inRound l (callsIn_wide.2 (bl.out _ J))).mono ?_;rintro e W4⟨A4,c4,rfl,ae,z⟩;have X:=J.trans (z.mono J.size);have Y:=Zrv bb z;have be:=Boxed.below bd z;have a7:=q.trans (Zru z);have dk:=Boxed.cell Y.b)
   | (refine⟨trivial,?_⟩;gi_at_call 47;refine (CallsIn.inRound l (callsIn_wide.2 (Zym _ _ _ _ _ _ _ _ _ ae (h1.below X) bk.out S))).mono ?_;rintro e W5⟨rfl,j⟩;rw[ay];have o:=Zrv Y (j.below _);have av:=Boxed.below be (j.below _);have a8:=a7.trans (Zru (j.below _));have a6:=X.trans (j.below _);have cd:=ae.same j;have dl:=Boxed.cell o.r0;have dm:=Boxed.cell o.r1;have dn:=Boxed.cell o.r2;have co:=Boxed.frozen o.r0;have cq:=Boxed.frozen o.r1;have cs:=Boxed.frozen o.r2;have dp:=Boxed.cell av))
  have aw:val (Zrp d (⟨(E,f),aa,ab⟩:Zrl d.length f)) % 2 ^ K=t:=by rw[a0];exact Ht
  have di:w1.heap.size+1+1+1+1<=W3.heap.size:=BC cc cf;have dj:=BC di z.size;refine⟨a8,?_,⟨o,Boxed.below (Boxed.below (Boxed.below c5 s) z) (j.below _),?_,BC dj (j.below W4).size,λy hy=>?_⟩,a6⟩
  ·exact Zrq.t (Zrq.t (Zrq.t c0 (Zra s AA AA)) (Zra z AA AA)) (Zra (j.below _) AA AA)
  ·have e:f*(B++[(⟨(E,f),aa,ab⟩:Zrl d.length f)]).length=U+f:=by rw[AV,CX,DL,HU,Ej]
   rw[e];exact av
  rcases DD.1 hy with h | h
  ·exact az y h
  obtain rfl:=BP.1 h;exact⟨rfl,by rw[aw];exact a3⟩
 ·rintro D ys W hD ⟨k,hk,rfl⟩ ⟨⟨g,bc,Z,cc,L⟩,I⟩ A;have V:=LH (drawF_done ad rfl hk L);have az:=LH L;have k1:=Boxed.cell g.r0;have k2:=Boxed.cell g.r1;have k3:=Boxed.cell g.r2;have f1:=Boxed.frozen g.r0;have f2:=Boxed.frozen g.r1;have f3:=Boxed.frozen g.r2
  gi_wp2
  have j:=Zr9 g (.slice none 0 0) (.int .i64 0) (.int .i64 12);have q:=(((KeepsOthers.setCell W ⟨w+1,0,none⟩ (.slice none 0 0)).trans (KeepsOthers.setCell _ ⟨w+1+1,0,none⟩ (.int .i64 0))).trans (KeepsOthers.setCell _ ⟨w+1+1+1,0,none⟩ (.int .i64 12))).same D _ A rfl;have z0:=cell_kept (Boxed.cell j.1) (grownBy_putObj' _ D (.deferred none)) (λr e=>by cases e;exact⟨_,q,rfl⟩);have z1:=cell_kept (Boxed.cell j.2.1) (grownBy_putObj' _ D (.deferred none)) (λr e=>by cases e;exact⟨_,q,rfl⟩);have z2:=cell_kept (Boxed.cell j.2.2) (grownBy_putObj' _ D (.deferred none)) (λr e=>by cases e;exact⟨_,q,rfl⟩);refine⟨AE,.inl ⟨_,_,rfl,run_takeDeferred q,?_⟩⟩;refine⟨.tuple #[.slice none 0 0,.int .i64 0,.int .i64 12],?_,?_⟩
  ·simp[results,Tryz.f23,go_sem,z0,z1,z2]
  unfold RetDraw;rw[V];exact⟨none,0,rfl,Zq.nil _ _ _ 0 AC,(((I.setCell (p:=⟨w+1,0,none⟩) (by show w.heap.size<=w.heap.size+1;omega) (.slice none 0 0)).setCell (p:=⟨w+1+1,0,none⟩) (by show w.heap.size<=w.heap.size+1+1;omega) (.int .i64 0)).setCell (p:=⟨w+1+1+1,0,none⟩) (by show w.heap.size<=w.heap.size+1+1+1;omega) (.int .i64 12)).trans (belowK_b (w:=w) (AJ _) _ D _ _ AA q rfl rfl)⟩
 rintro D c B W hD⟨k,rfl⟩ ⟨⟨d1,x,e1,P,h⟩,I⟩ A;obtain⟨k,rfl⟩:∃k',k=k'+1:=by
  cases k with
  | zero=>simp[Zrw] at e1
  | succ k'=>exact⟨k',rfl⟩
 rw[Zrb] at e1;obtain⟨rfl,e5⟩:=List.append_inj' e1 rfl;obtain rfl:Zre d.length N k=x:=by simpa using e5
 rcases h with ⟨rfl,G,hv,A',c',g1,g2,g3,g4⟩ | ⟨rfl,G,v,g⟩
 ·have V:=LH (drawF_drawn ad rfl P G hv);rw[Zr1] at g2;generalize val (Zrp d (Zre d.length N k)) % 2 ^ K=t at *;have Hf:=LH P;have Hx:=LH G
  gi_wp2
  have z0:=cell_kept (Boxed.cell g1) (grownBy_putObj' _ D (.deferred none)) (λr e=>by cases e;exact⟨_,A,rfl⟩);have z1:=cell_kept (Boxed.cell g2) (grownBy_putObj' _ D (.deferred none)) (λr e=>by cases e;exact⟨_,A,rfl⟩);have z2:=cell_kept (Boxed.cell g3) (grownBy_putObj' _ D (.deferred none)) (λr e=>by cases e;exact⟨_,A,rfl⟩);have z4:=Zqt g4 (grownBy_putObj' _ D (.deferred none)) (λr e=>by cases e;exact⟨_,A,rfl⟩);refine⟨AE,.inl ⟨_,_,rfl,run_takeDeferred A,?_⟩⟩;refine⟨.tuple #[.slice A' (limbs t).length c',.int .i64 ((N*k+N:Nat):Int),.int .i64 0],?_,?_⟩
  ·simp[results,Tryz.f23,go_sem,z0,z1,z2]
  unfold RetDraw;rw[V];exact⟨A',c',rfl,z4,I.trans (belowK_b (w:=w) (AJ _) _ D _ _ AA A rfl rfl)⟩
 have V:=LH (drawF_cut ad rfl P G);have Hf:=LH P;have Hx:=LH G;have k1:=Boxed.cell g.r0;have k2:=Boxed.cell g.r1;have k3:=Boxed.cell g.r2;have f1:=Boxed.frozen g.r0;have f2:=Boxed.frozen g.r1;have f3:=Boxed.frozen g.r2
 gi_wp2
 have j:=Zr9 g (.slice none 0 0) (.int .i64 0) (.int .i64 12);have q:=(((KeepsOthers.setCell W ⟨w+1,0,none⟩ (.slice none 0 0)).trans (KeepsOthers.setCell _ ⟨w+1+1,0,none⟩ (.int .i64 0))).trans (KeepsOthers.setCell _ ⟨w+1+1+1,0,none⟩ (.int .i64 12))).same D _ A rfl;have z0:=cell_kept (Boxed.cell j.1) (grownBy_putObj' _ D (.deferred none)) (λr e=>by cases e;exact⟨_,q,rfl⟩);have z1:=cell_kept (Boxed.cell j.2.1) (grownBy_putObj' _ D (.deferred none)) (λr e=>by cases e;exact⟨_,q,rfl⟩);have z2:=cell_kept (Boxed.cell j.2.2) (grownBy_putObj' _ D (.deferred none)) (λr e=>by cases e;exact⟨_,q,rfl⟩);refine⟨AE,.inl ⟨_,_,rfl,run_takeDeferred q,?_⟩⟩;refine⟨.tuple #[.slice none 0 0,.int .i64 0,.int .i64 12],?_,?_⟩
 ·simp[results,Tryz.f23,go_sem,z0,z1,z2]
 unfold RetDraw;rw[V];exact⟨none,0,rfl,Zq.nil _ _ _ 0 AC,(((I.setCell (p:=⟨w+1,0,none⟩) (by show w.heap.size<=w.heap.size+1;omega) (.slice none 0 0)).setCell (p:=⟨w+1+1,0,none⟩) (by show w.heap.size<=w.heap.size+1+1;omega) (.int .i64 0)).setCell (p:=⟨w+1+1+1,0,none⟩) (by show w.heap.size<=w.heap.size+1+1+1;omega) (.int .i64 12)).trans (belowK_b (w:=w) (AJ _) _ D _ _ AA q rfl rfl)⟩
theorem draw_below(c:Option Addr)(n c1:Nat)(xs:List Nat)(d:Option Addr)(m c2:Nat)(a:List Nat)(w:World)(h1:Zq .u32 w c n c1 xs)(f:Zq .u32 w d m c2 a)(h:Lim xs)(g:Lim a):
 Calls prog 23 #[.slice c n c1,.slice d m c2] w (RetDraw w (X5 xs a)):=by
 by_cases b:Zm xs=false\/xs.length=0\/1000<a.length\/B9 xs=0
 ·exact draw_below_early c n c1 xs d m c2 a w h1 f h g b
 rw[not_or,not_or,not_or] at b;exact draw_below_loop c n c1 xs d m c2 a w h1 f h g (by simpa using b.1) b.2.1 AA b.2.2.2
end
section
variable {W0:World} {h:GH} {G:Gr} {At:Option Addr} {nt ct wk:Nat} {cs:List Nat} {full:Bool} {A:Option Addr} {c:Nat} {W:World}
theorem Bp.fill(M:Bp W0 h G At nt ct wk cs full A c W):Bp W0 h G At nt ct wk cs true A c (W.setCell ⟨wk,6,none⟩ (.bool true))/\Zu W (W.setCell ⟨wk,6,none⟩ (.bool true)):=by
 have b:=Off.of_set W wk 6 (.bool true);refine⟨⟨M.base.trans (b.is_below M.base.size λq a=>by rw[a];exact M.low),M.box.set 6 _,M.row.off b λq a e=>M.apart (by rw[a,e]),M.low,M.few⟩,Zu.of_off b λq a o z=>by rw[a];exact M.no32 o z⟩
end
section
open Go.ChangeShapes Go.WideShapes Go.ChangeAt Go.RowKit
open Go.ChangeShapes Go.WideShapes Go.ChangeAt Go.RowKit
open Go.ChangeShapes Go.WideShapes Go.ChangeAt Go.RowKit Go.Lib Go.Deep
open Go.ChangeShapes Go.WideShapes Go.ChangeAt Go.RowKit Go.Lib Go.Deep
variable {H:Type} {enc:TypeId × Value->H} {w:World} {base:Nat} {held:Bool}
theorem Kr{r:Reach}{b0:Nat}{d:DataW H}(o:Value.okWide prog w r b0 26 v)(h:DataW.Trod enc prog w base (λ_=>true) held 26 v d p):
 ∃(a:GH) (G:Gr),v=GV a G.start/\GrIn w a G:=by
 obtain⟨x,y,z,A,B,C,D,E,n,rfl,_,_,g0,c,f,g⟩:=Go.Joins.open_agg4 underlying26 AB AB o h;obtain⟨a1,n1,c1,ts,rfl,l,m⟩:=open_terms g0;obtain⟨a2,n2,c2,ss,rfl,k⟩:=open_strsG c;obtain⟨a3,n3,c3,t,rfl,j,q⟩:=open_rules f;obtain⟨u,b,_,s⟩:=DataW.trod_int underlying3 g;simp at b;subst b;exact⟨⟨a1,n1,c1,a2,n2,c2,a3,n3,c3⟩,⟨ts,ss,t,u⟩,rfl,⟨l,k,j,q⟩,m,bounds_i64 s⟩
end
