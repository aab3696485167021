/- A region that draws its order and lays boxes of its own, each stored to once: what holds of its worlds, whatever the order. -/
import Derived.Test.YtggbjdmpjidhgaaGreatDoorY21
import Derived.Test.YtggbjdmpjidhgaaGreatDoorY27
import Derived.Test.YtggbjdmpjidhgaaGreatDoorY29
set_option linter.all false
set_option maxHeartbeats 1500000
set_option maxRecDepth 100000
namespace Go.Proofs.YtggbjdmpjidhgaaGreatDoor
open Go.RowKit Go.Proofs.Tryz
variable{d:Option Addr}{tab:Nat->Nat->Nat}
structure Bp (W0:World) (h:GH) (G:Gr) (At:Option Addr) (nt ct:Nat) (wk:Nat) (cs:List Nat) (full:Bool) (A:Option Addr) (c:Nat) (W:World):Prop where
 base:Below W0.heap.size W0 W
 box:Blk W wk 122 #[.slice h.a1 h.n1 h.c1,.slice h.a2 h.n2 h.c2,.slice h.a3 h.n3 h.c3,.int .i64 G.start,.slice At nt ct,.slice A cs.length c,.bool full]
 row:M4 W W0.heap.size A cs.length c (cs.map λi:Nat=>(i:Int))
 low:W0.heap.size<=wk
 few:cs.length<=300
def WkAt(a:World)(h:GH)(G:Gr)(At:Option Addr)(f b:Nat)(g:Nat)(cs:List Nat)(d:Bool)(W:World):Prop:=∃A c,Bp a h G At f b g cs d A c W
theorem small_big(n:Nat)(h:n<18446744073709551616):n<big:=by
 have:18446744073709551616<big:=by rw[Zwf];decide +kernel
 omega
def RSubRel(w:World)(xs b:List Nat)(o c i:Value)(wr:World):Prop :=
 ∃(k:Nat) (A:Option Addr) (a:Nat),k<=32/\i = .int .i64 (k:Int)/\c = .int .u64 ((Xn xs b k).2:Int)/\o = .slice A k a /\
  wr.ownsRow w.heap.size 49 1 (.slice A k a) k (nums .u32 (Xn xs b k).1)/\Below w.heap.size w wr
theorem Aa(c:Option Addr)(c1 a:Nat)(d:Option Addr)(c2 b:Nat)(w:World)(h1:Zq .u32 w c (limbs a).length c1 (limbs a))(f:Zq .u32 w d (limbs b).length c2 (limbs b))(g:a<big)(h:b<big):
 Calls prog 59 #[.slice c (limbs a).length c1,.slice d (limbs b).length c2] w (Xr w (Xm (a+b))):=by
 rw[<-Nz a b g h];exact Zu0 c _ c1 _ d _ c2 _ w h1 f (Z9 _) (Z9 _)
theorem Zvr(c:Option Addr)(n c1:Nat)(xs:List Nat)(d:Option Addr)(m c2:Nat)(M:List Nat)(w:World)(h1:Zq .u32 w c n c1 xs)(E:Zq .u32 w d m c2 M)(A:Lim xs)(B:Lim M)(G:xs.length<=33)(F:M.length<=33):
 Calls prog 214 #[.slice c n c1,.slice d m c2] w λe w'=>e = .returned (.bool (decide (Vm (val xs) (val M)=-1)))/\w=w':=by
 go_enter func214,ntmps214;go_wp2;go_loop [5] (λi=>∃k:Nat,k<=33/\i = .int .i64 ((k:Int)-1)/\Vm (val xs) (val M)=Vm (val (xs.take k)) (val (M.take k))) (λi=>(intOf i+1).toNat)
 case atStart=>exact⟨33,AJ _,rfl,by rw[AR G,AR F]⟩
 obtain⟨k,J,rfl,hrel⟩:=hrel;have r:=LH hrel;clear hrel;by_cases L:0<k
 ·have b:=Zzx xs M A B (k-1);rw[show k-1+1=k from by omega,<-r.out] at b;have s:=LH b;clear b;have u:((k:Int)-1)=((k-1:Nat):Int):=AA
  rw[u];generalize v:k-1=j at *;have D:=LH v;have I:j<33:=AA
  clear v u;obtain⟨x,Hx⟩:∃x,Hid (xs.getD j 0=x):=⟨_,LH rfl⟩;obtain⟨y,t⟩:∃y,Hid (M.getD j 0=y):=⟨_,LH rfl⟩;have o:=Ww c n c1 xs j w h1 A;have p:=Ww d m c2 M j w E B;rw[Hx.out] at o;rw[t.out] at p;have b:=s.out;rw[Hx.out,t.out] at b;have g:=LH o;have h:=LH p;have l:=LH b;clear o p b s;by_cases q:x<y
  ·have H:((x:Int)==(y:Int))=false:=by rw[AQ];omega
   have a:decide (Vm (val xs) (val M)=-1)=true:=by rw[l.out,if_pos q];rfl
   have f:=LH a;clear a;go_wp2_with (first
    | (go_at_call 79;(with_reducible refine g.out.mono ?_);rintro e w'⟨rfl,rfl⟩)
    | (go_at_call 79;(with_reducible refine h.out.mono ?_);rintro e w'⟨rfl,rfl⟩))
   go_ret;rw[f.out];exact⟨AE,rfl⟩
  by_cases z:y<x
  ·have H:((x:Int)==(y:Int))=false:=by rw[AQ];omega
   have a:decide (Vm (val xs) (val M)=-1)=false:=by rw[l.out,if_neg q,if_pos z];rfl
   have f:=LH a;clear a;go_wp2_with (first
    | (go_at_call 79;(with_reducible refine g.out.mono ?_);rintro e w'⟨rfl,rfl⟩)
    | (go_at_call 79;(with_reducible refine h.out.mono ?_);rintro e w'⟨rfl,rfl⟩))
   go_ret;rw[f.out];exact⟨AE,rfl⟩
  obtain rfl:x=y:=AA
  go_wp2_with (first
   | (go_at_call 79;(with_reducible refine g.out.mono ?_);rintro e w'⟨rfl,rfl⟩)
   | (go_at_call 79;(with_reducible refine h.out.mono ?_);rintro e w'⟨rfl,rfl⟩))
  go_round
  case rel=>exact⟨j,by have:=D.out;omega,rfl,by rw[l.out,if_neg q,if_neg z]⟩
  simp[intOf] <;> omega
 obtain rfl:k=0:=AA
 have a:decide (Vm (val xs) (val M)=-1)=false:=by rw[r.out];simp[Vm,val]
 have C:=LH a;clear a;go_wp2;go_ret;rw[C.out];exact⟨rfl,rfl⟩
def RLessRel(w:World)(xs b:List Nat)(o c i:Value)(wr:World):Prop :=
 ∃(k:Nat) (A:Option Addr) (a:Nat),k<=33/\i = .int .i64 (k:Int)/\c = .int .u64 ((Xn xs b k).2:Int)/\o = .slice A k a /\
  wr.ownsRow w.heap.size 49 1 (.slice A k a) k (nums .u32 (Xn xs b k).1)/\Below w.heap.size w wr
theorem limbs_one:limbs 1=[1]:=by
 have:=Mf [1] (Lim.mk AC Lim.nil) (X8 [1] AC);simpa [val] using this
theorem one_nums(w:World):Zq .u32 (w.alloc (.cells #[.int .u32 1] 49)) (some ⟨w,0,none⟩) 1 1 [1] :=
 (Own.new w 49 .u32 [1]).nums (n:=1) (c:=1) rfl (AJ _) AA
def RQuoRel(w:World)(xs:List Nat)(b:Nat)(q r i:Value)(wr:World):Prop :=
 ∃(k:Nat) (A:Option Addr) (c:Nat) (f:Option Addr) (g:Nat) (a d:List Nat),i = .int .i64 ((k:Int)-1)/\k<=32*xs.length /\
  q = .slice A a.length c/\Zq .u32 wr A a.length c a/\r = .slice f d.length g/\Zq .u32 wr f d.length g d /\
  Below w.heap.size w wr/\Hid (a=limbs (val xs / 2 ^ k / b))/\Hid (d=limbs (val xs / 2 ^ k % b))
def RDblRel(w:World)(a b:List Nat)(bt:Nat)(c q:Value)(wr:World):Prop :=
 ∃j:Nat,j<=33/\q = .int .i64 (j:Int)/\c = .int .u64 ((twP a bt j).2:Int)/\Own wr w.heap.size 49 .u32 ((twP a bt j).1++b.drop j)/\Below w.heap.size w wr
theorem dbl_done(a:List Nat)(b:Lim a)(bt:Nat)(f:bt<=1)(j:a.length<=32)(q:Nat)(k:q=33):val (twP a bt q).1=2*val a+bt:=by
 subst k;have h:=twP_val a bt 33;rw[AR AA] at h;have h1:=Ui a b;have l:(4294967296:Nat) ^ a.length<=4294967296 ^ 32:=DA AC j;have d:(4294967296:Nat) ^ 33=4294967296 ^ 32*4294967296:=by rw[Nat.pow_succ]
 have m:=Ae a bt f b 33;rw[d] at h;generalize (4294967296:Nat) ^ 32=B at *;generalize (twP a bt 33).2=c at *;have g:c=0\/c=1:=AA
 rcases g with rfl | rfl <;> omega
def WkRet(a:World)(h:GH)(G:Gr)(At:Option Addr)(d b f:Nat)(cs t:List Nat)(w:World)(e:Ending)(w':World):Prop :=
 e = .returned (.tuple #[])/\Zu w w'/\((cs.length+t.length<=300/\WkAt a h G At d b f (cs++t) false w')\/(300<cs.length+t.length/\∃g,WkAt a h G At d b f g true w'))
def WFC(a:World)(h:GH)(G:Gr)(At:Option Addr)(b g m:Nat):Prop:=∀(d:Nat) (cs:List Nat) (l:List Int) (n r:Nat) (t:List Nat) (Al:Option Addr) (f:Nat) (Ar:Option Addr) (cr:Nat) (w:World),t.length<=m->UnL G l n r t->InG G l->Zx (Zv G) l n<big->l.length<=6->n<b->(∀s∈l,G.has s=true)->Za .i64 a Al l.length f l->Zq .u32 w Ar (limbs r).length cr (limbs r)->WkAt a h G At b g d cs false w->
 Calls Tryz.prog 132 #[.pointer (some ⟨d,0,none⟩),.slice Al l.length f,.int .i64 (n:Int),.slice Ar (limbs r).length cr] w (WkRet a h G At b g d cs t w)
def WTC(d:World)(h:GH)(G:Gr)(At:Option Addr)(a f m:Nat):Prop:=∀(b:Nat) (cs:List Nat) (s:Int) (n r:Nat) (t:List Nat) (Ar:Option Addr) (cr:Nat) (w:World),t.length<=m->s<0->Zp s<G.nons.length->UnT G (Zp s) n r t->Zv G s n<big->n<a->Zq .u32 w Ar (limbs r).length cr (limbs r)->WkAt d h G At a f b cs false w->
 Calls Tryz.prog 81 #[.pointer (some ⟨b,0,none⟩),.int .i64 (Zp s:Int),.int .i64 (n:Int),.slice Ar (limbs r).length cr] w (WkRet d h G At a f b cs t w)
theorem rf_wfull{f:World}{h:GH}{G:Gr}{At:Option Addr}{m j d:Nat}{cs:List Nat}(Al:Option Addr)(a g:Nat)(n:Int)(Ar:Option Addr)(l cr:Nat)(w:World)(k:WkAt f h G At m j d cs true w):
 Calls prog 132 #[.pointer (some ⟨d,0,none⟩),.slice Al a g,.int .i64 n,.slice Ar l cr] w λe w'=>e = .returned (.tuple #[])/\w=w':=by
 obtain⟨A,c,b⟩:=k;have o:w.cell? ⟨d,6,none⟩=some (.bool true):=b.box.cell 6;have p:=b.box.lt;clear b;by_cases h0:a=0
 case pos =>
  have h1:((a:Int)==0)=true:=by rw[h0];rfl
  clear h0;go_enter func132,ntmps132;go_wp2_with fail;refine AW (results_none rfl _ _ _) rfl ?_;exact⟨rfl,rfl⟩
 have h1:((a:Int)==0)=false:=by rw[AQ];omega
 clear h0;go_enter func132,ntmps132;go_wp2_with fail;refine AW (results_none rfl _ _ _) rfl ?_;exact⟨rfl,rfl⟩
section
variable {W0:World} {h:GH} {G:Gr} {At:Option Addr} {nt ct wk:Nat} {cs:List Nat} {full:Bool} {A:Option Addr} {c:Nat} {W:World}
theorem Bp.below{b:World}(M:Bp W0 h G At nt ct wk cs full A c W)(a:Below W W b):Bp W0 h G At nt ct wk cs full A c b :=
 ⟨Zz M.base a,M.box.ext a,M.row.off (Off.of_below (S:=λ_=>False) a) λ_ _=>id,M.low,M.few⟩
theorem Bp.no32(M:Bp W0 h G At nt ct wk cs full A c W):∀o z,W.cell? ⟨wk,o,none⟩≠some (Value.int .u32 z):=λo z a=>by
 rw[M.box.cell o] at a;rcases o with _ | _ | _ | _ | _ | _ | _ | o <;> cases a
theorem Bp.apart(M:Bp W0 h G At nt ct wk cs full A c W):(Value.slice A cs.length c).ownBlock≠some wk:=λe=>by
 obtain⟨_,_,v,a⟩:=M.row.blk e;exact absurd (a.same_ty M.box) AC
theorem Bp.push{j a:World}{f i:Nat}(M:Bp W0 h G At nt ct wk cs full A c W)(r:Below W W j)(p:M4 a W0 d (cs.length+1) f (cs.map (λi:Nat=>(i:Int))++[(i:Int)]))(t:j.grownBy a (Value.slice A cs.length c).ownBlock)(D:cs.length≠300):
 Blk a wk 122 #[.slice h.a1 h.n1 h.c1,.slice h.a2 h.n2 h.c2,.slice h.a3 h.n3 h.c3,.int .i64 G.start,.slice At nt ct,.slice A cs.length c,.bool full]/\WkAt W0 h G At nt ct wk (cs++[i]) full (a.setCell ⟨wk,5,none⟩ (.slice d (cs.length+1) f))/\Zu W (a.setCell ⟨wk,5,none⟩ (.slice d (cs.length+1) f)):=by
 have g:=M.below r;have l:Off (λq=>(Value.slice A cs.length c).ownBlock=some q) j a:=Off.of_grown t;have u:Zu j a:=Zu.of_off l λq b=>g.row.no32 q b;have k:=l.blk g.box g.apart;have m:=Off.of_set a wk 5 (.slice d (cs.length+1) f);have y:∀o z,a.cell? ⟨wk,o,none⟩≠some (Value.int .u32 z):=λo z s=>by
  rw[k.cell o] at s;rcases o with _ | _ | _ | _ | _ | _ | _ | o <;> cases s
 have x:Zu a (a.setCell ⟨wk,5,none⟩ (.slice d (cs.length+1) f)):=Zu.of_off m λq b o z=>by rw[b];exact y o z
 have C:(Value.slice d (cs.length+1) f).ownBlock≠some wk:=λe=>by
  obtain⟨_,_,v,B⟩:=p.blk e;exact absurd (B.same_ty k) AC
 have n:=g.base.trans (l.is_below g.base.size λq b=>(g.row.blk b).1);refine⟨k,⟨d,f,n.trans (m.is_below n.size λq b=>by rw[b];exact M.low),?_,?_,M.low,?_⟩,((Zu.of_below r).trans u).trans x⟩
 ·rw[AU];exact k.set 5 _
 ·rw[AU,DF];exact p.off m λq b e=>C (by rw[b,e])
 have:=M.few;rw[AU,CU];omega
theorem Bp.fill(M:Bp W0 h G At nt ct wk cs full A c W):Bp W0 h G At nt ct wk cs true A c (W.setCell ⟨wk,6,none⟩ (.bool true))/\Zu W (W.setCell ⟨wk,6,none⟩ (.bool true)):=by
 have b:=Off.of_set W wk 6 (.bool true);refine⟨⟨M.base.trans (b.is_below M.base.size λq a=>by rw[a];exact M.low),M.box.set 6 _,M.row.off b λq a e=>M.apart (by rw[a,e]),M.low,M.few⟩,Zu.of_off b λq a o z=>by rw[a];exact M.no32 o z⟩
end
theorem ref_sub(l:Option Addr)(n c1:Nat)(xs:List Nat)(o:Option Addr)(m c2:Nat)(P:List Nat)(w:World)(h1:Zq .u32 w l n c1 xs)(c:Zq .u32 w o m c2 P)(f:Lim xs)(h:Lim P):
 Calls prog 184 #[.slice l n c1,.slice o m c2] w (Xr w (Mw xs P)):=by
 by_cases b:Zm xs=true
 case neg =>
  have aa:Zm xs=false:=by simpa using b
  have a:Mw xs P=([],1):=by simp[Mw,aa]
  rw[a];clear a b;go_enter func184,ntmps184;go_wp2_with (first
   | (go_at_call 78;(with_reducible refine (Z4 _ _ _ _ _ h1).mono ?_);rintro e w'⟨rfl,rfl⟩)
   | (go_at_call 78;(with_reducible refine (Z4 _ _ _ _ _ c).mono ?_);rintro e w'⟨rfl,rfl⟩))
  go_ret2;exact⟨none,0,rfl,Zq.nil _ _ _ _ AE,AL _ _⟩
 by_cases d:Zm P=true
 case neg =>
  have ab:Zm P=false:=by simpa using d
  have a:Mw xs P=([],1):=by simp[Mw,ab]
  rw[a];clear a d;go_enter func184,ntmps184;go_wp2_with (first
   | (go_at_call 78;(with_reducible refine (Z4 _ _ _ _ _ h1).mono ?_);rintro e w'⟨rfl,rfl⟩)
   | (go_at_call 78;(with_reducible refine (Z4 _ _ _ _ _ c).mono ?_);rintro e w'⟨rfl,rfl⟩))
  go_ret2;exact⟨none,0,rfl,Zq.nil _ _ _ _ AE,AL _ _⟩
 have W:=Ut xs b;have V:=Ut P d;by_cases U:val P<=val xs
 case neg =>
  have S:decide (Vq xs P<0)=true:=by
   simp only[Vq,b,d,Bool.and_self,if_true,Vm];rw[if_pos AA];simp
  have a:Mw xs P=([],11):=by simp[Mw,b,d];omega
  rw[a];clear a;go_enter func184,ntmps184;go_wp2_with (first
   | (go_at_call 78;(with_reducible refine (Z4 _ _ _ _ _ h1).mono ?_);rintro e w'⟨rfl,rfl⟩)
   | (go_at_call 78;(with_reducible refine (Z4 _ _ _ _ _ c).mono ?_);rintro e w'⟨rfl,rfl⟩)
   | (go_at_call 36;(with_reducible refine (Le _ _ _ _ _ _ _ _ _ h1 c f h).mono ?_);rintro e w1⟨rfl,j⟩))
  go_ret2;exact⟨none,0,rfl,Zq.nil _ _ _ _ AE,j.below _⟩
 have S:decide (Vq xs P<0)=false:=by
  simp only[Vq,b,d,Bool.and_self,if_true,Vm];rw[if_neg AA];split <;> simp
 have a:Mw xs P=(limbs (val xs-val P),0):=by simp[Mw,b,d];omega
 rw[a];clear a;go_enter func184,ntmps184;go_wp2_with (first
  | (go_at_call 78;(with_reducible refine (Z4 _ _ _ _ _ h1).mono ?_);rintro e w'⟨rfl,rfl⟩)
  | (go_at_call 78;(with_reducible refine (Z4 _ _ _ _ _ c).mono ?_);rintro e w'⟨rfl,rfl⟩)
  | (go_at_call 36;(with_reducible refine (Le _ _ _ _ _ _ _ _ _ h1 c f h).mono ?_);rintro e w1⟨rfl,j⟩))
 go_loopw [6,7,8] (RSubRel w xs P) (λ_ _ i _=>(32-intOf i).toNat)
 case atStart=>exact⟨0,none,0,AV _,rfl,rfl,rfl,BJ _ _ _ _,j.below _⟩
 clear j;obtain⟨k,A,M,hk,rfl,rfl,rfl,s,g⟩:=hrel;have ad:=Qi xs P k;have R:=g.size;by_cases af:k<32
 ·have Y:=f.getD k;have Z:=h.getD k;obtain⟨x,Hx⟩:∃x,Hid (xs.getD k 0=x):=⟨_,LH rfl⟩;obtain⟨y,p⟩:∃y,Hid (P.getD k 0=y):=⟨_,LH rfl⟩;have q:=Ww l n c1 xs k wr (h1.below g) f;have r:=Ww o m c2 P k wr (c.below g) h;rw[Hx.out] at q Y;rw[p.out] at r Z;have F:=LH q;have G:=LH r;have u:Hid (4294967296+(x:Int)-(y:Int)-((Xn xs P k).2:Int)=((4294967296+x-y-(Xn xs P k).2:Nat):Int)):=LH AA;clear q r;go_wp2_with (first
   | (go_at_call 79;(with_reducible refine F.out.mono ?_);rintro e w'⟨rfl,rfl⟩)
   | (go_at_call 79;(with_reducible refine G.out.mono ?_);rintro e w'⟨rfl,rfl⟩)
   | (at_builtin;refine Vc (w:=wr) rfl _ _ 31 rfl w 49 (.int .u32 0) 4 underlying31 Tryz.info34 rfl _ k _ _ rfl s (.int .u32 ((4294967296+(x:Int)-(y:Int)-((Xn xs P k).2:Int)) % 4294967296)) rfl rfl AA AA AA ?_;intro D L w2 z T))
  go_roundw
  case rel =>
   refine⟨k+1,D,L,AA,AF,?_,rfl,?_,X6 g T s R⟩
   ·simp only[Xn,Hx.out,p.out];rw[u.out];go_num
   rw[u.out] at z;simp only[Xn,Hx.out,p.out,Mi];simpa using z
  simp[intOf];omega
 obtain rfl:k=32:=AA
 have B:=Zyj xs P f h 32 W V U;have v:Xm (val xs-val P)=(limbs (val xs-val P),0):=Km (by have:=(Ul xs f b).2;omega);have I:=LH B;have E:=LH v;clear B v;have X:Zq .u32 wr A 32 M (Xn xs P 32).1:=Yl s;have t:=As _ _ _ _ _ X (Gv xs P 32);rw[I.out,E.out] at t;have H:=LH t;clear t;go_wp2_with (go_at_call 112;(with_reducible refine H.out.mono ?_);rintro e w'⟨C,J,rfl,O,N⟩);go_ret2;exact⟨C,J,rfl,O,Zz g N⟩
theorem ref_less(b:Option Addr)(n c1:Nat)(xs:List Nat)(c:Option Addr)(m c2:Nat)(P:List Nat)(w:World)(h1:Zq .u32 w b n c1 xs)(C:Zq .u32 w c m c2 P)(j:Lim xs)(l:Lim P)(H:xs.length<=33)(G:P.length<=33)(F:val P<=val xs):
 Calls prog 215 #[.slice b n c1,.slice c m c2] w (Bq w (limbs (val xs-val P))):=by
 go_enter func215,ntmps215;go_wp2;go_loopw [5,6,7] (RLessRel w xs P) (λ_ _ i _=>(33-intOf i).toNat)
 case atStart=>exact⟨0,none,0,AV _,rfl,rfl,rfl,BJ _ _ _ _,AL _ _⟩
 obtain⟨k,A,B,N,rfl,rfl,rfl,h,a⟩:=hrel;have M:=Qi xs P k;have D:=a.size;by_cases O:k<33
 ·have J:=j.getD k;have L:=l.getD k;obtain⟨x,Hx⟩:∃x,Hid (xs.getD k 0=x):=⟨_,LH rfl⟩;obtain⟨y,d⟩:∃y,Hid (P.getD k 0=y):=⟨_,LH rfl⟩;have f:=Ww b n c1 xs k wr (h1.below a) j;have g:=Ww c m c2 P k wr (C.below a) l;rw[Hx.out] at f J;rw[d.out] at g L;have u:=LH f;have v:=LH g;have p:Hid (4294967296+(x:Int)-(y:Int)-((Xn xs P k).2:Int)=((4294967296+x-y-(Xn xs P k).2:Nat):Int)):=LH AA;clear f g;go_wp2_with (first
   | (go_at_call 79;(with_reducible refine u.out.mono ?_);rintro e w'⟨rfl,rfl⟩)
   | (go_at_call 79;(with_reducible refine v.out.mono ?_);rintro e w'⟨rfl,rfl⟩)
   | (at_builtin;refine Vc (w:=wr) rfl _ _ 31 rfl w 49 (.int .u32 0) 4 underlying31 Tryz.info34 rfl _ k _ _ rfl h (.int .u32 ((4294967296+(x:Int)-(y:Int)-((Xn xs P k).2:Int)) % 4294967296)) rfl rfl AA AA AA ?_;intro t z R r E))
  go_roundw
  case rel =>
   refine⟨k+1,t,z,AA,AF,?_,rfl,?_,X6 a E h D⟩
   ·simp only[Xn,Hx.out,d.out];rw[p.out];go_num
   rw[p.out] at r;simp only[Xn,Hx.out,d.out,Mi];simpa using r
  simp[intOf];omega
 obtain rfl:k=33:=AA
 have s:=Zyj xs P j l 33 H G F;have I:Zq .u32 wr A 33 B (Xn xs P 33).1:=Yl h;have o:=LH (Vg _ (Gv xs P 33));rw[s] at o;clear s;go_wp2_with (go_at_call 80;(with_reducible refine (G6 _ _ _ _ _ I).mono ?_);rintro e w'⟨rfl,q,rfl⟩);go_ret;rw[o.out] at q ⊢;exact⟨_,_,rfl,q,a⟩
theorem ref_quo(A1:Option Addr)(n c1:Nat)(xs:List Nat)(A2:Option Addr)(m c2:Nat)(ys:List Nat)(w:World)(h1:Zq .u32 w A1 n c1 xs)(o:Zq .u32 w A2 m c2 ys)(lx:Lim xs)(ly:Lim ys):
 Calls prog 183 #[.slice A1 n c1,.slice A2 m c2] w (RetQuo w (M2 xs ys)):=by
 obtain rfl:=h1.len;obtain rfl:=o.len;by_cases N:Zm xs=true
 case neg =>
  have cz:Zm xs=false:=by simpa using N
  have l:M2 xs ys=([],[],1):=by simp[M2,cz]
  rw[l];clear l N;go_enter func183,ntmps183;go_wp2_with (first
   | (go_at_call 78;(with_reducible refine (Z4 _ _ _ _ _ h1).mono ?_);rintro e w'⟨rfl,rfl⟩)
   | (go_at_call 78;(with_reducible refine (Z4 _ _ _ _ _ o).mono ?_);rintro e w'⟨rfl,rfl⟩))
  go_ret3
  unfold RetQuo;exact⟨none,0,none,0,rfl,Zq.nil _ _ _ _ AE,Zq.nil _ _ _ _ AE,AL _ _⟩
 by_cases O:Zm ys=true
 case neg =>
  have c0:Zm ys=false:=by simpa using O
  have l:M2 xs ys=([],[],1):=by simp[M2,c0]
  rw[l];clear l O;go_enter func183,ntmps183;go_wp2_with (first
   | (go_at_call 78;(with_reducible refine (Z4 _ _ _ _ _ h1).mono ?_);rintro e w'⟨rfl,rfl⟩)
   | (go_at_call 78;(with_reducible refine (Z4 _ _ _ _ _ o).mono ?_);rintro e w'⟨rfl,rfl⟩))
  go_ret3
  unfold RetQuo;exact⟨none,0,none,0,rfl,Zq.nil _ _ _ _ AE,Zq.nil _ _ _ _ AE,AL _ _⟩
 by_cases D:ys.length=0
 ·have l:M2 xs ys=([],[],1):=by simp[M2,D]
  rw[l];clear l;have cv:((ys.length:Int)==0)=true:=by simp[D]
  clear D;go_enter func183,ntmps183;go_wp2_with (first
   | (go_at_call 78;(with_reducible refine (Z4 _ _ _ _ _ h1).mono ?_);rintro e w'⟨rfl,rfl⟩)
   | (go_at_call 78;(with_reducible refine (Z4 _ _ _ _ _ o).mono ?_);rintro e w'⟨rfl,rfl⟩))
  go_ret3
  unfold RetQuo;exact⟨none,0,none,0,rfl,Zq.nil _ _ _ _ AE,Zq.nil _ _ _ _ AE,AL _ _⟩
 have cv:((ys.length:Int)==0)=false:=by rw[AQ];omega
 have de:xs.length<=32:=Ut xs N;have cm:ys.length<=32:=Ut ys O;have ty:=X8 ys O;have a3:0<val ys:=by
  rcases DJ (val ys) with h | h
  ·have:=Mf ys ly ty;rw[h,Va] at this;rw[<-this] at D;simp at D
  exact h
 have bv:=Wm (P:=prog) 31 49 .u32 4 underlying31 Tryz.info34 33 AA AA;have bw:∀w:World,(Instr.makeSlice 31 (.int .i64 33) (.int .i64 33)).run prog w = .ok (.slice (some ⟨w,0,none⟩) 33 33) (w.alloc (.cells (nums .u32 (List.replicate 33 0)).toArray 49)):=bv;clear bv;obtain⟨E,be⟩:∃E,Hid (List.replicate 33 0=E):=⟨_,LH rfl⟩;rw[be.out] at bw;have ap:Hid (E.length=33):=LH (by rw[<-be.out];simp);have l:M2 xs ys=(limbs (val xs / val ys),limbs (val xs % val ys),0):=by simp[M2,N,O,D]
 have bc:=LH (Ul xs lx N).2;have a2:val ys<4294967296 ^ 32:=AK (Ui ys ly) (DA AC cm);have bd:=LH a2;rw[l];clear l a2;go_enter func183,ntmps183;go_wp2_with (first
  | (go_at_call 78;(with_reducible refine (Z4 _ _ _ _ _ h1).mono ?_);rintro e w'⟨rfl,rfl⟩)
  | (go_at_call 78;(with_reducible refine (Z4 _ _ _ _ _ o).mono ?_);rintro e w'⟨rfl,rfl⟩))
 go_loopw [7,8,9] (RQuoRel w xs (val ys)) (λ_ _ i _=>(intOf i+1).toNat)
 case atStart =>
  have hz:val xs / 2 ^ (32*xs.length)=0:=Nat.div_eq_of_lt (by
   have:=Ui xs lx;rwa [show (4294967296:Nat)=2 ^ 32 from rfl,<-Nat.pow_mul] at this)
  have F:[]=limbs (val xs / 2 ^ (32*xs.length) / val ys):=by rw[hz,Nat.zero_div,Va]
  have e3:[]=limbs (val xs / 2 ^ (32*xs.length) % val ys):=by rw[hz,Nat.zero_mod,Va]
  exact⟨32*xs.length,none,0,none,0,[],[],AF,AJ _,rfl,Zq.nil _ _ _ _ AE,rfl,Zq.nil _ _ _ _ AE,AL _ _,LH F,LH e3⟩
 obtain⟨k,A,c,f,g,qs,b,rfl,hk,rfl,ax,rfl,ay,X,al,W⟩:=hrel;by_cases ck:0<k
 ·obtain⟨i,rfl⟩:∃i,k=i+1:=⟨k-1,AA⟩;clear ck;have bp:((i+1:Nat):Int)-1=(i:Int):=AA
  rw[bp];clear bp;have br:i / 32<xs.length:=AA
  have S:=LH (bit_of xs lx i);have ba:=LH (Zsy (val xs) (val ys) i a3);obtain⟨j,r,bq,s⟩:∃j r,i=32*j+r/\r<32:=⟨i / 32,i % 32,AA,AA⟩;have hj:i / 32=j:=AA
  have bz:i % 32=r:=AA
  rw[hj] at br S;rw[bz] at S;have cj:(i:Int) / 32=(j:Int):=AA
  have cs:(i:Int) % 32=(r:Int):=AA
  have c3:=LH bq;clear bq hj bz;obtain⟨b1,o1,u,rfl,c9,Hu,J⟩:=(h1.below X).get (j:=j) br;have cu:=lx.of_get Hu.out;have co:(2:Int) ^ r=((2 ^ r:Nat):Int):=AE
  have cx:(u:Int) / ((2 ^ r:Nat):Int)=((u / 2 ^ r:Nat):Int):=AE
  have bo:=Yn (d:=0) Hu.out;have bl:u / 2 ^ r % 2=val xs / 2 ^ i % 2:=by have:=S.out;rwa [bo] at this
  have dg:u / 2 ^ r<4294967296:=Ev (Nat.div_le_self _ _) cu;have bk:((u / 2 ^ r:Nat):Int) % 2=((u / 2 ^ r % 2:Nat):Int):=AA
  have bm:u / 2 ^ r % 2<=1:=AA
  generalize u / 2 ^ r=z at *;generalize ch:z % 2=bt at *;have b6:=LH bl;clear ch bl bo S;generalize cp:(2:Nat) ^ r=pw at *;clear cp;have a1:val b=val xs / 2 ^ (i+1) % val ys:=by rw[W.out,Yd]
  have lr:Lim b:=by rw[W.out];exact Z9 _
  have ct:b.length<=32:=by
   rw[W.out,Vt];exact Nat.lt_trans (Nat.mod_lt _ a3) bd.out
  have ab:=ba.out;have b2:(limbs (2*val b+bt)).length<=33:=by
   have a2:=bd.out;rw[Vt,Nat.pow_succ];have:val b<val ys:=by rw[a1];exact Nat.mod_lt _ a3
   generalize (4294967296:Nat) ^ 32=B at *;omega
  have cc:=LH a1;simp only[] at ab;rw[<-b6.out,<-cc.out] at ab;have V:=LH ab;clear ab ba a1;obtain⟨wo,rfl⟩:∃wo:World,wo=wr:=⟨_,rfl⟩;go_wp2;go_loopw [12,13] (RDblRel wo b E bt) (λ_ q _=>(33-intOf q).toNat)
  case atStart=>exact⟨0,AV _,rfl,congrArg _ bk,by simpa [twP] using Own.new wo 49 .u32 E,(AL _ _).alloc (AJ _) _⟩
  clear J bw co cx bk cj cs;obtain⟨q,hq,rfl,rfl,C,Y⟩:=hrel;have ci:=Ae b bt bm lr q;have U:=LH (Zye b bt q);by_cases cl:q<33
  ·have cw:=lr.getD q;obtain⟨y,Hy⟩:∃y,Hid (b.getD q 0=y):=⟨_,LH rfl⟩;have hl:=Ww f b.length g b q wr (ay.below Y) lr;rw[Hy.out] at hl cw;have Hl:=LH hl;obtain⟨v,Hv,db⟩:=C.cell (i:=q) (by rw[AU,U.out,DQ,ap.out];omega);have dc:=C.frozen q;clear hl;go_wp2_with (go_at_call 79;(with_reducible refine Hl.out.mono ?_);rintro e w'⟨rfl,rfl⟩);go_roundw
   case rel =>
    refine⟨q+1,AA,AF,?_,?_,Y.setCell AE _⟩
    ·simp only[twP,Hy.out];go_num
    have:=C.set_ q ((2*y+(twP b bt q).2) % 4294967296);rw[Md _ E q _ U.out (by rw[ap.out];exact cl)] at this;simp only[twP,Hy.out];simpa using this
   simp[intOf];omega
  have av:q=33:=AA
  rw[List.drop_eq_nil_of_le (by rw[ap.out];omega),DH] at C;have bx:=C.nums (n:=33) (c:=33) (by rw[U.out];exact av) (AJ _) AA;have aj:=LH (Vg _ (twP_lim b bt q));rw[dbl_done b lr bt bm ct q av] at aj;have M:qs=limbs (val xs / 2 ^ (i+1) / val ys):=al.out;have R:Hid (val xs / 2 ^ (i+1) / val ys<big):=LH (by
   have h1:=bc.out;have o:=Nat.div_le_self (val xs) (2 ^ (i+1));have h3:=Nat.div_le_self (val xs / 2 ^ (i+1)) (val ys);omega)
  have T:Hid (val xs / 2 ^ i / val ys<big):=LH (by
   have h1:=bc.out;have o:=Nat.div_le_self (val xs) (2 ^ i);have h3:=Nat.div_le_self (val xs / 2 ^ i) (val ys);omega)
  clear al;generalize cq:val xs / 2 ^ (i+1) / val ys=a at *;clear cq;subst M;have x:Below w w wr:=X.trans (Y.mono X.size);have aa:=ax.below Y;have da:=x.size;have ak:=LH b2;have ao:Hid (ys.length<=33):=LH AA;have a5:=LH ly;clear C U ci av ay ax b2;generalize hp:(twP b bt q).1=ps at *;clear hp;by_cases Z:val ys<=2*val b+bt
  ·have J:decide (Vm (2*val b+bt) (val ys)=-1)=false:=by
    unfold Vm;rw[if_neg AA];split <;> rfl
   have s:=V.out.1 Z;have Hr:=LH s;have b9:=LH Z;have L:Xm (a+a)=(limbs (a+a),0):=Km (by have:=T.out;rw[s.2] at this;omega);have bn:Xm (a+a+1)=(limbs (a+a+1),0):=Km (by have:=T.out;rw[s.2] at this;omega);have b5:Hid (a+a<big):=LH (by have:=T.out;rw[s.2] at this;omega);have ai:=LH L;have b7:=LH bn;clear L bn s Z V;generalize a0:2*val b+bt=v2 at *;clear a0;have H:∀w' A c f g,Zq .u32 w' A (limbs a).length c (limbs a)->Zq .u32 w' f (limbs a).length g (limbs a)->Calls prog 59 #[.slice A (limbs a).length c,.slice f (limbs a).length g] w' (Xr w' (limbs (a+a),0)):=by
    intro w' A c f g G I;have:=Aa A c a f g a w' G I R.out R.out;rwa [ai.out] at this
   have bj:∀w' A c f g,Zq .u32 w' A (limbs (a+a)).length c (limbs (a+a))->Zq .u32 w' f 1 g [1]->Calls prog 59 #[.slice A (limbs (a+a)).length c,.slice f 1 g] w' (Xr w' (limbs (a+a+1),0)):=by
    intro w' A c f g G I;have e:=limbs_one;have cg:Zq .u32 w' f (limbs 1).length g (limbs 1):=by rw[e];exact I
    have:=Aa A c (a+a) f g 1 w' G cg b5.out (small_big 1 AC);rw[b7.out,e] at this;exact this
   have ah:=LH H;have b4:=LH bj;clear H bj;go_wp2_with (first
    | (go_at_call 80;(with_reducible refine (G6 _ _ _ _ _ bx).mono ?_);rintro e w'⟨rfl,t,rfl⟩;rw[aj.out] at t ⊢)
    | (go_at_call 214;(with_reducible refine (Zvr _ _ _ _ _ _ _ _ _ (t.below p) ((o.below x).below p) (Z9 _) a5.out ak.out ao.out).mono ?_);rintro e w'⟨rfl,rfl⟩;rw[Yd,J])
    | (go_at_call 215;(with_reducible refine (ref_less _ _ _ _ _ _ _ _ _ (t.below p) ((o.below x).below p) (Z9 _) a5.out ak.out ao.out (by rw[Yd];exact b9.out)).mono ?_);rintro e w3⟨A5,c5,rfl,bu,bg⟩;rw[Yd] at bu ⊢)
    | (go_at_call 59;(with_reducible refine (ah.out _ _ _ _ _ aa aa).mono ?_);rintro e w1⟨A4,c4,rfl,aw,p⟩)
    | (go_at_call 59;(with_reducible refine (b4.out _ _ _ _ _ ((aw.below bg).below ((AL _ _).alloc (AJ _) _)) (one_nums w3)).mono ?_);rintro e w6⟨A6,c6,rfl,cr,bh⟩))
   have bi:Below w3 w3 (w3.alloc (.cells #[.int .u32 1] 49)):=(AL _ _).alloc (AJ _) _;have ar:=Zz (Zz (Zz (Zz x p) bg) bi) bh;go_roundw
   case rel =>
    obtain⟨e1,F⟩:=Hr.out;refine⟨i,A6,c6,A5,c5,limbs (a+a+1),limbs (v2-val ys),AF,AA,rfl,cr,rfl,(bu.below bi).below bh,ar,LH ?_,LH ?_⟩
    ·rw[F,Nat.two_mul]
    rw[e1]
   simp[intOf] <;> omega
  have J:decide (Vm (2*val b+bt) (val ys)=-1)=true:=by
   unfold Vm;rw[if_pos AA];rfl
  have s:=V.out.2 AA;have Hr:=LH s;have L:Xm (a+a)=(limbs (a+a),0):=Km (by have:=T.out;rw[s.2] at this;omega);have ai:=LH L;clear L s Z V;generalize a0:2*val b+bt=v2 at *;clear a0;have H:∀w' A c f g,Zq .u32 w' A (limbs a).length c (limbs a)->Zq .u32 w' f (limbs a).length g (limbs a)->Calls prog 59 #[.slice A (limbs a).length c,.slice f (limbs a).length g] w' (Xr w' (limbs (a+a),0)):=by
   intro w' A c f g G I;have:=Aa A c a f g a w' G I R.out R.out;rwa [ai.out] at this
  have ah:=LH H;clear H;go_wp2_with (first
   | (go_at_call 80;(with_reducible refine (G6 _ _ _ _ _ bx).mono ?_);rintro e w'⟨rfl,t,rfl⟩;rw[aj.out] at t ⊢)
   | (go_at_call 214;(with_reducible refine (Zvr _ _ _ _ _ _ _ _ _ (t.below p) ((o.below x).below p) (Z9 _) a5.out ak.out ao.out).mono ?_);rintro e w'⟨rfl,rfl⟩;rw[Yd,J])
   | (go_at_call 59;(with_reducible refine (ah.out _ _ _ _ _ aa aa).mono ?_);rintro e w1⟨A4,c4,rfl,aw,p⟩))
  have ar:=Zz x p;go_roundw
  case rel =>
   obtain⟨e1,F⟩:=Hr.out;refine⟨i,A4,c4,_,33,limbs (a+a),limbs v2,AF,AA,rfl,aw,rfl,t.below p,ar,LH ?_,LH ?_⟩
   ·rw[F,Nat.two_mul]
   rw[e1]
  simp[intOf] <;> omega
 obtain rfl:k=0:=AA
 have M:=al.out;rw[Nat.pow_zero,Nat.div_one] at M;have az:=W.out;rw[Nat.pow_zero,Nat.div_one] at az;have ca:=LH M;have cb:=LH az;clear M az;go_wp2;go_ret3
 rw[<-ca.out,<-cb.out];unfold RetQuo;exact⟨_,_,_,_,rfl,ax,ay,X⟩
theorem rf_here(Ar:Option Addr)(cr a:Nat)(b:Option Addr)(ns cs:Nat)(c:Bool)(x:Nat)(w:World)(n:Zq .u32 w Ar (limbs a).length cr (limbs a))(y:a<big)(p:Z1 w b ns cs c x):
 Calls prog 131 #[.slice Ar (limbs a).length cr,.agg #[.slice b ns cs,.bool c]] w λe w'=>e = .returned (.bool (decide (a<x)))/\Below w w w':=by
 have j:=Zy w (.cells #[.slice b ns cs,.bool c] 46);have g:=Blk.new w 46 #[.slice b ns cs,.bool c];have o:=n.below j;have k:=p.below j;have m:=LH j;have s:=LH o;clear n p j o;go_enter func131,ntmps131;go_upto_region 1 with fail;generalize w.alloc (.cells #[.slice b ns cs,.bool c] 46)=l at *;have A:l.cell? ⟨w,0,none⟩=some (.slice b ns cs):=g.cell 0;have B:l.cell? ⟨w,1,none⟩=some (.bool c):=g.cell 1;have C:=g.lt;clear g;rcases k.cases with ⟨q,rfl,ex⟩ | ⟨q,rfl,ex⟩
 case inr =>
  have t:Hid (decide (a<x)=true):=Eg AA;clear ex k;go_wp2_with fail;go_ret;exact⟨by rw[t];rfl,m⟩
 have f:=k.2;rw[ex] at f;obtain rfl:=f.len;have d:=Le Ar _ cr (limbs a) b _ cs (limbs x) l s f (Z9 _) (Z9 _);rw[Zvu y q] at d;unfold Quiet at d;have d:=LH d;have hd:decide (Vm a x<0)=decide (a<x):=by
  by_cases h:a<x
  ·rw[Eg h,Eg (Q5.2 h)]
  rw[Ej h,Ej λu=>h (Q5.1 u)]
 clear ex k f;go_wp2_with (first
  | (go_at_call 36
     refine d.out.mono ?_;rintro e z⟨rfl,v⟩;have r:=LH (Zz m (v.below _))))
 go_ret;exact⟨by first | rfl | rw[hd],r⟩
theorem rf_less(d:Option Addr)(c1 a:Nat)(f:Option Addr)(c2 b:Nat)(w:World)(h1:Zq .u32 w d (limbs a).length c1 (limbs a))(g:Zq .u32 w f (limbs b).length c2 (limbs b))(k:a<big)(l:b<=a):
 Calls prog 133 #[.slice d (limbs a).length c1,.slice f (limbs b).length c2] w λe w'=>∃A c,e = .returned (.slice A (limbs (a-b)).length c)/\Zq .u32 w' A (limbs (a-b)).length c (limbs (a-b))/\Below w w w':=by
 have CA:=ref_sub d _ c1 (limbs a) f _ c2 (limbs b) w h1 g (Z9 _) (Z9 _);rw[Zw6 k l] at CA;have CA:=LH CA;clear h1 g;go_enter func133,ntmps133;go_wp2_with (first
  | (go_at_call 184
     refine CA.out.mono ?_;rintro e o⟨h,j,rfl,n,m⟩))
 go_ret;exact⟨h,j,rfl,n,m⟩
theorem rf_wtree{W0:World}{h:GH}{G:Gr}{At:Option Addr}{nt ct:Nat}(hT:TbG W0 h G At nt ct tab)(S:Xq G)(m:Nat)(HF:WFC W0 h G At nt ct m):WTC W0 h G At nt ct (m+1):=by
 intro f cs s n r t Ar cr w fz h0 hl hU c8 hn hr a;obtain⟨O,x0,q,t1,ad,dr,hU,dn,rfl⟩:=hU;have hq:q<Zx (Zv G) x0.right n:=hU.lt S (InG.at S.fits ad);have b4:Z0 (Zv G) G.rules (Zp s) (O+1) n<=Zv G s n:=by
  rw[Uu S h0 hl];exact Kj _ _ _ _ _
 rw[Y3 _ ad,if_pos dr] at b4;have ft:O<G.rules.length:=(AO.1 ad).1;have f0:x0.left=(Zp s:Int):=by
  have:=(S.fits.left x0 (AM ad)).1;omega
 have fx:n<=10:=by have:=hT.nt;omega
 have fd:Hid (∀(j:Nat) (x:Rul),G.rules[j]? = some x->J1 x.right n/\(∀s∈x.right,G.has s=true)/\0<=x.left):=LH λj x hx=>by
  have h1:=Bg S.fits (AM hx) fx;exact⟨h1.1,h1.2,(S.fits.left x (AM hx)).1⟩
 have co:Hid (∀(j:Nat) (x:Rul),G.rules[j]? = some x->Z0 (Zv G) G.rules (Zp s) (j+1) n=Z0 (Zv G) G.rules (Zp s) j n+(if x.left.toNat=Zp s then Zx (Zv G) x.right n else 0)):=LH λj x hx=>Y3 _ hx _ _;have cm:Hid (∀j,j<=O->Z0 (Zv G) G.rules (Zp s) j n<=Z0 (Zv G) G.rules (Zp s) O n):=LH λj hj=>Vf _ _ _ _ hj;have d6:Hid (InG G x0.right):=InG.at S.fits ad;obtain⟨A,c,V⟩:=a;obtain⟨a1,n1,c1,a2,n2,c2,a3,n3,c3⟩:=h;have dd:n3=G.rules.length:=hT.at_.rules.len.symm;have gx:O<n3:=AA
 have hc:n3<=40:=by have:=S.fits.n3.2;omega
 have gk:=LH dd;have gt:=hT.at_.rules.cap;have gz:=S.fits.n2.2;have gv:=S.fits.n1;have g8:=hT.tabm.1;have g9:=hT.tabm.2.1;have g3:=hT.nt;have g7:=(show Za .i64 w A cs.length c (cs.map λi:Nat=>(i:Int)) from Yl V.row.1).cap;have gu:=V.few;have HB:=LH hT;have d5:=LH HF;have HU:=LH hU;have bp:=LH ad;have cl:=LH c8;have HR:=LH hr;have HM:=LH V;have cp:=LH b4;have a8:=LH dn;have Hq:=LH hq;have g0:w.cell? ⟨f,0,none⟩=some (.slice a1 n1 c1):=V.box.cell 0;have g2:w.cell? ⟨f,2,none⟩=some (.slice a3 n3 c3):=V.box.cell 2;have g5:w.cell? ⟨f,5,none⟩=some (.slice A cs.length c):=V.box.cell 5;have g6:w.cell? ⟨f,6,none⟩=some (.bool false):=V.box.cell 6;have f6:=V.box.frozen 6;have T:=V.box.lt;clear hT S HF hU ad dr c8 hr V b4 dn hq h0 hl dd ft;by_cases av:cs.length=300
 case pos =>
  have fs:((cs.length:Int)==300)=true:=by rw[av];rfl
  have bl:=LH av;have au:=HM.fill;have cg:=LH au;have y6:(w.setCell ⟨f,6,none⟩ (.bool true)).cell? ⟨f,6,none⟩=some (.bool true):=au.1.box.cell 6;have y2:(w.setCell ⟨f,6,none⟩ (.bool true)).cell? ⟨f,2,none⟩=some (.slice a3 n3 c3):=au.1.box.cell 2;have yl:=au.1.box.lt;clear av au;go_enter func81,ntmps81;go_wp2_with fail;go_loopw [8] (λi wr=>i = .int .i64 (0:Int)/\wr=w.setCell ⟨f,6,none⟩ (.bool true)) (λ_ _=>0)
  case atStart=>exact⟨rfl,rfl⟩
  obtain⟨rfl,rfl⟩:=hrel;go_wp2_with fail;refine bodyPost_end (results_none rfl _ _ _) rfl ?_;exact⟨rfl,cg.2,.inr ⟨by rw[bl,AZ];omega,cs,_,_,cg.1⟩⟩
 have fs:((cs.length:Int)==300)=false:=by
  rw[AQ];omega
 have bl:=LH av;clear av;go_enter func81,ntmps81;go_wp2_with fail;go_loopw [3,8] (λv i wr=>∃(j D:Nat) (Y:Option Addr) (Z:Nat),i = .int .i64 (j:Int)/\j<=O/\v = .slice Y (limbs D).length Z/\Hid (r=Z0 (Zv G) G.rules (Zp s) j n+D)/\Hid (Zq .u32 wr Y (limbs D).length Z (limbs D))/\Hid (Below w w wr)) (λ_ i _=>O+1-(intOf i).toNat)
 case atStart=>exact⟨0,r,Ar,cr,rfl,AV _,rfl,LH (by rw[Qb];omega),HR,LH (AL _ _)⟩
 obtain⟨j,D,Y,Z,rfl,hj,rfl,ag,HN,bk⟩:=hrel;have bh:=LH (HM.below bk);clear g0 g2 g5 g6 f6 T HM HR;have M:=bh.out;obtain⟨J,L,x,Ax,cx,rfl,bz,Hx,q0,q1,q2,cz⟩:=HB.at_.rules.get (j:=j) (by show j<n3;omega);have e0:=(M.base.cell (p:=⟨J,L+j*3,none⟩) bz).trans q0;have R:=(M.base.cell (p:=⟨J,L+j*3+1,none⟩) bz).trans q1;have ar:=AK bz M.base.size;have d7:=LH cz;have g0:wr.cell? ⟨f,0,none⟩=some (.slice a1 n1 c1):=M.box.cell 0;have g2:wr.cell? ⟨f,2,none⟩=some (.slice (some ⟨J,L,none⟩) n3 c3):=M.box.cell 2;have g4:wr.cell? ⟨f,4,none⟩=some (.slice At nt ct):=M.box.cell 4;have g5:wr.cell? ⟨f,5,none⟩=some (.slice A cs.length c):=M.box.cell 5;have g6:wr.cell? ⟨f,6,none⟩=some (.bool false):=M.box.cell 6;have T:=M.box.lt;have bb:=fd j x Hx;have ch:=LH bb.1;have bm:=LH bb.2.1;have ha:=bb.2.2;have gy:j<n3:=AA
 clear M q0 q1 q2 cz bb;by_cases ai:x.left=(Zp s:Int)
 case neg =>
  have df:(x.left != (Zp s:Int))=true:=by simpa using ai
  have fu:j≠O:=by
   rintro rfl;have e:=Hx.symm.trans bp;injection e with e;subst e;exact ai f0
  have bn:Hid (r=Z0 (Zv G) G.rules (Zp s) (j+1) n+D):=LH (by
   rw[co j x Hx,if_neg AA];exact ag)
  clear ai;go_wp2_with fail;go_roundw
  case rel=>exact⟨j+1,D,Y,Z,AF,AA,rfl,bn,HN,bk⟩
  simp[intOf] <;> omega
 have df:(x.left != (Zp s:Int))=false:=by simpa using ai
 have fj:=LH ai;obtain⟨y,Hy⟩:∃y,Hid (Zx (Zv G) x.right n=y):=⟨_,LH rfl⟩;have dp:D<big:=by
  have h1:=ag.out;have U:=a8.out;have h3:=cp.out;have h4:=cl.out;have h5:=Hq.out;have h6:=cm j hj;omega
 have bo:=LH dp;clear ai dp;have CF:Hid (∀X,Below wr wr X->Calls prog 53 #[.slice At nt ct,.slice Ax x.right.length cx,.int .i64 (n:Int)] X λe w'=>Below X X w'/\∃H P I N,e = .returned (.agg #[.slice H P I,.bool N])/\Z1 w' H P I N y):=LH λX k=>by
  have c4:=Zz bh.base k;have h1:=Kd At nt ct G.nons.length tab Ax cx x.right n X (HB.tabm.below c4) hn AA AA (d7.below c4) (by have:=ch.len;omega) (λs hs=>by have:=H7 (bm s hs);omega);rw[HB.forest bm hn,Hy] at h1;exact h1.mono λe w' h=>h
 go_upto_region 6 with fail;refine Yi (Γ:=Unit) (λ_ b u X=>VMs wr [(⟨15,16,14,46,#[.slice none 0 0,.bool false]⟩:Qr)] b u X) (λX z=>Zu X z) () (λu=>(⟨(.pointer (some ⟨f,0,none⟩) :: .int .i64 ((Zp s:Nat):Int) :: .int .i64 (n:Int) :: .slice Y (limbs D).length Z::undef::undef::undef::undef :: .int .i64 (j:Int)::u 15 :: .pointer (some ⟨f,0,none⟩) :: .pointer (some ⟨f,0,none⟩) :: .pointer (some ⟨f,5,none⟩) :: .slice A cs.length c :: .int .i64 (cs.length:Int) :: .bool false::undef::undef::undef :: .int .i64 (j:Int) :: .pointer (some ⟨f,0,none⟩) :: .pointer (some ⟨f,0,none⟩) :: .pointer (some ⟨f,0,none⟩) :: .pointer (some ⟨f,2,none⟩) :: .slice (some ⟨J,L,none⟩) n3 c3 :: .int .i64 (n3:Int) :: .bool true :: .bool true :: .pointer (some ⟨f,0,none⟩) :: .pointer (some ⟨f,0,none⟩) :: .pointer (some ⟨f,6,none⟩) :: .bool false :: .bool true :: .bool true::u34::u35 :: .pointer (some ⟨f,0,none⟩) :: .pointer (some ⟨f,0,none⟩) :: .pointer (some ⟨f,0,none⟩) :: .pointer (some ⟨f,2,none⟩) :: .slice (some ⟨J,L,none⟩) n3 c3 :: .int .i64 (j:Int) :: .pointer (some ⟨J,L+j*3,none⟩) :: .pointer (some ⟨J,L+j*3,none⟩) :: .int .i64 x.left :: .int .i64 ((Zp s:Nat):Int) :: .bool false::u 0::u 1::u 2::u 3::u 4::u 5::u 6::u 7::u 8::u 9::u 10::u 11::u 12::u 13::u 14::u62::u63::u64::u65::u66::u67::u68::u69::u70::u71::u72::u73::u74::u75::u76::u77::u78::u79::u80::u81::u82::u83::u84::u85::u86::u87::u88::u89::u90::u91::[]).toArray,[]⟩:Act)) [u47,u48,u49,u50,u51,u52,u53,u54,u55,u56,u57,u58,u59,u60,u61,u9,undef] [λv X=>v = .pointer (some ⟨f,0,none⟩),λv X=>v = .pointer (some ⟨f,0,none⟩),λv X=>v = .pointer (some ⟨f,4,none⟩),λv X=>v = .slice At nt ct,λv X=>v = .pointer (some ⟨f,0,none⟩),λv X=>v = .pointer (some ⟨f,0,none⟩),λv X=>v = .pointer (some ⟨f,0,none⟩),λv X=>v = .pointer (some ⟨f,2,none⟩),λv X=>v = .slice (some ⟨J,L,none⟩) n3 c3,λv X=>v = .int .i64 (j:Int),λv X=>v = .pointer (some ⟨J,L+j*3,none⟩),λv X=>v = .pointer (some ⟨J,L+j*3+1,none⟩),λv X=>v = .slice Ax x.right.length cx,λv X=>v = .int .i64 (n:Int),λv X=>∃H P I N,v = .agg #[.slice H P I,.bool N]/\Z1 X H P I N y,λv X=>True,λv X=>True] (l:=[_,_,_,_,_,_,_,_,_,_,_,_,_,_,_,_,_]) AB AB rfl (VMs.start _ _ _) ⟨AI,AI,AI,AI,AI,AI,AI,AI,AI,AI,AI,AI,AI,AI,(λv X z ⟨H,P,I,N,e,h⟩ k=>⟨H,P,I,N,e,h.nkept k⟩),AI,AI,trivial⟩ ?_ ?_
 ·refine Zw.con (λQ g b u X o F a d K C=>?_) ?_
  ·have E:=a.below;clear d o;go_simp;exact C _ () _ (Zu.refl _) (a.idle (AL _ _) 0 rfl _) rfl
  refine Zw.con (λQ g b u X o F a d K C=>?_) ?_
  ·have p0:u 0=_:=(d 0 rfl).2;have E:=a.below;clear d o;rw[p0] at C⊢;go_simp;exact C _ () _ (Zu.refl _) (a.idle (AL _ _) 1 rfl _) rfl
  refine Zw.con (λQ g b u X o F a d K C=>?_) ?_
  ·have p1:u 1=_:=(d 1 rfl).2;have E:=a.below;clear d o;rw[p1] at C⊢;go_simp;exact C _ () _ (Zu.refl _) (a.idle (AL _ _) 2 rfl _) rfl
  refine Zw.con (λQ g b u X o F a d K C=>?_) ?_
  ·have p2:u 2=_:=(d 2 rfl).2;have E:=a.below;have y0:=(E.cell (p:=⟨f,4,none⟩) T).trans g4;have yl:=AK T E.size;clear d o;rw[p2] at C⊢;go_simp;exact C _ () _ (Zu.refl _) (a.idle (AL _ _) 3 rfl _) rfl
  refine Zw.con (λQ g b u X o F a d K C=>?_) ?_
  ·have E:=a.below;clear d o;go_simp;exact C _ () _ (Zu.refl _) (a.idle (AL _ _) 4 rfl _) rfl
  refine Zw.con (λQ g b u X o F a d K C=>?_) ?_
  ·have p4:u 4=_:=(d 4 rfl).2;have E:=a.below;clear d o;rw[p4] at C⊢;go_simp;exact C _ () _ (Zu.refl _) (a.idle (AL _ _) 5 rfl _) rfl
  refine Zw.con (λQ g b u X o F a d K C=>?_) ?_
  ·have p5:u 5=_:=(d 5 rfl).2;have E:=a.below;clear d o;rw[p5] at C⊢;go_simp;exact C _ () _ (Zu.refl _) (a.idle (AL _ _) 6 rfl _) rfl
  refine Zw.con (λQ g b u X o F a d K C=>?_) ?_
  ·have p6:u 6=_:=(d 6 rfl).2;have E:=a.below;clear d o;rw[p6] at C⊢;go_simp;exact C _ () _ (Zu.refl _) (a.idle (AL _ _) 7 rfl _) rfl
  refine Zw.con (λQ g b u X o F a d K C=>?_) ?_
  ·have p7:u 7=_:=(d 7 rfl).2;have E:=a.below;have y0:=(E.cell (p:=⟨f,2,none⟩) T).trans g2;have yl:=AK T E.size;clear d o;rw[p7] at C⊢;go_simp;exact C _ () _ (Zu.refl _) (a.idle (AL _ _) 8 rfl _) rfl
  refine Zw.con (λQ g b u X o F a d K C=>?_) ?_
  ·have E:=a.below;clear d o;go_simp;exact C _ () _ (Zu.refl _) (a.idle (AL _ _) 9 rfl _) rfl
  refine Zw.con (λQ g b u X o F a d K C=>?_) ?_
  ·have p8:u 8=_:=(d 8 rfl).2;have p9:u 9=_:=(d 9 rfl).2;have E:=a.below;clear d o;rw[p8,p9] at C⊢;go_simp;exact C _ () _ (Zu.refl _) (a.idle (AL _ _) 10 rfl _) rfl
  refine Zw.con (λQ g b u X o F a d K C=>?_) ?_
  ·have f2:u 10=_:=(d 10 rfl).2;have E:=a.below;clear d o;rw[f2] at C⊢;go_simp;exact C _ () _ (Zu.refl _) (a.idle (AL _ _) 11 rfl _) rfl
  refine Zw.con (λQ g b u X o F a d K C=>?_) ?_
  ·have f3:u 11=_:=(d 11 rfl).2;have E:=a.below;have y0:=(E.cell (p:=⟨J,L+j*3+1,none⟩) ar).trans R;have yl:=AK ar E.size;clear d o;rw[f3] at C⊢;go_simp;exact C _ () _ (Zu.refl _) (a.idle (AL _ _) 12 rfl _) rfl
  refine Zw.con (λQ g b u X o F a d K C=>?_) ?_
  ·have E:=a.below;clear d o;go_simp;exact C _ () _ (Zu.refl _) (a.idle (AL _ _) 13 rfl _) rfl
  refine Zw.con (λQ g b u X o F a d K C=>?_) ?_
  ·have p3:u 3=_:=(d 3 rfl).2;have f4:u 12=_:=(d 12 rfl).2;have f5:u 13=_:=(d 13 rfl).2;have b3:b 16=false:=o.no F AB;have B:=λz (k:Below X X z) v=>a.call k 14 b3 rfl v;have E:=a.below;have CC:=CF X E;clear d a o;rw[p3,f4,f5] at C⊢;go_simp;go_at_call 53;refine CC.mono ?_;rintro e z⟨k,H,P,I,N,rfl,hv⟩;go_simp;exact C _ () _ (.of_below k) (B _ k _) ⟨H,P,I,N,rfl,hv⟩
  refine Zw.con (λQ g b u X o F a d K C=>?_) ?_
  ·have b3:b 16=false:=o.no F AB;have B:=a.made (p:=(⟨15,16,14,46,#[.slice none 0 0,.bool false]⟩:Qr)) AE b3 (λp d=>by simp only[BV,Ec,or_false] at d;rcases d with rfl <;> exact⟨AE,AC,AC⟩);clear d a o;go_simp;exact C _ () _ (.of_below (Zy _ _)) B trivial
  refine Zw.con (λQ g b u X o F a d K C=>?_) ?_
  ·obtain⟨H,P,I,N,a0,hv⟩:=(d 14 rfl).2;obtain⟨gB,fn,ah,B,fq⟩:=a.put2 (p:=(⟨15,16,14,46,#[.slice none 0 0,.bool false]⟩:Qr)) AE (d 15 rfl).1 F (λp d=>by simp only[BV,Ec,or_false] at d;rcases d with rfl <;> exact⟨AE,AC,AC,AE⟩) rfl nofun nofun a0
   clear d a o;generalize u 15=jc at *;subst fn;generalize u 14=jb at *;subst a0;have y0:=ah.cell 0;have jo:=ah.frozen 0;have y1:=ah.cell 1;have jp:=ah.frozen 1;have yl:=ah.lt;clear ah;go_simp;exact C undef () _ fq (B undef) trivial
  exact Zw.nil
 intro _ b9 u X9 bx bw d;obtain⟨g1,vs,du,gw,c0,a0⟩:=bw.fin (p:=⟨15,16,14,46,#[.slice none 0 0,.bool false]⟩) AE (bx 15 AC) (bx 16 AC);obtain⟨H,P,I,N,ca,hv⟩:=d 14 AC;obtain rfl:vs=#[.slice H P I,.bool N]:=by
  rw[a0] at ca;injection ca
 have dv:u 15=_:=du;have a9:=bw.below;have ce:=LH (Zz bk a9);have d8:=LH (bh.below a9);have bj:=LH c0;have HV:=LH hv;have bi:=LH (HN.below a9);clear d bx bw a0 ca a9 c0 hv b9;rw[dv];clear du dv g0 g2 g4 g5 g6 T e0 R ar CF;generalize u 0=w0 at *;generalize u 1=w1 at *;generalize u 2=w2 at *;generalize u 3=w3 at *;generalize u 4=w4 at *;generalize u 5=w5 at *;generalize u 6=w6 at *;generalize u 7=w7 at *;generalize u 8=w8 at *;generalize u 9=w9 at *;generalize u 10=he at *;generalize u 11=hf at *;generalize u 12=hg at *;generalize u 13=hh at *;generalize u 14=hi at *;clear u;have z0:X9.cell? ⟨g1,0,none⟩=some (.slice H P I):=bj.cell 0;have z1:X9.cell? ⟨g1,1,none⟩=some (.bool N):=bj.cell 1;have zl:=bj.lt;have CH:=LH (rf_here Y Z D H P I N y X9 bi bo HV);have dq:Z0 (Zv G) G.rules (Zp s) (j+1) n=Z0 (Zv G) G.rules (Zp s) j n+y:=by
  rw[co j x Hx,if_pos (by have:=fj.out;omega),Hy]
 have dh:j=O->D<y:=by
  intro e;subst e;have R:=Hx.symm.trans bp;injection R with R;subst R;have h1:=ag.out;have U:=a8.out;have h3:=Hq.out;have h4:=Hy.out;omega
 have dc:j<O->y<=D:=by
  intro aw;have h1:=cm (j+1) AA;have U:=ag.out;have h3:=a8.out;omega
 have fh:=LH dq;have ff:=LH dh;have fe:=LH dc;clear dq dh dc df;by_cases aw:D<y
 case neg =>
  rw[Ej aw] at CH;have fu:j<O:=by
   rcases BC j O with h | h
   ·exact h
   have:=ff AA;omega
  have bn:Hid (r=Z0 (Zv G) G.rules (Zp s) (j+1) n+(D-y)):=LH (by
   have h1:=fh.out;have U:=ag.out;omega)
  have ds:y<big:=by have:=bo.out;omega
  obtain⟨b0,az⟩:=HV.out;rw[Z7 ds] at b0 az;have dg:=az.len;simp only[] at b0 az dg;subst dg;have CL:Hid (∀X,Below X9 X9 X->Calls prog 133 #[.slice Y (limbs D).length Z,.slice H (limbs y).length I] X λe w'=>∃A c,e = .returned (.slice A (limbs (D-y)).length c)/\Zq .u32 w' A (limbs (D-y)).length c (limbs (D-y))/\Below X X w'):=LH λX k=>rf_less Y Z D H I y X (bi.below k) (az.below k) bo AA;clear aw az ds b0;go_wp2_with (first
   | (go_at_call 131
      refine CH.out.mono ?_;rintro e v1⟨rfl,W⟩;have jq:=(W.cell (p:=⟨g1,0,none⟩) zl).trans z0;have jr:=AK zl W.size;have d3:=LH (CL v1 W);have bf:=LH (Zz ce W);clear W)
   | (go_at_call 133
      refine d3.out.mono ?_;rintro e v2⟨A5,c5,rfl,de,c7⟩;have fa:=LH de;have d4:=LH (Zz bf c7);clear de c7))
  go_roundw
  case rel=>exact⟨j+1,D-y,A5,c5,AF,AA,rfl,bn,fa,d4⟩
  simp[intOf] <;> omega
 rw[Eg aw] at CH;obtain rfl:j=O:=by
  rcases BC j O with h | h
  ·have:=fe h;omega
  omega
 obtain rfl:x=x0:=by
  have R:=Hx.symm.trans bp;injection R
 obtain rfl:D=q:=by
  have h1:=ag.out;have U:=a8.out;omega
 have fc:Hid ((prog.info? 3).map (λi=>(i.zero,i.size,i.bytes))=some (some (.int .i64 0),1,8)):=LH AB;have fw:cs.length+1<=maxLen:=by unfold maxLen;omega
 clear aw;go_upto_region 8 with (first
  | (go_at_call 131
     refine CH.out.mono ?_;rintro e v1⟨rfl,W⟩;have af:=LH (d8.below W);have d9:=LH (bi.below W);have bf:=LH (Zz ce W);clear W))
 have g5:v1.cell? ⟨f,5,none⟩=some (.slice A cs.length c):=af.box.cell 5;have g0:v1.cell? ⟨f,0,none⟩=some (.slice a1 n1 c1):=af.box.cell 0;have T:=af.box.lt;have ar:W0.heap.size<=v1.heap.size:=af.base.size;clear z0 z1 zl CH;go_upto_region 9 with (first
  | (at_builtin;refine Nk rfl _ _ 27 rfl W0 8 underlying27 fc A cs.length c (cs.map λi:Nat=>(i:Int)) rfl af.row (j:Int) rfl fw AA ar ?_;intro A5 c5 w5 dm da fr
     have ax:=af.push (i:=j) (Zy _ _) dm da bl;have p5:w5.cell? ⟨f,5,none⟩=some (.slice A cs.length c):=ax.1.cell 5;have p2:=ax.1.frozen 5;have p3:=ax.1.lt;have HP:=LH ax.2;clear ax dm da fr))
 generalize w5.setCell ⟨f,5,none⟩ (.slice A5 (cs.length+1) c5)=W6 at *;clear p5 p2 p3 g5 g0 T;obtain⟨A6,c6,M6⟩:=HP.1;have g2:W6.cell? ⟨f,2,none⟩=some (.slice (some ⟨J,L,none⟩) n3 c3):=M6.box.cell 2;have T:=M6.box.lt;obtain⟨cu,dt,x',dz,fl,eA,c9,fi,gc,dx,ge,_⟩:=HB.at_.rules.get (j:=j) (by show j<n3;omega);have eA:(some ⟨J,L,none⟩:Option Addr)=some ⟨cu,dt,none⟩:=eA;obtain⟨rfl,rfl⟩:J=cu/\L=dt:=by
  injection eA with eA;injection eA with R e2 _;exact⟨R,e2⟩
 obtain rfl:x=x':=by
  have R:=Hx.symm.trans fi;injection R
 have q1:=(M6.base.cell (p:=⟨J,L+j*3+1,none⟩) c9).trans dx;have gs:=AK c9 M6.base.size;have CF:=LH (d5 f (cs++[j]) x.right n D t1 dz fl Y Z W6 (by rw[AZ] at fz;omega) HU d6 (by have h1:=cp.out;have U:=cl.out;omega) ch.len hn bm AH (d9.nkept HP.2) HP.1);clear M6 gc dx ge;go_wp2_with (first
  | (go_at_call 132
     refine CF.out.mono ?_;rintro e W7⟨rfl,fv,di⟩;have fg:=LH di;clear di))
 refine AW (results_none rfl _ _ _) rfl ?_;refine⟨rfl,(Zu.of_below bf).trans (HP.2.trans fv),?_⟩;have dj:=fg.out;rw[AU,CU] at dj;rw[AZ];rcases dj with ⟨h1,U⟩ | ⟨h1,U⟩
 ·rw[DO] at U;exact .inl ⟨AA,U⟩
 exact .inr ⟨AA,U⟩
theorem Zwp{W0:World}{h:GH}{G:Gr}{At:Option Addr}{V P:Nat}(hT:TbG W0 h G At V P tab)(hP:Xq G)(m:Nat)(HT:WTC W0 h G At V P m):WFC W0 h G At V P m:=by
 intro O cs l
 induction l generalizing cs with
 | nil =>
   intro n r t Al W Ar cr w ce hU bc cc cd hn hh hl hr d;have fr:=d;obtain⟨A,c,ag⟩:=d;cases hU;have g5:=LH ag.few;have HM:=LH fr;clear ag fr hT hP HT bc cc cd hh hl hr ce;go_enter func132,ntmps132;go_wp2_with fail;refine AW (results_none rfl _ _ _) rfl ?_;exact⟨rfl,Zu.refl _,.inl ⟨by have:=g5.out;rw[DR];omega,by rw[DH];exact HM.out⟩⟩
 | cons s l ih =>
   intro n r t Al W Ar cr w ce hU bc cc cd hn hh hl hr d;obtain⟨k,q,r2,t1,t2,j2,f9,f7,f6,ft,rfl,f5,bd⟩:=hU.parts hP bc;obtain⟨A,c,ag⟩:=d;obtain⟨a1,n1,c1,a2,n2,c2,a3,n3,c3⟩:=h;have j8:=hT.tabm.1;have j9:=hT.tabm.2.1;have j6:=hT.nt;have jz:=hP.fits.n1;have j5:=hP.fits.n2.2;have gb:=H7 (hh s (AX ..));have jx:=hl.cap;obtain⟨ab,ao,s',rfl,ca,fl,ds⟩:=hl.get (j:=0) AE;obtain rfl:s=s':=by have:=fl.out;simpa using this
   rw[DG] at ds;have b6:=hl.tail1;rw[show (s::l).length-1=l.length from rfl] at b6;obtain⟨A2,hk⟩:∃A2:Option Addr,(if W=1 then some (⟨ab,ao,none⟩:Addr) else some ⟨ab,ao+1,none⟩)=A2:=⟨_,rfl⟩;rw[hk] at b6;have hq:InG G [s]:=λp f f4=>by
    rw[BU.1 f] at f4 ⊢;exact bc s (AX ..) f4
   have fs:0<Zx (Zv G) l (n-k):=AA
   have da:Hid (∀j,j<=k+1->Yv (Zv G) s l n j<=Zx (Zv G) (s::l) n):=LH λj hj=>by
    rw[<-Jn];exact Wz _ _ _ _ AA
   have bj:Hid (∀j,Yv (Zv G) s l n (j+1)=Yv (Zv G) s l n j+Zv G s j*Zx (Zv G) l (n-j)):=LH λj=>Xy _ _ _ _ _;have g7:Hid (∀j,j<=k->Yv (Zv G) s l n j<=Yv (Zv G) s l n k):=LH λj hj=>Wz _ _ _ _ hj;have HB:=LH hT;have gx:=LH HT;have IH:=LH ih;have fd:=LH ft;have dc:=LH f9;have fk:=LH f7;have fj:=LH f6;have ha:=LH f5;have g9:=LH bd;have c9:=LH bc;have c8:=LH cc;have Hh:=LH hh;have cu:=LH b6;have HL:=LH hl;have HM:=LH ag;have HR:=LH hr;have de:=LH ce;have HP:=LH hP;have j4:l.length<=5:=by simpa using cd
   have gy:=LH fs;have fm:=LH gb;have a9:=ag.base;have g4:w.cell? ⟨O,4,none⟩=some (.slice At V P):=ag.box.cell 4;have g6:w.cell? ⟨O,6,none⟩=some (.bool false):=ag.box.cell 6;have gl:=ag.box.lt;have j3:((l.length:Int)+1==0)=false:=by rw[AQ];omega
   clear hT HT ih hU ft f9 f7 f6 f5 bd bc cc hh b6 hl ag hr ce hP fs fl hq a9 cd gb;go_enter func132,ntmps132;go_wp2_with fail;go_loopw [3,8] (λv i wr=>∃(j N:Nat) (Av:Option Addr) (cv:Nat),i = .int .i64 (j:Int)/\j<=k/\v = .slice Av (limbs N).length cv/\Hid (r=Yv (Zv G) s l n j+N)/\Hid (Zq .u32 wr Av (limbs N).length cv (limbs N))/\Hid (Below w w wr)) (λ_ i _=>k+1-(intOf i).toNat)
   case atStart=>exact⟨0,r,Ar,cr,rfl,AV _,rfl,LH (by rw[Ug];omega),HR,LH (AL _ _)⟩
   obtain⟨j,N,Av,cv,rfl,hj,rfl,b4,HN,fh⟩:=hrel;have bg:=LH (HM.out.below fh.out);clear g4 g6 gl HM HR;have M:=bg.out;have g4:wr.cell? ⟨O,4,none⟩=some (.slice At V P):=M.box.cell 4;have gl:=M.box.lt;have s0:=(M.base.cell (p:=⟨ab,ao,none⟩) ca).trans ds;have sl:=AK ca M.base.size;have j1:j<=n:=AA
   clear M;obtain⟨x,Hx⟩:∃x,Hid (Zv G s j=x):=⟨_,LH rfl⟩;obtain⟨y,Hy⟩:∃y,Hid (Zx (Zv G) l (n-j)=y):=⟨_,LH rfl⟩;have CT:Hid (∀X,Below wr wr X->Calls prog 95 #[.slice At V P,.int .i64 s,.int .i64 (j:Int)] X λe w'=>Below X X w'/\∃H L I J,e = .returned (.agg #[.slice H L I,.bool J])/\Z1 w' H L I J x):=LH λX o=>by
    have a9:=Zz bg.out.base o;have h1:=Ztn At V P G.nons.length tab s j X (HB.out.tabm.below a9) AA AA AA (λ_=>by have:=fm.out;omega);rw[HB.out.tree (Hh.out s (AX ..)) AA,Hx.out] at h1;exact h1.mono λe w' h=>h
   have CF:Hid (∀X,Below wr wr X->Calls prog 53 #[.slice At V P,.slice A2 l.length (W-1),.int .i64 ((n-j:Nat):Int)] X λe w'=>Below X X w'/\∃H L I J,e = .returned (.agg #[.slice H L I,.bool J])/\Z1 w' H L I J y):=LH λX o=>by
    have a9:=Zz bg.out.base o;have h1:=Kd At V P G.nons.length tab A2 (W-1) l (n-j) X (HB.out.tabm.below a9) AA AA AA (cu.out.below a9) AA (λs hs=>by have:=H7 (Hh.out s (.tail _ hs));omega);rw[HB.out.forest (λs hs=>Hh.out s (.tail _ hs)) AA,Hy.out] at h1;exact h1.mono λe w' h=>h
   go_upto_region 4 with fail;refine Yi (Γ:=Unit) (λ_ b u X=>VMs wr [(⟨19,21,8,46,#[.slice none 0 0,.bool false]⟩:Qr),(⟨20,22,18,46,#[.slice none 0 0,.bool false]⟩:Qr)] b u X) (λX D=>Zu X D) () (λu=>(⟨(.pointer (some ⟨O,0,none⟩) :: .slice (some ⟨ab,ao,none⟩) (l.length+1) W :: .int .i64 (n:Int) :: .slice Av (limbs N).length cv::undef::undef::undef::undef :: .int .i64 (j:Int)::u 19::u 20::u11::u12::u13::u14 :: .slice (some ⟨ab,ao,none⟩) (l.length+1) W :: .int .i64 ((l.length:Int)+1) :: .bool false :: .bool false :: .pointer (some ⟨O,0,none⟩) :: .pointer (some ⟨O,0,none⟩) :: .pointer (some ⟨O,6,none⟩) :: .bool false :: .bool false :: .int .i64 (j:Int) :: .int .i64 (n:Int) :: .bool true::u27::u28::u 0::u 1::u 2::u 3::u 4::u 5::u 6::u 7::u 8::u 9::u 10::u 11::u 12::u 13::u 14::u 15::u 16::u 17::u 18::u48::u49::u50::u51::u52::u53::u54::u55::u56::u57::u58::u59::u60::u61::u62::u63::u64::u65::u66::u67::u68::u69::u70::u71::u72::u73::u74::u75::u76::u77::u78::u79::u80::u81::u82::u83::u84::u85::u86::[]).toArray,[]⟩:Act)) [u29,u30,u31,u32,u33,u34,u35,u36,u37,u38,u39,u40,u41,u42,u43,u44,u45,u46,u47,u9,u10,undef,undef] [λv X=>v = .pointer (some ⟨O,0,none⟩),λv X=>v = .pointer (some ⟨O,0,none⟩),λv X=>v = .pointer (some ⟨O,4,none⟩),λv X=>v = .slice At V P,λv X=>v = .slice (some ⟨ab,ao,none⟩) (l.length+1) W,λv X=>v = .pointer (some ⟨ab,ao,none⟩),λv X=>v = .int .i64 s,λv X=>v = .int .i64 (j:Int),λv X=>∃H L I J,v = .agg #[.slice H L I,.bool J]/\Z1 X H L I J x,λv X=>v = .pointer (some ⟨O,0,none⟩),λv X=>v = .pointer (some ⟨O,0,none⟩),λv X=>v = .pointer (some ⟨O,4,none⟩),λv X=>v = .slice At V P,λv X=>v = .slice (some ⟨ab,ao,none⟩) (l.length+1) W,λv X=>v = .slice A2 l.length (W-1),λv X=>v = .int .i64 (n:Int),λv X=>v = .int .i64 (j:Int),λv X=>v = .int .i64 ((n-j:Nat):Int),λv X=>∃H L I J,v = .agg #[.slice H L I,.bool J]/\Z1 X H L I J y,λv X=>True,λv X=>True,λv X=>True,λv X=>True] (l:=[_,_,_,_,_,_,_,_,_,_,_,_,_,_,_,_,_,_,_,_,_,_,_]) AB AB rfl (VMs.start _ _ _) ⟨AI,AI,AI,AI,AI,AI,AI,AI,(λv X D ⟨H,L,I,J,e,h⟩ o=>⟨H,L,I,J,e,h.nkept o⟩),AI,AI,AI,AI,AI,AI,AI,AI,AI,(λv X D ⟨H,L,I,J,e,h⟩ o=>⟨H,L,I,J,e,h.nkept o⟩),AI,AI,AI,AI,trivial⟩ ?_ ?_
   ·refine Zw.con (λQ g b u X z E d f K C=>?_) ?_
    ·have F:=d.below;clear f z;go_simp;exact C _ () _ (Zu.refl _) (d.idle (AL _ _) 0 rfl _) rfl
    refine Zw.con (λQ g b u X z E d f K C=>?_) ?_
    ·have p0:u 0=_:=(f 0 rfl).2;have F:=d.below;clear f z;rw[p0] at C⊢;go_simp;exact C _ () _ (Zu.refl _) (d.idle (AL _ _) 1 rfl _) rfl
    refine Zw.con (λQ g b u X z E d f K C=>?_) ?_
    ·have p1:u 1=_:=(f 1 rfl).2;have F:=d.below;clear f z;rw[p1] at C⊢;go_simp;exact C _ () _ (Zu.refl _) (d.idle (AL _ _) 2 rfl _) rfl
    refine Zw.con (λQ g b u X z E d f K C=>?_) ?_
    ·have p2:u 2=_:=(f 2 rfl).2;have F:=d.below;have y0:=(F.cell (p:=⟨O,4,none⟩) gl).trans g4;have yl:=AK gl F.size;clear f z;rw[p2] at C⊢;go_simp;exact C _ () _ (Zu.refl _) (d.idle (AL _ _) 3 rfl _) rfl
    refine Zw.con (λQ g b u X z E d f K C=>?_) ?_
    ·have F:=d.below;clear f z;go_simp;exact C _ () _ (Zu.refl _) (d.idle (AL _ _) 4 rfl _) rfl
    refine Zw.con (λQ g b u X z E d f K C=>?_) ?_
    ·have p4:u 4=_:=(f 4 rfl).2;have F:=d.below;clear f z;rw[p4] at C⊢;go_simp;exact C _ () _ (Zu.refl _) (d.idle (AL _ _) 5 rfl _) rfl
    refine Zw.con (λQ g b u X z E d f K C=>?_) ?_
    ·have p5:u 5=_:=(f 5 rfl).2;have F:=d.below;have y0:=(F.cell (p:=⟨ab,ao,none⟩) sl).trans s0;have yl:=AK sl F.size;clear f z;rw[p5] at C⊢;go_simp;exact C _ () _ (Zu.refl _) (d.idle (AL _ _) 6 rfl _) rfl
    refine Zw.con (λQ g b u X z E d f K C=>?_) ?_
    ·have F:=d.below;clear f z;go_simp;exact C _ () _ (Zu.refl _) (d.idle (AL _ _) 7 rfl _) rfl
    refine Zw.con (λQ g b u X z E d f K C=>?_) ?_
    ·have p3:u 3=_:=(f 3 rfl).2;have p6:u 6=_:=(f 6 rfl).2;have p7:u 7=_:=(f 7 rfl).2;have dt:b 21=false:=z.no E AB;have B:=λD (o:Below X X D) v=>d.call o 8 dt rfl v;have F:=d.below;have CC:=CT.out X F;clear f d z;rw[p3,p6,p7] at C⊢;go_simp;go_at_call 95;(with_reducible refine CC.mono ?_);rintro e D⟨o,H,L,I,J,rfl,hv⟩;go_simp;exact C _ () _ (.of_below o) (B _ o _) ⟨H,L,I,J,rfl,hv⟩
    refine Zw.con (λQ g b u X z E d f K C=>?_) ?_
    ·have F:=d.below;clear f z;go_simp;exact C _ () _ (Zu.refl _) (d.idle (AL _ _) 9 rfl _) rfl
    refine Zw.con (λQ g b u X z E d f K C=>?_) ?_
    ·have p9:u 9=_:=(f 9 rfl).2;have F:=d.below;clear f z;rw[p9] at C⊢;go_simp;exact C _ () _ (Zu.refl _) (d.idle (AL _ _) 10 rfl _) rfl
    refine Zw.con (λQ g b u X z E d f K C=>?_) ?_
    ·have h0:u 10=_:=(f 10 rfl).2;have F:=d.below;clear f z;rw[h0] at C⊢;go_simp;exact C _ () _ (Zu.refl _) (d.idle (AL _ _) 11 rfl _) rfl
    refine Zw.con (λQ g b u X z E d f K C=>?_) ?_
    ·have h7:u 11=_:=(f 11 rfl).2;have F:=d.below;have y0:=(F.cell (p:=⟨O,4,none⟩) gl).trans g4;have yl:=AK gl F.size;clear f z;rw[h7] at C⊢;go_simp;exact C _ () _ (Zu.refl _) (d.idle (AL _ _) 12 rfl _) rfl
    refine Zw.con (λQ g b u X z E d f K C=>?_) ?_
    ·have F:=d.below;clear f z;go_simp;exact C _ () _ (Zu.refl _) (d.idle (AL _ _) 13 rfl _) rfl
    refine Zw.con (λQ g b u X z E d f K C=>?_) ?_
    ·have ja:u 13=_:=(f 13 rfl).2;have B:=λD (o:Below X X D) v=>d.idle o 14 rfl v;have F:=d.below;have hx:(1:Int)<=(l.length:Int)+1:=AA
     clear f d z;generalize u 13=kv at *;subst ja;go_simp;exact C _ () _ (Zu.refl _) (B _ (AL _ _) _) rfl
    refine Zw.con (λQ g b u X z E d f K C=>?_) ?_
    ·have F:=d.below;clear f z;go_simp;exact C _ () _ (Zu.refl _) (d.idle (AL _ _) 15 rfl _) rfl
    refine Zw.con (λQ g b u X z E d f K C=>?_) ?_
    ·have F:=d.below;clear f z;go_simp;exact C _ () _ (Zu.refl _) (d.idle (AL _ _) 16 rfl _) rfl
    refine Zw.con (λQ g b u X z E d f K C=>?_) ?_
    ·have jc:u 15=_:=(f 15 rfl).2;have jd:u 16=_:=(f 16 rfl).2;have B:=λD (o:Below X X D) v=>d.idle o 17 rfl v;have F:=d.below;have hw:IntKind.i64.wrap ((n:Int)-(j:Int))=((n-j:Nat):Int):=by rw[BS _ AA];omega
     clear f d z;generalize u 15=kx at *;subst jc;generalize u 16=ky at *;subst jd;go_simp;exact C _ () _ (Zu.refl _) (B _ (AL _ _) _) (by first | rfl | rw[hw])
    refine Zw.con (λQ g b u X z E d f K C=>?_) ?_
    ·have h8:u 12=_:=(f 12 rfl).2;have jb:u 14=_:=(f 14 rfl).2;have je:u 17=_:=(f 17 rfl).2;have du:b 22=false:=z.no E AB;have B:=λD (o:Below X X D) v=>d.call o 18 du rfl v;have F:=d.below;have CC:=CF.out X F;clear f d z;rw[h8,jb,je] at C⊢;go_simp;go_at_call 53;(with_reducible refine CC.mono ?_);rintro e D⟨o,H,L,I,J,rfl,hv⟩;go_simp;exact C _ () _ (.of_below o) (B _ o _) ⟨H,L,I,J,rfl,hv⟩
    refine Zw.con (λQ g b u X z E d f K C=>?_) ?_
    ·have dt:b 21=false:=z.no E AB;have B:=d.made (p:=(⟨19,21,8,46,#[.slice none 0 0,.bool false]⟩:Qr)) AE dt (λp f=>by simp only[BV,Ec,or_false] at f;rcases f with rfl | rfl <;> exact⟨AE,AC,AC⟩);clear f d z;go_simp;exact C _ () _ (.of_below (Zy _ _)) B trivial
    refine Zw.con (λQ g b u X z E d f K C=>?_) ?_
    ·have du:b 22=false:=z.no E AB;have B:=d.made (p:=(⟨20,22,18,46,#[.slice none 0 0,.bool false]⟩:Qr)) AE du (λp f=>by simp only[BV,Ec,or_false] at f;rcases f with rfl | rfl <;> exact⟨AE,AC,AC⟩);clear f d z;go_simp;exact C _ () _ (.of_below (Zy _ _)) B trivial
    refine Zw.con (λQ g b u X z E d f K C=>?_) ?_
    ·obtain⟨H,L,I,J,p8,hv⟩:=(f 8 rfl).2;obtain⟨gB,hg,U,B,dj⟩:=d.put2 (p:=(⟨19,21,8,46,#[.slice none 0 0,.bool false]⟩:Qr)) AE (f 19 rfl).1 E (λp f=>by simp only[BV,Ec,or_false] at f;rcases f with rfl | rfl <;> exact⟨AE,AC,AC,AE⟩) rfl nofun nofun p8
     clear f d z;generalize u 19=k1 at *;subst hg;generalize u 8=x8 at *;subst p8;have y0:=U.cell 0;have jr:=U.frozen 0;have y1:=U.cell 1;have js:=U.frozen 1;have yl:=U.lt;clear U;go_simp;exact C undef () _ dj (B undef) trivial
    refine Zw.con (λQ g b u X z E d f K C=>?_) ?_
    ·obtain⟨H,L,I,J,bw,hv⟩:=(f 18 rfl).2;obtain⟨gB,hi,U,B,dj⟩:=d.put2 (p:=(⟨20,22,18,46,#[.slice none 0 0,.bool false]⟩:Qr)) AE (f 20 rfl).1 E (λp f=>by simp only[BV,Ec,or_false] at f;rcases f with rfl | rfl <;> exact⟨AE,AC,AC,AE⟩) rfl nofun nofun bw
     clear f d z;generalize u 20=k3 at *;subst hi;generalize u 18=k0 at *;subst bw;have y0:=U.cell 0;have jr:=U.frozen 0;have y1:=U.cell 1;have js:=U.frozen 1;have yl:=U.lt;clear U;go_simp;exact C undef () _ dj (B undef) trivial
    exact Zw.nil
   intro _ b9 u X9 bo b8 f;obtain⟨g1,jn,gh,_,fu,p8⟩:=b8.fin (p:=⟨19,21,8,46,#[.slice none 0 0,.bool false]⟩) AE (bo 19 AC) (bo 21 AC);obtain⟨g2,jo,gj,_,fv,bw⟩:=b8.fin (p:=⟨20,22,18,46,#[.slice none 0 0,.bool false]⟩) AE (bo 20 AC) (bo 22 AC);obtain⟨H,L,I,J,q8,gc⟩:=f 8 AC;obtain⟨A3,dv,a4,d3,dw,gd⟩:=f 18 AC;obtain rfl:jn=#[.slice H L I,.bool J]:=by
    rw[p8] at q8;injection q8
   obtain rfl:jo=#[.slice A3 dv a4,.bool d3]:=by
    rw[bw] at dw;injection dw
   have gi:u 19=_:=gh;have gk:u 20=_:=gj;have cb:=b8.below;have d6:=LH (Zz fh.out cb);have d8:=LH (bg.out.below cb);have b3:=LH fu;have bh:=LH fv;have fe:=LH gc;have c6:=LH gd;have fa:=LH (HN.out.below cb);clear f bo b8 p8 q8 bw dw cb fu fv gc gd b9;rw[gi,gk];clear gh gj gi gk g4 gl s0 sl CT CF;generalize u 0=w0 at *;generalize u 1=w1 at *;generalize u 2=w2 at *;generalize u 3=w3 at *;generalize u 4=w4 at *;generalize u 5=w5 at *;generalize u 6=w6 at *;generalize u 7=w7 at *;generalize u 8=w8 at *;generalize u 9=w9 at *;generalize u 10=kb at *;generalize u 11=kc at *;generalize u 12=kd at *;generalize u 13=ke at *;generalize u 14=kf at *;generalize u 15=kg at *;generalize u 16=kh at *;generalize u 17=ki at *;generalize u 18=kj at *;clear u;have z0:X9.cell? ⟨g1,0,none⟩=some (.slice H L I):=b3.out.cell 0;have z1:X9.cell? ⟨g1,1,none⟩=some (.bool J):=b3.out.cell 1;have zl:=b3.out.lt;have x0:X9.cell? ⟨g2,0,none⟩=some (.slice A3 dv a4):=bh.out.cell 0;have x1:X9.cell? ⟨g2,1,none⟩=some (.bool d3):=bh.out.cell 1;have xl:=bh.out.lt;have CM:=LH (Gt H L I J x A3 dv a4 d3 y X9 fe.out c6.out);go_upto_region 6 with (first
    | (go_at_call 26
       (with_reducible refine CM.out.mono ?_);rintro e v5⟨fx,A4,n4,c4,d4,rfl,ge⟩))
   have dl:=Zy v5 (.cells #[.slice A4 n4 c4,.bool d4] 46);have fw:=Blk.new v5 46 #[.slice A4 n4 c4,.bool d4];have bb:=Zz fx dl;have d5:=LH (Zz d6.out bb);have gu:=LH (d8.out.below bb);have g0:=LH (bh.out.ext bb);have c7:=LH fw;have ff:=LH (ge.below dl);have gz:=LH (c6.out.below bb);have cz:=LH (fa.out.below bb);clear z0 z1 zl x0 x1 xl CM fx dl bb fw ge d6 d8 b3 bh fe c6 fa bg HN;generalize v5.alloc (.cells #[.slice A4 n4 c4,.bool d4] 46)=W6 at *;generalize v5.heap.size=g3 at *;have z0:W6.cell? ⟨g3,0,none⟩=some (.slice A4 n4 c4):=c7.out.cell 0;have z1:W6.cell? ⟨g3,1,none⟩=some (.bool d4):=c7.out.cell 1;have zl:=c7.out.lt;have dr:N<big:=by
    have h1:=b4.out;have R:=dc.out;have S:=da.out (k+1) (AJ _);have h4:=bj.out k;have h5:=c8.out;have h6:q*Zx (Zv G) l (n-k)+r2<Zv G s k*Zx (Zv G) l (n-k):=by
     have:=Lc (a:=0) (q:=q) (T:=Zv G s k) (by have:=fj.out;omega) fk.out;rwa [BH] at this
    omega
   have dd:=LH dr;have f3:j=k->N=q*y+r2/\r2<y/\q<x:=by
    intro e;subst e;have h1:=b4.out;have R:=dc.out;have S:=fk.out;have h4:=fj.out;rw[Hy.out] at R S;rw[Hx.out] at h4;exact⟨AA,S,h4⟩
   have fz:j<k->x*y<=N:=by
    intro bq;have h1:=g7.out (j+1) AA;have R:=b4.out;have S:=dc.out;have h4:=bj.out j;rw[Hx.out,Hy.out] at h4;omega
   have fi:=LH f3;have g8:=LH fz;have CH:=LH (rf_here Av cv N A4 n4 c4 d4 (x*y) W6 cz.out dr ff.out);clear dr f3 fz;by_cases bq:N<x*y
   case neg =>
    rw[Ej bq] at CH;have j0:j<k:=by
     rcases BC j k with h | h
     ·exact h
     obtain⟨h1,R,S⟩:=fi.out AA;have:=Lc (a:=0) (q:=q) (T:=x) AA R;rw[BH] at this;omega
    have hc:Hid (r=Yv (Zv G) s l n (j+1)+(N-x*y)):=LH (by
     have h1:=bj.out j;rw[Hx.out,Hy.out] at h1;have R:=b4.out;omega)
    have be:x*y<big:=by have:=dd.out;omega
    obtain⟨dm,Z⟩:=ff.out;rw[Z7 be] at dm Z;have bs:=Z.len;simp only[] at dm Z bs;subst bs;have CL:Hid (∀X,Below W6 W6 X->Calls prog 133 #[.slice Av (limbs N).length cv,.slice A4 (limbs (x*y)).length c4] X λe w'=>∃A c,e = .returned (.slice A (limbs (N-x*y)).length c)/\Zq .u32 w' A (limbs (N-x*y)).length c (limbs (N-x*y))/\Below X X w'):=LH λX o=>rf_less Av cv N A4 c4 (x*y) X (cz.out.below o) (Z.below o) dd.out AA;clear bq Z be dm;generalize x*y=xy at *;go_wp2_with (first
     | (go_at_call 131
        (with_reducible refine CH.out.mono ?_);rintro e v1⟨rfl,Y⟩;have lb:=(Y.cell (p:=⟨g3,0,none⟩) zl).trans z0;have lc:=AK zl Y.size;have gr:=LH (CL.out v1 Y);have cx:=LH (Zz d5.out Y);clear Y)
     | (go_at_call 133
        (with_reducible refine gr.out.mono ?_);rintro e v2⟨A5,c5,rfl,f0,ba⟩;have gv:=LH f0;have bf:=LH (Zz cx.out ba);clear f0 ba))
    go_roundw
    case rel=>exact⟨j+1,N-xy,A5,c5,AF,AA,rfl,hc,gv,bf⟩
    simp[intOf] <;> omega
   rw[Eg bq] at CH;obtain rfl:j=k:=by
    rcases BC j k with h | h
    ·have:=g8.out h;omega
    omega
   obtain⟨ga,f8,j7⟩:=fi.out rfl;have be:y<big:=by
    have h1:=da.out (j+1) (AJ _);have R:=bj.out j;rw[Hx.out,Hy.out] at R;have S:=c8.out;have h4:y<=x*y:=Nat.le_mul_of_pos_left y AA;omega
   obtain⟨dn,Z⟩:=gz.out;rw[Z7 be] at dn Z;have bs:=Z.len;simp only[] at dn Z bs;subst bs;subst dn;have fn:=LH be;have dp:N / y=q/\N % y=r2:=by
    subst ga;refine⟨?_,?_⟩
    ·rw[Eo,Nat.add_mul_div_right _ _ AA,Nat.div_eq_of_lt f8,BH]
    rw[Eo,Nat.add_mul_mod_self_right,Eh f8]
   have CQ:Hid (∀X,Below W6 W6 X->Calls prog 183 #[.slice Av (limbs N).length cv,.slice A3 (limbs y).length a4] X λe w'=>∃Aq cq Aw cw,e = .returned (.tuple #[.slice Aq (limbs q).length cq,.slice Aw (limbs r2).length cw,.int .i64 0])/\Zq .u32 w' Aq (limbs q).length cq (limbs q)/\Zq .u32 w' Aw (limbs r2).length cw (limbs r2)/\Below X X w'):=LH λX o=>by
    have h1:=ref_quo Av _ cv (limbs N) A3 _ a4 (limbs y) X (cz.out.below o) (Z.below o) (Z9 _) (Z9 _);rw[Zv2 dd.out fn.out AA,dp.1,dp.2] at h1;unfold RetQuo at h1;exact h1
   clear bq ga dp be Z;go_upto_region 9 with (first
    | (go_at_call 131
       (with_reducible refine CH.out.mono ?_);rintro e v1⟨rfl,Y⟩;have gt:=LH (gu.out.below Y);have dk:=g0.out.ext Y;have x0:v1.cell? ⟨g2,0,none⟩=some (.slice A3 (limbs y).length a4):=dk.cell 0;have xl:=dk.lt;have cx:=LH (Zz d5.out Y);have gs:=LH (CQ.out v1 Y);clear Y dk)
    | (go_at_call 183
       (with_reducible refine gs.out.mono ?_);rintro e v2⟨Aq,cq,Aw,cw,rfl,f1,f2,ba⟩;have b2:=LH (gt.out.below ba);have gw:=LH f1;have fb:=LH f2;have bf:=LH (Zz cx.out ba);clear f1 f2 ba))
   clear x0 xl z0 z1 zl CH CQ;have s0:=(b2.out.base.cell (p:=⟨ab,ao,none⟩) ca).trans ds;have sl:=AK ca b2.out.base.size;have hw:IntKind.i64.wrap ((n:Int)-(j:Int))=((n-j:Nat):Int):=by rw[BS _ AA];omega
   have hx:(1:Int)<=(l.length:Int)+1:=AA
   have fy:Zx (Zv G) l (n-j)<big:=by rw[Hy.out];exact fn.out
   have fg:=LH fy;clear fy;by_cases bd:s<0
   case neg =>
    obtain⟨rfl,rfl,ht⟩:=ha.out AA;clear ht;have CF:=LH (IH.out cs (n-j) r2 t2 A2 (W-1) Aw cw v2 (by have:=de.out;rwa [DD] at this) fd.out c9.out.tail fg.out AA AA (λs hs=>Hh.out s (.tail _ hs)) cu.out fb.out ⟨_,_,b2.out⟩);go_wp2_with (first
     | (go_at_call 132
        (with_reducible refine CF.out.mono ?_);rintro e W7⟨rfl,aj,bt⟩;have db:=LH bt;clear bt))
    refine AW (results_none rfl _ _ _) rfl ?_;exact⟨rfl,(Zu.of_below bf.out).trans aj,by rw[DD];exact db.out⟩
   have ka:IntKind.i64.wrap (-1-s)=((Zp s:Nat):Int):=by
    rw[BS _ (by have:=fm.out;omega)];unfold Zp;omega
   have CT:=gx.out O cs s j q t1 Aq cq v2 (by have:=de.out;rw[AU] at this;omega) bd (c9.out s (AX ..) bd) (g9.out bd) (by
    have h1:=da.out (j+1) (AJ _);have R:=bj.out j;have S:=c8.out;have h4:Zv G s j<=Zv G s j*Zx (Zv G) l (n-j):=Nat.le_mul_of_pos_right _ gy.out;omega) AA gw.out ⟨_,_,b2.out⟩
   by_cases jy:cs.length+t1.length<=300
   case pos =>
    have cp:Hid (Calls prog 81 #[.pointer (some ⟨O,0,none⟩),.int .i64 (Zp s:Int),.int .i64 (j:Int),.slice Aq (limbs q).length cq] v2 λe w'=>e = .returned (.tuple #[])/\Zu v2 w'/\WkAt W0 ⟨a1,n1,c1,a2,n2,c2,a3,n3,c3⟩ G At V P O (cs++t1) false w'):=LH (CT.mono λe w' hr=>by
     obtain⟨h1,R,⟨_,S⟩ | ⟨S,_⟩⟩:=hr
     ·exact⟨h1,R,S⟩
     omega)
    clear CT;go_wp2_with (first
     | (go_at_call 81
        (with_reducible refine cp.out.mono ?_);rintro e W7⟨rfl,aj,br⟩;have cy:=LH ((Zu.of_below bf.out).trans aj);have CF:=LH (IH.out (cs++t1) (n-j) r2 t2 A2 (W-1) Aw cw W7 (by have:=de.out;rw[AU] at this;omega) fd.out c9.out.tail fg.out AA AA (λs hs=>Hh.out s (.tail _ hs)) cu.out (fb.out.nkept aj) br);clear aj br)
     | (go_at_call 132
        (with_reducible refine CF.out.mono ?_);rintro e W8⟨rfl,hu,bt⟩;have db:=LH bt;clear bt))
    refine AW (results_none rfl _ _ _) rfl ?_;refine⟨rfl,cy.out.trans hu,?_⟩;have h9:=db.out;rw[AU,DO] at h9;rw[AU,<-Ea];exact h9
   have cp:Hid (Calls prog 81 #[.pointer (some ⟨O,0,none⟩),.int .i64 (Zp s:Int),.int .i64 (j:Int),.slice Aq (limbs q).length cq] v2 λe w'=>e = .returned (.tuple #[])/\Zu v2 w'/\∃df,WkAt W0 ⟨a1,n1,c1,a2,n2,c2,a3,n3,c3⟩ G At V P O df true w'):=LH (CT.mono λe w' hr=>by
    obtain⟨h1,R,⟨S,_⟩ | ⟨_,S⟩⟩:=hr
    ·omega
    exact⟨h1,R,S⟩)
   clear CT;go_wp2_with (first
    | (go_at_call 81
       (with_reducible refine cp.out.mono ?_);rintro e W7⟨rfl,aj,df,br⟩;have cy:=LH ((Zu.of_below bf.out).trans aj);have d7:=LH br;clear aj br)
    | (go_at_call 132
       (with_reducible refine (rf_wfull A2 l.length (W-1) ((n-j:Nat):Int) Aw _ cw W7 d7.out).mono ?_);rintro e W8⟨rfl,rfl⟩))
   refine AW (results_none rfl _ _ _) rfl ?_;exact⟨rfl,cy.out,.inr ⟨by rw[AU];omega,df,d7.out⟩⟩
