/- A region that draws its order and lays boxes of its own, each stored to once: what holds of its worlds, whatever the order. -/
import Derived.Test.YtggbjdmpjidhgaaGreatDoorV40
import Derived.Test.YtggbjdmpjidhgaaGreatDoorV44
set_option linter.all false
set_option maxHeartbeats 1500000
set_option maxRecDepth 100000
namespace Go.Proofs.YtggbjdmpjidhgaaGreatDoor
open Go.RowKit Go.Proofs.Tryz
variable{d:Option Addr}
def WkAt(a:World)(h:GH)(G:Gr)(At:Option Addr)(f b:Nat)(g:Nat)(cs:List Nat)(d:Bool)(W:World):Prop:=∃A c,Bp a h G At f b g cs d A c W
theorem small_big(n:Nat)(h:n<18446744073709551616):n<big:=by
 have:18446744073709551616<big:=by rw[Zwf];decide +kernel
 omega
def RSubRel(w:World)(xs b:List Nat)(o c i:Value)(wr:World):Prop :=
 ∃(k:Nat) (A:Option Addr) (a:Nat),k<=32/\i = .int .i64 (k:Int)/\c = .int .u64 ((Xn xs b k).2:Int)/\o = .slice A k a /\
  wr.ownsRow w.heap.size 49 1 (.slice A k a) k (nums .u32 (Xn xs b k).1)/\Below w.heap.size w wr
theorem ref_sub(l:Option Addr)(n c1:Nat)(xs:List Nat)(o:Option Addr)(m c2:Nat)(P:List Nat)(w:World)(h1:Zq .u32 w l n c1 xs)(c:Zq .u32 w o m c2 P)(f:Lim xs)(h:Lim P):
 Calls prog 184 #[.slice l n c1,.slice o m c2] w (Xr w (Mw xs P)):=by
 by_cases b:Zm xs=true
 case neg =>
  have aa:Zm xs=false:=by simpa using b
  have a:Mw xs P=([],1):=by simp[Mw,aa]
  rw[a];clear a b;go_enter func184,ntmps184;go_wp2_with (first
   | (go_at_call 78;(with_reducible refine (Z4 _ _ _ _ _ h1).mono ?_);rintro e w'⟨rfl,rfl⟩)
   | (go_at_call 78;(with_reducible refine (Z4 _ _ _ _ _ c).mono ?_);rintro e w'⟨rfl,rfl⟩))
  go_ret2;exact⟨none,0,rfl,Zq.nil _ _ _ _ AE,AK _ _⟩
 by_cases d:Zm P=true
 case neg =>
  have ab:Zm P=false:=by simpa using d
  have a:Mw xs P=([],1):=by simp[Mw,ab]
  rw[a];clear a d;go_enter func184,ntmps184;go_wp2_with (first
   | (go_at_call 78;(with_reducible refine (Z4 _ _ _ _ _ h1).mono ?_);rintro e w'⟨rfl,rfl⟩)
   | (go_at_call 78;(with_reducible refine (Z4 _ _ _ _ _ c).mono ?_);rintro e w'⟨rfl,rfl⟩))
  go_ret2;exact⟨none,0,rfl,Zq.nil _ _ _ _ AE,AK _ _⟩
 have W:=Ut xs b;have V:=Ut P d;by_cases U:val P<=val xs
 case neg =>
  have S:decide (Vq xs P<0)=true:=by
   simp only[Vq,b,d,Bool.and_self,if_true,Vm];rw[if_pos AA];simp
  have a:Mw xs P=([],11):=by simp[Mw,b,d];omega
  rw[a];clear a;go_enter func184,ntmps184;go_wp2_with (first
   | (go_at_call 78;(with_reducible refine (Z4 _ _ _ _ _ h1).mono ?_);rintro e w'⟨rfl,rfl⟩)
   | (go_at_call 78;(with_reducible refine (Z4 _ _ _ _ _ c).mono ?_);rintro e w'⟨rfl,rfl⟩)
   | (go_at_call 36;(with_reducible refine (Le _ _ _ _ _ _ _ _ _ h1 c f h).mono ?_);rintro e w1⟨rfl,j⟩))
  go_ret2;exact⟨none,0,rfl,Zq.nil _ _ _ _ AE,j.below _⟩
 have S:decide (Vq xs P<0)=false:=by
  simp only[Vq,b,d,Bool.and_self,if_true,Vm];rw[if_neg AA];split <;> simp
 have a:Mw xs P=(limbs (val xs-val P),0):=by simp[Mw,b,d];omega
 rw[a];clear a;go_enter func184,ntmps184;go_wp2_with (first
  | (go_at_call 78;(with_reducible refine (Z4 _ _ _ _ _ h1).mono ?_);rintro e w'⟨rfl,rfl⟩)
  | (go_at_call 78;(with_reducible refine (Z4 _ _ _ _ _ c).mono ?_);rintro e w'⟨rfl,rfl⟩)
  | (go_at_call 36;(with_reducible refine (Le _ _ _ _ _ _ _ _ _ h1 c f h).mono ?_);rintro e w1⟨rfl,j⟩))
 go_loopw [6,7,8] (RSubRel w xs P) (λ_ _ i _=>(32-intOf i).toNat)
 case atStart=>exact⟨0,none,0,AU _,rfl,rfl,rfl,BJ _ _ _ _,j.below _⟩
 clear j;obtain⟨k,A,M,hk,rfl,rfl,rfl,s,g⟩:=hrel;have ad:=Qi xs P k;have R:=g.size;by_cases af:k<32
 ·have Y:=f.getD k;have Z:=h.getD k;obtain⟨x,Hx⟩:∃x,Hid (xs.getD k 0=x):=⟨_,LH rfl⟩;obtain⟨y,p⟩:∃y,Hid (P.getD k 0=y):=⟨_,LH rfl⟩;have q:=Ww l n c1 xs k wr (h1.below g) f;have r:=Ww o m c2 P k wr (c.below g) h;rw[Hx.out] at q Y;rw[p.out] at r Z;have F:=LH q;have G:=LH r;have u:Hid (4294967296+(x:Int)-(y:Int)-((Xn xs P k).2:Int)=((4294967296+x-y-(Xn xs P k).2:Nat):Int)):=LH AA;clear q r;go_wp2_with (first
   | (go_at_call 79;(with_reducible refine F.out.mono ?_);rintro e w'⟨rfl,rfl⟩)
   | (go_at_call 79;(with_reducible refine G.out.mono ?_);rintro e w'⟨rfl,rfl⟩)
   | (at_builtin;refine Vc (w:=wr) rfl _ _ 31 rfl w.heap.size 49 (.int .u32 0) 4 underlying31 Tryz.info34 rfl _ k _ _ rfl s (.int .u32 ((4294967296+(x:Int)-(y:Int)-((Xn xs P k).2:Int)) % 4294967296)) rfl rfl AA AA AA ?_;intro D L w2 z T))
  go_roundw
  case rel =>
   refine⟨k+1,D,L,AA,AF,?_,rfl,?_,X6 g T s R⟩
   ·simp only[Xn,Hx.out,p.out];rw[u.out];go_num
   rw[u.out] at z;simp only[Xn,Hx.out,p.out,Mi];simpa using z
  simp[intOf];omega
 obtain rfl:k=32:=AA
 have B:=Zyj xs P f h 32 W V U;have v:Xm (val xs-val P)=(limbs (val xs-val P),0):=Km (by have:=(Ul xs f b).2;omega);have I:=LH B;have E:=LH v;clear B v;have X:Zq .u32 wr A 32 M (Xn xs P 32).1:=Yl s;have t:=As _ _ _ _ _ X (Gv xs P 32);rw[I.out,E.out] at t;have H:=LH t;clear t;go_wp2_with (go_at_call 112;(with_reducible refine H.out.mono ?_);rintro e w'⟨C,J,rfl,O,N⟩);go_ret2;exact⟨C,J,rfl,O,Zz g N⟩
theorem Aa(c:Option Addr)(c1 a:Nat)(d:Option Addr)(c2 b:Nat)(w:World)(h1:Zq .u32 w c (limbs a).length c1 (limbs a))(f:Zq .u32 w d (limbs b).length c2 (limbs b))(g:a<big)(h:b<big):
 Calls prog 59 #[.slice c (limbs a).length c1,.slice d (limbs b).length c2] w (Xr w (Xm (a+b))):=by
 rw[<-Nz a b g h];exact Zu0 c _ c1 _ d _ c2 _ w h1 f (Z9 _) (Z9 _)
theorem Zvr(c:Option Addr)(n c1:Nat)(xs:List Nat)(d:Option Addr)(m c2:Nat)(M:List Nat)(w:World)(h1:Zq .u32 w c n c1 xs)(E:Zq .u32 w d m c2 M)(A:Lim xs)(B:Lim M)(G:xs.length<=33)(F:M.length<=33):
 Calls prog 214 #[.slice c n c1,.slice d m c2] w λe w'=>e = .returned (.bool (decide (Vm (val xs) (val M)=-1)))/\w=w':=by
 go_enter func214,ntmps214;go_wp2;go_loop [5] (λi=>∃k:Nat,k<=33/\i = .int .i64 ((k:Int)-1)/\Vm (val xs) (val M)=Vm (val (xs.take k)) (val (M.take k))) (λi=>(intOf i+1).toNat)
 case atStart=>exact⟨33,AI _,rfl,by rw[AQ G,AQ F]⟩
 obtain⟨k,J,rfl,hrel⟩:=hrel;have r:=LH hrel;clear hrel;by_cases L:0<k
 ·have b:=Zzx xs M A B (k-1);rw[show k-1+1=k from by omega,<-r.out] at b;have s:=LH b;clear b;have u:((k:Int)-1)=((k-1:Nat):Int):=AA
  rw[u];generalize v:k-1=j at *;have D:=LH v;have I:j<33:=AA
  clear v u;obtain⟨x,Hx⟩:∃x,Hid (xs.getD j 0=x):=⟨_,LH rfl⟩;obtain⟨y,t⟩:∃y,Hid (M.getD j 0=y):=⟨_,LH rfl⟩;have o:=Ww c n c1 xs j w h1 A;have p:=Ww d m c2 M j w E B;rw[Hx.out] at o;rw[t.out] at p;have b:=s.out;rw[Hx.out,t.out] at b;have g:=LH o;have h:=LH p;have l:=LH b;clear o p b s;by_cases q:x<y
  ·have H:((x:Int)==(y:Int))=false:=by rw[AP];omega
   have a:decide (Vm (val xs) (val M)=-1)=true:=by rw[l.out,if_pos q];rfl
   have f:=LH a;clear a;go_wp2_with (first
    | (go_at_call 79;(with_reducible refine g.out.mono ?_);rintro e w'⟨rfl,rfl⟩)
    | (go_at_call 79;(with_reducible refine h.out.mono ?_);rintro e w'⟨rfl,rfl⟩))
   go_ret;rw[f.out];exact⟨AE,rfl⟩
  by_cases z:y<x
  ·have H:((x:Int)==(y:Int))=false:=by rw[AP];omega
   have a:decide (Vm (val xs) (val M)=-1)=false:=by rw[l.out,if_neg q,if_pos z];rfl
   have f:=LH a;clear a;go_wp2_with (first
    | (go_at_call 79;(with_reducible refine g.out.mono ?_);rintro e w'⟨rfl,rfl⟩)
    | (go_at_call 79;(with_reducible refine h.out.mono ?_);rintro e w'⟨rfl,rfl⟩))
   go_ret;rw[f.out];exact⟨AE,rfl⟩
  obtain rfl:x=y:=AA
  go_wp2_with (first
   | (go_at_call 79;(with_reducible refine g.out.mono ?_);rintro e w'⟨rfl,rfl⟩)
   | (go_at_call 79;(with_reducible refine h.out.mono ?_);rintro e w'⟨rfl,rfl⟩))
  go_round
  case rel=>exact⟨j,by have:=D.out;omega,rfl,by rw[l.out,if_neg q,if_neg z]⟩
  simp[intOf] <;> omega
 obtain rfl:k=0:=AA
 have a:decide (Vm (val xs) (val M)=-1)=false:=by rw[r.out];simp[Vm,val]
 have C:=LH a;clear a;go_wp2;go_ret;rw[C.out];exact⟨rfl,rfl⟩
def RLessRel(w:World)(xs b:List Nat)(o c i:Value)(wr:World):Prop :=
 ∃(k:Nat) (A:Option Addr) (a:Nat),k<=33/\i = .int .i64 (k:Int)/\c = .int .u64 ((Xn xs b k).2:Int)/\o = .slice A k a /\
  wr.ownsRow w.heap.size 49 1 (.slice A k a) k (nums .u32 (Xn xs b k).1)/\Below w.heap.size w wr
theorem ref_less(b:Option Addr)(n c1:Nat)(xs:List Nat)(c:Option Addr)(m c2:Nat)(P:List Nat)(w:World)(h1:Zq .u32 w b n c1 xs)(C:Zq .u32 w c m c2 P)(j:Lim xs)(l:Lim P)(H:xs.length<=33)(G:P.length<=33)(F:val P<=val xs):
 Calls prog 215 #[.slice b n c1,.slice c m c2] w (Bq w (limbs (val xs-val P))):=by
 go_enter func215,ntmps215;go_wp2;go_loopw [5,6,7] (RLessRel w xs P) (λ_ _ i _=>(33-intOf i).toNat)
 case atStart=>exact⟨0,none,0,AU _,rfl,rfl,rfl,BJ _ _ _ _,AK _ _⟩
 obtain⟨k,A,B,N,rfl,rfl,rfl,h,a⟩:=hrel;have M:=Qi xs P k;have D:=a.size;by_cases O:k<33
 ·have J:=j.getD k;have L:=l.getD k;obtain⟨x,Hx⟩:∃x,Hid (xs.getD k 0=x):=⟨_,LH rfl⟩;obtain⟨y,d⟩:∃y,Hid (P.getD k 0=y):=⟨_,LH rfl⟩;have f:=Ww b n c1 xs k wr (h1.below a) j;have g:=Ww c m c2 P k wr (C.below a) l;rw[Hx.out] at f J;rw[d.out] at g L;have u:=LH f;have v:=LH g;have p:Hid (4294967296+(x:Int)-(y:Int)-((Xn xs P k).2:Int)=((4294967296+x-y-(Xn xs P k).2:Nat):Int)):=LH AA;clear f g;go_wp2_with (first
   | (go_at_call 79;(with_reducible refine u.out.mono ?_);rintro e w'⟨rfl,rfl⟩)
   | (go_at_call 79;(with_reducible refine v.out.mono ?_);rintro e w'⟨rfl,rfl⟩)
   | (at_builtin;refine Vc (w:=wr) rfl _ _ 31 rfl w.heap.size 49 (.int .u32 0) 4 underlying31 Tryz.info34 rfl _ k _ _ rfl h (.int .u32 ((4294967296+(x:Int)-(y:Int)-((Xn xs P k).2:Int)) % 4294967296)) rfl rfl AA AA AA ?_;intro t z R r E))
  go_roundw
  case rel =>
   refine⟨k+1,t,z,AA,AF,?_,rfl,?_,X6 a E h D⟩
   ·simp only[Xn,Hx.out,d.out];rw[p.out];go_num
   rw[p.out] at r;simp only[Xn,Hx.out,d.out,Mi];simpa using r
  simp[intOf];omega
 obtain rfl:k=33:=AA
 have s:=Zyj xs P j l 33 H G F;have I:Zq .u32 wr A 33 B (Xn xs P 33).1:=Yl h;have o:=LH (Vg _ (Gv xs P 33));rw[s] at o;clear s;go_wp2_with (go_at_call 80;(with_reducible refine (G6 _ _ _ _ _ I).mono ?_);rintro e w'⟨rfl,q,rfl⟩);go_ret;rw[o.out] at q ⊢;exact⟨_,_,rfl,q,a⟩
theorem limbs_one:limbs 1=[1]:=by
 have:=Mf [1] (Lim.mk AC Lim.nil) (X8 [1] AC);simpa [val] using this
theorem one_nums(w:World):Zq .u32 (w.alloc (.cells #[.int .u32 1] 49)) (some ⟨w,0,none⟩) 1 1 [1] :=
 (Own.new w 49 .u32 [1]).nums (n:=1) (c:=1) rfl (AI _) AA
def RQuoRel(w:World)(xs:List Nat)(b:Nat)(q r i:Value)(wr:World):Prop :=
 ∃(k:Nat) (A:Option Addr) (c:Nat) (f:Option Addr) (g:Nat) (a d:List Nat),i = .int .i64 ((k:Int)-1)/\k<=32*xs.length /\
  q = .slice A a.length c/\Zq .u32 wr A a.length c a/\r = .slice f d.length g/\Zq .u32 wr f d.length g d /\
  Below w.heap.size w wr/\Hid (a=limbs (val xs / 2 ^ k / b))/\Hid (d=limbs (val xs / 2 ^ k % b))
def RDblRel(w:World)(a b:List Nat)(bt:Nat)(c q:Value)(wr:World):Prop :=
 ∃j:Nat,j<=33/\q = .int .i64 (j:Int)/\c = .int .u64 ((twP a bt j).2:Int)/\Own wr w.heap.size 49 .u32 ((twP a bt j).1++b.drop j)/\Below w.heap.size w wr
theorem dbl_done(a:List Nat)(b:Lim a)(bt:Nat)(f:bt<=1)(j:a.length<=32)(q:Nat)(k:q=33):val (twP a bt q).1=2*val a+bt:=by
 subst k;have h:=twP_val a bt 33;rw[AQ AA] at h;have h1:=Ui a b;have l:(4294967296:Nat) ^ a.length<=4294967296 ^ 32:=DD AC j;have d:(4294967296:Nat) ^ 33=4294967296 ^ 32*4294967296:=by rw[Nat.pow_succ]
 have m:=Ae a bt f b 33;rw[d] at h;generalize (4294967296:Nat) ^ 32=B at *;generalize (twP a bt 33).2=c at *;have g:c=0\/c=1:=AA
 rcases g with rfl | rfl <;> omega
theorem ref_quo(A1:Option Addr)(n c1:Nat)(xs:List Nat)(A2:Option Addr)(m c2:Nat)(ys:List Nat)(w:World)(h1:Zq .u32 w A1 n c1 xs)(o:Zq .u32 w A2 m c2 ys)(lx:Lim xs)(ly:Lim ys):
 Calls prog 183 #[.slice A1 n c1,.slice A2 m c2] w (RetQuo w (M2 xs ys)):=by
 obtain rfl:=h1.len;obtain rfl:=o.len;by_cases N:Zm xs=true
 case neg =>
  have cz:Zm xs=false:=by simpa using N
  have l:M2 xs ys=([],[],1):=by simp[M2,cz]
  rw[l];clear l N;go_enter func183,ntmps183;go_wp2_with (first
   | (go_at_call 78;(with_reducible refine (Z4 _ _ _ _ _ h1).mono ?_);rintro e w'⟨rfl,rfl⟩)
   | (go_at_call 78;(with_reducible refine (Z4 _ _ _ _ _ o).mono ?_);rintro e w'⟨rfl,rfl⟩))
  go_ret3
  unfold RetQuo;exact⟨none,0,none,0,rfl,Zq.nil _ _ _ _ AE,Zq.nil _ _ _ _ AE,AK _ _⟩
 by_cases O:Zm ys=true
 case neg =>
  have c0:Zm ys=false:=by simpa using O
  have l:M2 xs ys=([],[],1):=by simp[M2,c0]
  rw[l];clear l O;go_enter func183,ntmps183;go_wp2_with (first
   | (go_at_call 78;(with_reducible refine (Z4 _ _ _ _ _ h1).mono ?_);rintro e w'⟨rfl,rfl⟩)
   | (go_at_call 78;(with_reducible refine (Z4 _ _ _ _ _ o).mono ?_);rintro e w'⟨rfl,rfl⟩))
  go_ret3
  unfold RetQuo;exact⟨none,0,none,0,rfl,Zq.nil _ _ _ _ AE,Zq.nil _ _ _ _ AE,AK _ _⟩
 by_cases D:ys.length=0
 ·have l:M2 xs ys=([],[],1):=by simp[M2,D]
  rw[l];clear l;have cv:((ys.length:Int)==0)=true:=by simp[D]
  clear D;go_enter func183,ntmps183;go_wp2_with (first
   | (go_at_call 78;(with_reducible refine (Z4 _ _ _ _ _ h1).mono ?_);rintro e w'⟨rfl,rfl⟩)
   | (go_at_call 78;(with_reducible refine (Z4 _ _ _ _ _ o).mono ?_);rintro e w'⟨rfl,rfl⟩))
  go_ret3
  unfold RetQuo;exact⟨none,0,none,0,rfl,Zq.nil _ _ _ _ AE,Zq.nil _ _ _ _ AE,AK _ _⟩
 have cv:((ys.length:Int)==0)=false:=by rw[AP];omega
 have de:xs.length<=32:=Ut xs N;have cm:ys.length<=32:=Ut ys O;have ty:=X8 ys O;have a3:0<val ys:=by
  rcases DM (val ys) with h | h
  ·have:=Mf ys ly ty;rw[h,Va] at this;rw[<-this] at D;simp at D
  exact h
 have bv:=Wm (P:=prog) 31 49 .u32 4 underlying31 Tryz.info34 33 AA AA;have bw:∀w:World,(Instr.makeSlice 31 (.int .i64 33) (.int .i64 33)).run prog w = .ok (.slice (some ⟨w.heap.size,0,none⟩) 33 33) (w.alloc (.cells (nums .u32 (List.replicate 33 0)).toArray 49)):=bv;clear bv;obtain⟨E,be⟩:∃E,Hid (List.replicate 33 0=E):=⟨_,LH rfl⟩;rw[be.out] at bw;have ap:Hid (E.length=33):=LH (by rw[<-be.out];simp);have l:M2 xs ys=(limbs (val xs / val ys),limbs (val xs % val ys),0):=by simp[M2,N,O,D]
 have bc:=LH (Ul xs lx N).2;have a2:val ys<4294967296 ^ 32:=AJ (Ui ys ly) (DD AC cm);have bd:=LH a2;rw[l];clear l a2;go_enter func183,ntmps183;go_wp2_with (first
  | (go_at_call 78;(with_reducible refine (Z4 _ _ _ _ _ h1).mono ?_);rintro e w'⟨rfl,rfl⟩)
  | (go_at_call 78;(with_reducible refine (Z4 _ _ _ _ _ o).mono ?_);rintro e w'⟨rfl,rfl⟩))
 go_loopw [7,8,9] (RQuoRel w xs (val ys)) (λ_ _ i _=>(intOf i+1).toNat)
 case atStart =>
  have hz:val xs / 2 ^ (32*xs.length)=0:=Nat.div_eq_of_lt (by
   have:=Ui xs lx;rwa [show (4294967296:Nat)=2 ^ 32 from rfl,<-Nat.pow_mul] at this)
  have F:[]=limbs (val xs / 2 ^ (32*xs.length) / val ys):=by rw[hz,Nat.zero_div,Va]
  have e3:[]=limbs (val xs / 2 ^ (32*xs.length) % val ys):=by rw[hz,Nat.zero_mod,Va]
  exact⟨32*xs.length,none,0,none,0,[],[],AF,AI _,rfl,Zq.nil _ _ _ _ AE,rfl,Zq.nil _ _ _ _ AE,AK _ _,LH F,LH e3⟩
 obtain⟨k,A,c,f,g,qs,b,rfl,hk,rfl,ax,rfl,ay,X,al,W⟩:=hrel;by_cases ck:0<k
 ·obtain⟨i,rfl⟩:∃i,k=i+1:=⟨k-1,AA⟩;clear ck;have bp:((i+1:Nat):Int)-1=(i:Int):=AA
  rw[bp];clear bp;have br:i / 32<xs.length:=AA
  have S:=LH (bit_of xs lx i);have ba:=LH (Zsy (val xs) (val ys) i a3);obtain⟨j,r,bq,s⟩:∃j r,i=32*j+r/\r<32:=⟨i / 32,i % 32,AA,AA⟩;have hj:i / 32=j:=AA
  have bz:i % 32=r:=AA
  rw[hj] at br S;rw[bz] at S;have cj:(i:Int) / 32=(j:Int):=AA
  have cs:(i:Int) % 32=(r:Int):=AA
  have c3:=LH bq;clear bq hj bz;obtain⟨b1,o1,u,rfl,c9,Hu,J⟩:=(h1.below X).get (j:=j) br;have cu:=lx.of_get Hu.out;have co:(2:Int) ^ r=((2 ^ r:Nat):Int):=AE
  have cx:(u:Int) / ((2 ^ r:Nat):Int)=((u / 2 ^ r:Nat):Int):=AE
  have bo:=Yn (d:=0) Hu.out;have bl:u / 2 ^ r % 2=val xs / 2 ^ i % 2:=by have:=S.out;rwa [bo] at this
  have dg:u / 2 ^ r<4294967296:=Ev (Nat.div_le_self _ _) cu;have bk:((u / 2 ^ r:Nat):Int) % 2=((u / 2 ^ r % 2:Nat):Int):=AA
  have bm:u / 2 ^ r % 2<=1:=AA
  generalize u / 2 ^ r=z at *;generalize ch:z % 2=bt at *;have b6:=LH bl;clear ch bl bo S;generalize cp:(2:Nat) ^ r=pw at *;clear cp;have a1:val b=val xs / 2 ^ (i+1) % val ys:=by rw[W.out,Yd]
  have lr:Lim b:=by rw[W.out];exact Z9 _
  have ct:b.length<=32:=by
   rw[W.out,Vt];exact Nat.lt_trans (Nat.mod_lt _ a3) bd.out
  have ab:=ba.out;have b2:(limbs (2*val b+bt)).length<=33:=by
   have a2:=bd.out;rw[Vt,Nat.pow_succ];have:val b<val ys:=by rw[a1];exact Nat.mod_lt _ a3
   generalize (4294967296:Nat) ^ 32=B at *;omega
  have cc:=LH a1;simp only[] at ab;rw[<-b6.out,<-cc.out] at ab;have V:=LH ab;clear ab ba a1;obtain⟨wo,rfl⟩:∃wo:World,wo=wr:=⟨_,rfl⟩;go_wp2;go_loopw [12,13] (RDblRel wo b E bt) (λ_ q _=>(33-intOf q).toNat)
  case atStart=>exact⟨0,AU _,rfl,congrArg _ bk,by simpa [twP] using Own.new wo 49 .u32 E,(AK _ _).alloc (AI _) _⟩
  clear J bw co cx bk cj cs;obtain⟨q,hq,rfl,rfl,C,Y⟩:=hrel;have ci:=Ae b bt bm lr q;have U:=LH (Zye b bt q);by_cases cl:q<33
  ·have cw:=lr.getD q;obtain⟨y,Hy⟩:∃y,Hid (b.getD q 0=y):=⟨_,LH rfl⟩;have hl:=Ww f b.length g b q wr (ay.below Y) lr;rw[Hy.out] at hl cw;have Hl:=LH hl;obtain⟨v,Hv,db⟩:=C.cell (i:=q) (by rw[AS,U.out,DC,ap.out];omega);have dc:=C.frozen q;clear hl;go_wp2_with (go_at_call 79;(with_reducible refine Hl.out.mono ?_);rintro e w'⟨rfl,rfl⟩);go_roundw
   case rel =>
    refine⟨q+1,AA,AF,?_,?_,Y.setCell AE _⟩
    ·simp only[twP,Hy.out];go_num
    have:=C.set_ q ((2*y+(twP b bt q).2) % 4294967296);rw[Md _ E q _ U.out (by rw[ap.out];exact cl)] at this;simp only[twP,Hy.out];simpa using this
   simp[intOf];omega
  have av:q=33:=AA
  rw[List.drop_eq_nil_of_le (by rw[ap.out];omega),DK] at C;have bx:=C.nums (n:=33) (c:=33) (by rw[U.out];exact av) (AI _) AA;have aj:=LH (Vg _ (twP_lim b bt q));rw[dbl_done b lr bt bm ct q av] at aj;have M:qs=limbs (val xs / 2 ^ (i+1) / val ys):=al.out;have R:Hid (val xs / 2 ^ (i+1) / val ys<big):=LH (by
   have h1:=bc.out;have o:=Nat.div_le_self (val xs) (2 ^ (i+1));have h3:=Nat.div_le_self (val xs / 2 ^ (i+1)) (val ys);omega)
  have T:Hid (val xs / 2 ^ i / val ys<big):=LH (by
   have h1:=bc.out;have o:=Nat.div_le_self (val xs) (2 ^ i);have h3:=Nat.div_le_self (val xs / 2 ^ i) (val ys);omega)
  clear al;generalize cq:val xs / 2 ^ (i+1) / val ys=a at *;clear cq;subst M;have x:Below w.heap.size w wr:=X.trans (Y.mono X.size);have aa:=ax.below Y;have da:=x.size;have ak:=LH b2;have ao:Hid (ys.length<=33):=LH AA;have a5:=LH ly;clear C U ci av ay ax b2;generalize hp:(twP b bt q).1=ps at *;clear hp;by_cases Z:val ys<=2*val b+bt
  ·have J:decide (Vm (2*val b+bt) (val ys)=-1)=false:=by
    unfold Vm;rw[if_neg AA];split <;> rfl
   have s:=V.out.1 Z;have Hr:=LH s;have b9:=LH Z;have L:Xm (a+a)=(limbs (a+a),0):=Km (by have:=T.out;rw[s.2] at this;omega);have bn:Xm (a+a+1)=(limbs (a+a+1),0):=Km (by have:=T.out;rw[s.2] at this;omega);have b5:Hid (a+a<big):=LH (by have:=T.out;rw[s.2] at this;omega);have ai:=LH L;have b7:=LH bn;clear L bn s Z V;generalize a0:2*val b+bt=v2 at *;clear a0;have H:∀w' A c f g,Zq .u32 w' A (limbs a).length c (limbs a)->Zq .u32 w' f (limbs a).length g (limbs a)->Calls prog 59 #[.slice A (limbs a).length c,.slice f (limbs a).length g] w' (Xr w' (limbs (a+a),0)):=by
    intro w' A c f g G I;have:=Aa A c a f g a w' G I R.out R.out;rwa [ai.out] at this
   have bj:∀w' A c f g,Zq .u32 w' A (limbs (a+a)).length c (limbs (a+a))->Zq .u32 w' f 1 g [1]->Calls prog 59 #[.slice A (limbs (a+a)).length c,.slice f 1 g] w' (Xr w' (limbs (a+a+1),0)):=by
    intro w' A c f g G I;have e:=limbs_one;have cg:Zq .u32 w' f (limbs 1).length g (limbs 1):=by rw[e];exact I
    have:=Aa A c (a+a) f g 1 w' G cg b5.out (small_big 1 AC);rw[b7.out,e] at this;exact this
   have ah:=LH H;have b4:=LH bj;clear H bj;go_wp2_with (first
    | (go_at_call 80;(with_reducible refine (G6 _ _ _ _ _ bx).mono ?_);rintro e w'⟨rfl,t,rfl⟩;rw[aj.out] at t ⊢)
    | (go_at_call 214;(with_reducible refine (Zvr _ _ _ _ _ _ _ _ _ (t.below p) ((o.below x).below p) (Z9 _) a5.out ak.out ao.out).mono ?_);rintro e w'⟨rfl,rfl⟩;rw[Yd,J])
    | (go_at_call 215;(with_reducible refine (ref_less _ _ _ _ _ _ _ _ _ (t.below p) ((o.below x).below p) (Z9 _) a5.out ak.out ao.out (by rw[Yd];exact b9.out)).mono ?_);rintro e w3⟨A5,c5,rfl,bu,bg⟩;rw[Yd] at bu ⊢)
    | (go_at_call 59;(with_reducible refine (ah.out _ _ _ _ _ aa aa).mono ?_);rintro e w1⟨A4,c4,rfl,aw,p⟩)
    | (go_at_call 59;(with_reducible refine (b4.out _ _ _ _ _ ((aw.below bg).below ((AK _ _).alloc (AI _) _)) (one_nums w3)).mono ?_);rintro e w6⟨A6,c6,rfl,cr,bh⟩))
   have bi:Below w3.heap.size w3 (w3.alloc (.cells #[.int .u32 1] 49)):=(AK _ _).alloc (AI _) _;have ar:=Zz (Zz (Zz (Zz x p) bg) bi) bh;go_roundw
   case rel =>
    obtain⟨e1,F⟩:=Hr.out;refine⟨i,A6,c6,A5,c5,limbs (a+a+1),limbs (v2-val ys),AF,AA,rfl,cr,rfl,(bu.below bi).below bh,ar,LH ?_,LH ?_⟩
    ·rw[F,Nat.two_mul]
    rw[e1]
   simp[intOf] <;> omega
  have J:decide (Vm (2*val b+bt) (val ys)=-1)=true:=by
   unfold Vm;rw[if_pos AA];rfl
  have s:=V.out.2 AA;have Hr:=LH s;have L:Xm (a+a)=(limbs (a+a),0):=Km (by have:=T.out;rw[s.2] at this;omega);have ai:=LH L;clear L s Z V;generalize a0:2*val b+bt=v2 at *;clear a0;have H:∀w' A c f g,Zq .u32 w' A (limbs a).length c (limbs a)->Zq .u32 w' f (limbs a).length g (limbs a)->Calls prog 59 #[.slice A (limbs a).length c,.slice f (limbs a).length g] w' (Xr w' (limbs (a+a),0)):=by
   intro w' A c f g G I;have:=Aa A c a f g a w' G I R.out R.out;rwa [ai.out] at this
  have ah:=LH H;clear H;go_wp2_with (first
   | (go_at_call 80;(with_reducible refine (G6 _ _ _ _ _ bx).mono ?_);rintro e w'⟨rfl,t,rfl⟩;rw[aj.out] at t ⊢)
   | (go_at_call 214;(with_reducible refine (Zvr _ _ _ _ _ _ _ _ _ (t.below p) ((o.below x).below p) (Z9 _) a5.out ak.out ao.out).mono ?_);rintro e w'⟨rfl,rfl⟩;rw[Yd,J])
   | (go_at_call 59;(with_reducible refine (ah.out _ _ _ _ _ aa aa).mono ?_);rintro e w1⟨A4,c4,rfl,aw,p⟩))
  have ar:=Zz x p;go_roundw
  case rel =>
   obtain⟨e1,F⟩:=Hr.out;refine⟨i,A4,c4,_,33,limbs (a+a),limbs v2,AF,AA,rfl,aw,rfl,t.below p,ar,LH ?_,LH ?_⟩
   ·rw[F,Nat.two_mul]
   rw[e1]
  simp[intOf] <;> omega
 obtain rfl:k=0:=AA
 have M:=al.out;rw[Nat.pow_zero,Nat.div_one] at M;have az:=W.out;rw[Nat.pow_zero,Nat.div_one] at az;have ca:=LH M;have cb:=LH az;clear M az;go_wp2;go_ret3
 rw[<-ca.out,<-cb.out];unfold RetQuo;exact⟨_,_,_,_,rfl,ax,ay,X⟩
theorem rf_here(Ar:Option Addr)(cr a:Nat)(b:Option Addr)(ns cs:Nat)(c:Bool)(x:Nat)(w:World)(n:Zq .u32 w Ar (limbs a).length cr (limbs a))(y:a<big)(p:Z1 w b ns cs c x):
 Calls prog 131 #[.slice Ar (limbs a).length cr,.agg #[.slice b ns cs,.bool c]] w λe w'=>e = .returned (.bool (decide (a<x)))/\Below w w w':=by
 have j:=Zy w (.cells #[.slice b ns cs,.bool c] 46);have g:=Blk.new w 46 #[.slice b ns cs,.bool c];have o:=n.below j;have k:=p.below j;have m:=LH j;have s:=LH o;clear n p j o;go_enter func131,ntmps131;go_upto_region 1 with fail;generalize w.alloc (.cells #[.slice b ns cs,.bool c] 46)=l at *;have A:l.cell? ⟨w,0,none⟩=some (.slice b ns cs):=g.cell 0;have B:l.cell? ⟨w,1,none⟩=some (.bool c):=g.cell 1;have C:=g.lt;clear g;rcases k.cases with ⟨q,rfl,ex⟩ | ⟨q,rfl,ex⟩
 case inr =>
  have t:Hid (decide (a<x)=true):=DY AA;clear ex k;go_wp2_with fail;go_ret;exact⟨by rw[t.out];rfl,m.out⟩
 have f:=k.2;rw[ex] at f;obtain rfl:=f.len;have d:=Le Ar _ cr (limbs a) b _ cs (limbs x) l s.out f (Z9 _) (Z9 _);rw[Zvu y q] at d;unfold Quiet at d;have d:=LH d;have hd:decide (Vm a x<0)=decide (a<x):=by
  by_cases h:a<x
  ·rw[DY h,DY (Q5.2 h)]
  rw[BR h,BR λu=>h (Q5.1 u)]
 clear ex k f;go_wp2_with (first
  | (go_at_call 36
     (with_reducible refine d.out.mono ?_);rintro e z⟨rfl,v⟩;have r:=LH (Zz m.out (v.below _))))
 go_ret;exact⟨by first | rfl | rw[hd],r.out⟩
theorem rf_less(d:Option Addr)(c1 a:Nat)(f:Option Addr)(c2 b:Nat)(w:World)(h1:Zq .u32 w d (limbs a).length c1 (limbs a))(g:Zq .u32 w f (limbs b).length c2 (limbs b))(k:a<big)(l:b<=a):
 Calls prog 133 #[.slice d (limbs a).length c1,.slice f (limbs b).length c2] w λe w'=>∃A c,e = .returned (.slice A (limbs (a-b)).length c)/\Zq .u32 w' A (limbs (a-b)).length c (limbs (a-b))/\Below w w w':=by
 have CA:=ref_sub d _ c1 (limbs a) f _ c2 (limbs b) w h1 g (Z9 _) (Z9 _);rw[Zw6 k l] at CA;have CA:=LH CA;clear h1 g;go_enter func133,ntmps133;go_wp2_with (first
  | (go_at_call 184
     (with_reducible refine CA.out.mono ?_);rintro e o⟨h,j,rfl,n,m⟩))
 go_ret;exact⟨h,j,rfl,n,m⟩
def WkRet(a:World)(h:GH)(G:Gr)(At:Option Addr)(d b f:Nat)(cs t:List Nat)(w:World)(e:Ending)(w':World):Prop :=
 e = .returned (.tuple #[])/\Zu w w'/\((cs.length+t.length<=300/\WkAt a h G At d b f (cs++t) false w')\/(300<cs.length+t.length/\∃g,WkAt a h G At d b f g true w'))
def WFC(a:World)(h:GH)(G:Gr)(At:Option Addr)(b g m:Nat):Prop:=∀(d:Nat) (cs:List Nat) (l:List Int) (n r:Nat) (t:List Nat) (Al:Option Addr) (f:Nat) (Ar:Option Addr) (cr:Nat) (w:World),t.length<=m->UnL G l n r t->InG G l->Zx (Zv G) l n<big->l.length<=6->n<b->(∀s∈l,G.has s=true)->Za .i64 a Al l.length f l->Zq .u32 w Ar (limbs r).length cr (limbs r)->WkAt a h G At b g d cs false w->
 Calls Tryz.prog 132 #[.pointer (some ⟨d,0,none⟩),.slice Al l.length f,.int .i64 (n:Int),.slice Ar (limbs r).length cr] w (WkRet a h G At b g d cs t w)
def WTC(d:World)(h:GH)(G:Gr)(At:Option Addr)(a f m:Nat):Prop:=∀(b:Nat) (cs:List Nat) (s:Int) (n r:Nat) (t:List Nat) (Ar:Option Addr) (cr:Nat) (w:World),t.length<=m->s<0->Zp s<G.nons.length->UnT G (Zp s) n r t->Zv G s n<big->n<a->Zq .u32 w Ar (limbs r).length cr (limbs r)->WkAt d h G At a f b cs false w->
 Calls Tryz.prog 81 #[.pointer (some ⟨b,0,none⟩),.int .i64 (Zp s:Int),.int .i64 (n:Int),.slice Ar (limbs r).length cr] w (WkRet d h G At a f b cs t w)
theorem rf_wfull{f:World}{h:GH}{G:Gr}{At:Option Addr}{m j d:Nat}{cs:List Nat}(Al:Option Addr)(a g:Nat)(n:Int)(Ar:Option Addr)(l cr:Nat)(w:World)(k:WkAt f h G At m j d cs true w):
 Calls prog 132 #[.pointer (some ⟨d,0,none⟩),.slice Al a g,.int .i64 n,.slice Ar l cr] w λe w'=>e = .returned (.tuple #[])/\w=w':=by
 obtain⟨A,c,b⟩:=k;have o:w.cell? ⟨d,6,none⟩=some (.bool true):=b.box.cell 6;have p:=b.box.lt;clear b;by_cases h0:a=0
 case pos =>
  have h1:((a:Int)==0)=true:=by rw[h0];rfl
  clear h0;go_enter func132,ntmps132;go_wp2_with fail;refine AV (results_none rfl _ _ _) rfl ?_;exact⟨rfl,rfl⟩
 have h1:((a:Int)==0)=false:=by rw[AP];omega
 clear h0;go_enter func132,ntmps132;go_wp2_with fail;refine AV (results_none rfl _ _ _) rfl ?_;exact⟨rfl,rfl⟩
section
variable {W0:World} {h:GH} {G:Gr} {At:Option Addr} {nt ct wk:Nat} {cs:List Nat} {full:Bool} {A:Option Addr} {c:Nat} {W:World}
theorem Bp.no32(M:Bp W0 h G At nt ct wk cs full A c W):∀o z,W.cell? ⟨wk,o,none⟩≠some (Value.int .u32 z):=λo z a=>by
 rw[M.box.cell o] at a;rcases o with _ | _ | _ | _ | _ | _ | _ | o <;> cases a
theorem Bp.apart(M:Bp W0 h G At nt ct wk cs full A c W):(Value.slice A cs.length c).ownBlock≠some wk:=λe=>by
 obtain⟨_,_,v,a⟩:=M.row.blk e;exact absurd (a.same_ty M.box) AC
theorem Bp.push{j a:World}{f i:Nat}(M:Bp W0 h G At nt ct wk cs full A c W)(r:Below W W j)(p:M4 a W0 d (cs.length+1) f (cs.map (λi:Nat=>(i:Int))++[(i:Int)]))(t:j.grownBy a (Value.slice A cs.length c).ownBlock)(D:cs.length≠300):
 Blk a wk 122 #[.slice h.a1 h.n1 h.c1,.slice h.a2 h.n2 h.c2,.slice h.a3 h.n3 h.c3,.int .i64 G.start,.slice At nt ct,.slice A cs.length c,.bool full]/\WkAt W0 h G At nt ct wk (cs++[i]) full (a.setCell ⟨wk,5,none⟩ (.slice d (cs.length+1) f))/\Zu W (a.setCell ⟨wk,5,none⟩ (.slice d (cs.length+1) f)):=by
 have g:=M.below r;have l:Off (λq=>(Value.slice A cs.length c).ownBlock=some q) j a:=Off.of_grown t;have u:Zu j a:=Zu.of_off l λq b=>g.row.no32 q b;have k:=l.blk g.box g.apart;have m:=Off.of_set a wk 5 (.slice d (cs.length+1) f);have y:∀o z,a.cell? ⟨wk,o,none⟩≠some (Value.int .u32 z):=λo z s=>by
  rw[k.cell o] at s;rcases o with _ | _ | _ | _ | _ | _ | _ | o <;> cases s
 have x:Zu a (a.setCell ⟨wk,5,none⟩ (.slice d (cs.length+1) f)):=Zu.of_off m λq b o z=>by rw[b];exact y o z
 have C:(Value.slice d (cs.length+1) f).ownBlock≠some wk:=λe=>by
  obtain⟨_,_,v,B⟩:=p.blk e;exact absurd (B.same_ty k) AC
 have n:=g.base.trans (l.is_below g.base.size λq b=>(g.row.blk b).1);refine⟨k,⟨d,f,n.trans (m.is_below n.size λq b=>by rw[b];exact M.low),?_,?_,M.low,?_⟩,((Zu.of_below r).trans u).trans x⟩
 ·rw[AS];exact k.set 5 _
 ·rw[AS,DI];exact p.off m λq b e=>C (by rw[b,e])
 have:=M.few;rw[AS,CV];omega
theorem Bp.fill(M:Bp W0 h G At nt ct wk cs full A c W):Bp W0 h G At nt ct wk cs true A c (W.setCell ⟨wk,6,none⟩ (.bool true))/\Zu W (W.setCell ⟨wk,6,none⟩ (.bool true)):=by
 have b:=Off.of_set W wk 6 (.bool true);refine⟨⟨M.base.trans (b.is_below M.base.size λq a=>by rw[a];exact M.low),M.box.set 6 _,M.row.off b λq a e=>M.apart (by rw[a,e]),M.low,M.few⟩,Zu.of_off b λq a o z=>by rw[a];exact M.no32 o z⟩
end
end Go.Proofs.YtggbjdmpjidhgaaGreatDoor
