/- counts: the reference's table, as it lies in memory; one; a symbol's trees; what is told. -/
import Derived.Test.YtggbjdmpjidhgaaGreatDoorV13
import Derived.Test.YtggbjdmpjidhgaaGreatDoorV14
import Derived.Test.YtggbjdmpjidhgaaGreatDoorV16
set_option linter.all false
set_option maxHeartbeats 1500000
set_option maxRecDepth 100000
namespace Go.Proofs.YtggbjdmpjidhgaaGreatDoor
open Go.RowKit Go.Proofs.Tryz
variable{b:Bool}{w w' d:World}{k:CH}{h:GH}{G:Gr}{S S':Nat->Prop}{g n c x B:Nat}{t:Int}{cs:Array Value}{m o a A Ar q:Option Addr}{p:List (List Nat)}{tab:Nat->Nat->Nat}{f:List Value}{xs:List Nat}
theorem F2(b:Option Addr)(n c1:Nat)(xs:List Nat)(c:Option Addr)(m c2:Nat)(ys:List Nat)(w:World)(h1:Zq .u32 w b n c1 xs)(d:Zq .u32 w c m c2 ys)(h:Lim xs)(j:Lim ys):
 Calls prog 177 #[.slice b n c1,.slice c m c2] w (Xr w (N9 xs ys)):=by
 by_cases f:Zm xs=true
 case neg =>
  have k:Zm xs=false:=by simpa using f
  have a:N9 xs ys=([],1):=by simp[N9,k]
  rw[a];clear a f;go_enter func177,ntmps177;go_wp2_with (first
   | (go_at_call 75;(with_reducible refine (Zb _ _ _ _ _ h1).mono ?_);rintro e w'⟨rfl,rfl⟩)
   | (go_at_call 75;(with_reducible refine (Zb _ _ _ _ _ d).mono ?_);rintro e w'⟨rfl,rfl⟩))
  go_ret2;exact⟨none,0,rfl,Zq.nil _ _ _ _ AE,AK _ _⟩
 by_cases g:Zm ys=true
 case neg =>
  have l:Zm ys=false:=by simpa using g
  have a:N9 xs ys=([],1):=by simp[N9,l]
  rw[a];clear a g;go_enter func177,ntmps177;go_wp2_with (first
   | (go_at_call 75;(with_reducible refine (Zb _ _ _ _ _ h1).mono ?_);rintro e w'⟨rfl,rfl⟩)
   | (go_at_call 75;(with_reducible refine (Zb _ _ _ _ _ d).mono ?_);rintro e w'⟨rfl,rfl⟩))
  go_ret2;exact⟨none,0,rfl,Zq.nil _ _ _ _ AE,AK _ _⟩
 exact nat_mul_ok b n c1 xs c m c2 ys w h1 d h j f g
theorem Zy1(w:World)(t:TypeId)(a b c:Array Value):Below w w (((w.alloc (.cells a t)).alloc (.cells b t)).alloc (.cells c t))/\Blk (((w.alloc (.cells a t)).alloc (.cells b t)).alloc (.cells c t)) w t a /\
 Blk (((w.alloc (.cells a t)).alloc (.cells b t)).alloc (.cells c t)) (w.heap.size+1) t b/\Blk (((w.alloc (.cells a t)).alloc (.cells b t)).alloc (.cells c t)) (w.heap.size+2) t c:=by
 have m:=Zy w (.cells a t);have j:=Zy (w.alloc (.cells a t)) (.cells b t);have d:=Zy ((w.alloc (.cells a t)).alloc (.cells b t)) (.cells c t);have h1:=Blk.new w t a;have l:=Blk.new (w.alloc (.cells a t)) t b;have h:=Blk.new ((w.alloc (.cells a t)).alloc (.cells b t)) t c;have f:(w.alloc (.cells a t)).heap.size=w.heap.size+1:=Zl _ _;have k:((w.alloc (.cells a t)).alloc (.cells b t)).heap.size=w.heap.size+2:=by rw[Zl,f]
 have g:=Blk.ext l d;rw[f] at g;rw[k] at h;exact⟨Zz (Zz m j) d,Blk.ext (Blk.ext h1 j) d,g,h⟩
theorem tr_times(g:Option Addr)(n1 c1:Nat)(b:Bool)(x:Nat)(h:Option Addr)(n2 c2:Nat)(c:Bool)(y:Nat)(w:World)(h1:Z1 w g n1 c1 b x)(h2:Z1 w h n2 c2 c y):
 Calls prog 158 #[.agg #[.slice g n1 c1,.bool b],.agg #[.slice h n2 c2,.bool c]] w (RetV w (x*y)):=by
 have r:=h1.cases;have s:=h2.cases;have H1:=LH h1;have H2:=LH h2;clear h1 h2;obtain⟨hB,E,F,ap⟩:=Zy1 w 77 #[.slice g n1 c1,.bool b] #[.slice h n2 c2,.bool c] #[.slice none 0 0,.bool false];go_enter func158,ntmps158;go_upto_region 1 with fail;generalize ((w.alloc (.cells #[.slice g n1 c1,.bool b] 77)).alloc (.cells #[.slice h n2 c2,.bool c] 77)).alloc (.cells #[.slice none 0 0,.bool false] 77)=W at *;have L:=E.lt;have M:=F.lt;have A:W.cell? ⟨w,0,none⟩=some (.slice g n1 c1):=E.cell 0;have B:W.cell? ⟨w,1,none⟩=some (.bool b):=E.cell 1;have C:W.cell? ⟨w+1,0,none⟩=some (.slice h n2 c2):=F.cell 0;have D:W.cell? ⟨w+1,1,none⟩=some (.bool c):=F.cell 1;have d:=LH E;have f:=LH F;have a:=LH ap;have HB:=LH hB;have C1:=LH (Ztk g n1 c1 b x W (H1.out.below hB));clear E F ap hB;go_wp2_with fail;(with_reducible refine C1.out.mono ?_);rintro e k⟨rfl,G⟩;have N:=LH (Zz HB.out G);have d:=LH (d.out.ext G);have f:=LH (f.out.ext G);have a:=LH (a.out.ext G);clear G C1 HB A B C D L M;have L:=d.out.lt;have M:=f.out.lt;have Y:=a.out.lt;have A:k.cell? ⟨w,0,none⟩=some (.slice g n1 c1):=d.out.cell 0;have B:k.cell? ⟨w,1,none⟩=some (.bool b):=d.out.cell 1;have C:k.cell? ⟨w+1,0,none⟩=some (.slice h n2 c2):=f.out.cell 0;have D:k.cell? ⟨w+1,1,none⟩=some (.bool c):=f.out.cell 1;have O:k.cell? ⟨w+2,0,none⟩=some (.slice none 0 0):=a.out.cell 0;have P:k.cell? ⟨w+2,1,none⟩=some (.bool false):=a.out.cell 1;have S:=a.out.frozen 0;have T:=a.out.frozen 1;by_cases J:x=0
 case pos =>
  subst J;have hd:decide ((0:Nat)=0)=true:=rfl;have j:=LH (Uc a.out N.out (DB _ _) none 0 0 false);clear r s;go_wp2_with fail;refine AV (By (p:=4) AB _ _ (w.heap.size+2) 77 #[.slice none 0 0,.bool false] (0,0) _ rfl j.out.2.1 underlying77 rfl AB) rfl ?_;exact⟨j.out.1,_,_,_,_,rfl,by rw[Nat.zero_mul];exact Z1.zero _ _ _ AA⟩
 have hd:decide (x=0)=false:=by rw[AY];exact J
 have C2:=LH (Ztk h n2 c2 c y k (H2.out.below N.out));have a0:=LH J;clear J;rw[hd];go_wp2_with fail;(with_reducible refine C2.out.mono ?_);rintro e l⟨rfl,H⟩;have v:=LH (Zz N.out H);have d:=LH (d.out.ext H);have f:=LH (f.out.ext H);have a:=LH (a.out.ext H);clear H C2 N A B C D L M Y O P S T hd;have L:=d.out.lt;have M:=f.out.lt;have Y:=a.out.lt;have A:l.cell? ⟨w,0,none⟩=some (.slice g n1 c1):=d.out.cell 0;have B:l.cell? ⟨w,1,none⟩=some (.bool b):=d.out.cell 1;have C:l.cell? ⟨w+1,0,none⟩=some (.slice h n2 c2):=f.out.cell 0;have D:l.cell? ⟨w+1,1,none⟩=some (.bool c):=f.out.cell 1;have O:l.cell? ⟨w+2,0,none⟩=some (.slice none 0 0):=a.out.cell 0;have P:l.cell? ⟨w+2,1,none⟩=some (.bool false):=a.out.cell 1;have S:=a.out.frozen 0;have T:=a.out.frozen 1;by_cases X:y=0
 case pos =>
  subst X;have hd:decide ((0:Nat)=0)=true:=rfl;have j:=LH (Uc a.out v.out (DB _ _) none 0 0 false);clear r s;go_wp2_with fail;refine AV (By (p:=4) AB _ _ (w.heap.size+2) 77 #[.slice none 0 0,.bool false] (0,0) _ rfl j.out.2.1 underlying77 rfl AB) rfl ?_;exact⟨j.out.1,_,_,_,_,rfl,by rw[Nat.mul_zero];exact Z1.zero _ _ _ AA⟩
 have hd:decide (y=0)=false:=by rw[AY];exact X
 rw[hd];have Z:=LH (Uc a.out v.out (DB _ _) none 0 0 true);by_cases n:b=true\/c=true
 case pos =>
  have Hz:Hid (¬x*y<big):=LH (by
   have a2:x<=x*y:=Nat.le_mul_of_pos_right x AA;have J:=a0.out;have a3:y<=x*y:=Nat.le_mul_of_pos_left y AA;rcases r with ⟨o,e1,_⟩ | ⟨o,e1,_⟩
   ·rcases s with ⟨q,e2,_⟩ | ⟨q,e2,_⟩
    ·rw[e1,e2] at n;simp at n
    omega
   omega)
  clear r s X hd;rcases (by cases b <;> cases c <;> simp at n <;> simp:b=true\/(b=false/\c=true)) with rfl | ⟨rfl,rfl⟩;all_goals
   clear n;go_wp2_with fail;refine AV (By (p:=4) AB _ _ (w.heap.size+2) 77 #[.slice none 0 0,.bool true] (0,0) _ rfl Z.out.2.1 underlying77 rfl AB) rfl ?_;exact⟨Z.out.1,_,_,_,_,rfl,Z1.over _ Hz.out⟩
 obtain⟨rfl,rfl⟩:b=false/\c=false:=by cases b <;> cases c <;> simp at n <;> simp
 obtain⟨o,ex⟩:x<big/\(Vk x).1=limbs x:=by
  rcases r with ⟨o,_,ex⟩ | ⟨_,e,_⟩
  ·exact⟨o,ex⟩
  cases e
 obtain⟨q,R⟩:y<big/\(Vk y).1=limbs y:=by
  rcases s with ⟨q,_,R⟩ | ⟨_,e,_⟩
  ·exact⟨q,R⟩
  cases e
 have CA:=F2 g n1 c1 (Vk x).1 h n2 c2 (Vk y).1 l (H1.out.2.below v.out) (H2.out.2.below v.out) (Wx x) (Wx y);rw[ex,R,Nw x y o q] at CA;have CA:=LH CA;clear r s n ex R o q Z X hd;go_wp2_with fail;(with_reducible refine CA.out.mono ?_);rintro e W3⟨u,c3,rfl,ae,ad⟩;generalize hp:Xm (x*y)=p at *;obtain⟨t,er⟩:=p;simp only[] at ae;have Hp:=LH hp;have HN:=LH ae;have X3:=a.out.ext ad;have av:=LH (Zz v.out ad);clear A B C D O P S T L M Y hp ae ad CA;go_wp2_with fail;(with_reducible refine (tr_cof u t.length c3 (er:Int) W3).mono ?_);rintro e W4⟨rfl,U⟩;have m:=X3.ext U;have O:W4.cell? ⟨w+2,0,none⟩=some (.slice none 0 0):=m.cell 0;have P:W4.cell? ⟨w+2,1,none⟩=some (.bool false):=m.cell 1;have S:=m.frozen 0;have T:=m.frozen 1;have Y:=m.lt;have ax:=LH (HN.out.below U);obtain⟨z,V⟩:∃z,z=((er:Int)==2):=⟨_,rfl⟩;have j:=LH (Uc m (Zz av.out U) (DB _ _) u t.length c3 z);rw[<-V];have az:Hid (∀(w':World),Zq .u32 w' u t.length c3 t->Z1 w' u t.length c3 z (x*y)):=LH λw' hn=>by
  have I:=Hp.out;unfold Xm at I;unfold Z1 Vk;by_cases hz:x*y<big
  ·rw[if_pos hz] at I ⊢;obtain⟨rfl,rfl⟩:=Prod.mk.inj I;exact⟨by rw[V];rfl,hn⟩
  rw[if_neg hz] at I ⊢;obtain⟨rfl,rfl⟩:=Prod.mk.inj I;exact⟨by rw[V];rfl,hn⟩
 clear X3 m U V;go_wp2_with fail;refine AV (By (p:=4) AB _ _ (w.heap.size+2) 77 #[.slice u t.length c3,.bool z] (0,0) _ rfl j.out.2.1 underlying77 rfl AB) rfl ?_;exact⟨j.out.1,_,_,_,_,rfl,az.out _ (ax.out.kept j.out.2.2)⟩
section
open Go.Maps (Keyed IsMap Tidy)
theorem nat_add(b:Option Addr)(n c1:Nat)(xs:List Nat)(c:Option Addr)(m c2:Nat)(ys:List Nat)(w:World)(h1:Zq .u32 w b n c1 xs)(d:Zq .u32 w c m c2 ys)(h:Lim xs)(j:Lim ys):
 Calls prog 178 #[.slice b n c1,.slice c m c2] w (Xr w (Mu xs ys)):=by
 by_cases f:Zm xs=true
 ·by_cases g:Zm ys=true
  ·by_cases k:m<=n
   ·exact nat_add_ge b n c1 xs c m c2 ys w h1 d h j f g k
   exact nat_add_lt c m c2 ys b n c1 xs w d h1 j h g f AA
  have o:Zm ys=false:=by simpa using g
  have a:Mu xs ys=([],1):=by simp[Mu,o]
  rw[a];clear a g;go_enter func178,ntmps178;go_wp2_with (first
   | (go_at_call 75;(with_reducible refine (Zb _ _ _ _ _ h1).mono ?_);rintro e w'⟨rfl,rfl⟩)
   | (go_at_call 75;(with_reducible refine (Zb _ _ _ _ _ d).mono ?_);rintro e w'⟨rfl,rfl⟩))
  go_ret2;exact⟨none,0,rfl,Zq.nil _ _ _ _ AE,AK _ _⟩
 have l:Zm xs=false:=by simpa using f
 have a:Mu xs ys=([],1):=by simp[Mu,l]
 rw[a];clear a f;go_enter func178,ntmps178;go_wp2_with (first
  | (go_at_call 75;(with_reducible refine (Zb _ _ _ _ _ h1).mono ?_);rintro e w'⟨rfl,rfl⟩)
  | (go_at_call 75;(with_reducible refine (Zb _ _ _ _ _ d).mono ?_);rintro e w'⟨rfl,rfl⟩))
 go_ret2;exact⟨none,0,rfl,Zq.nil _ _ _ _ AE,AK _ _⟩
end
section
open Go.Maps (Keyed IsMap Tidy)
open Go.Maps (Keyed IsMap Tidy)
theorem Yo.not_map{b:World}(C:Yo b k h G S w){t:TypeId}(a:Blk w g t cs):¬k.maps g:=by
 obtain⟨ts,d⟩:=C.trees;obtain⟨f,c⟩:=C.forts;rintro (e | e)
 ·exact d.map.ne_blk a e
 exact c.map.ne_blk a e
theorem Yo.more{m:World}(C:Yo m k h G S w)(a:Below w w w')(r:w.heap.size<=g):Yo m k h G (λb=>S b\/b=g) w':=by
 have f:=C.below a;refine⟨f.base,f.box,f.nul,f.low,f.ne,?_,?_⟩
 ·obtain⟨ts,d⟩:=C.trees;obtain⟨s,t⟩:=C.map_lt;refine⟨ts,d.map.below a,d.key,λp c=>⟨(d.val p c).1.kept (.of_below a) (a.block _ (d.val p c).1.lt),?_⟩⟩;rintro (h1 | h1)
  ·exact (d.val p c).2 h1
  have:=(d.val p c).1.lt;omega
 obtain⟨n,j⟩:=C.forts;refine⟨n,j.map.below a,j.key,λp c=>?_⟩;obtain⟨x,q,l,o⟩:=j.val p c;refine⟨x,q,l.kept (.of_below a) (a.block _ l.lt),?_⟩;rintro (h1 | h1)
 ·exact o h1
 have:=l.lt;omega
theorem Yo.store(C:Yo d k h G S w){ns cs:Nat}{p:Bool}(a:Blk w g 77 #[.slice o ns cs,.bool p])(r:S g)(s:d.heap.size<=g)(A:Option Addr)(n c:Nat)(b:Bool):
 Yo d k h G S ((w.setCell ⟨g,0,none⟩ (.slice A n c)).setCell ⟨g,1,none⟩ (.bool b))/\Off (λq=>q=g) w ((w.setCell ⟨g,0,none⟩ (.slice A n c)).setCell ⟨g,1,none⟩ (.bool b))/\Zf w ((w.setCell ⟨g,0,none⟩ (.slice A n c)).setCell ⟨g,1,none⟩ (.bool b)) /\
  Blk ((w.setCell ⟨g,0,none⟩ (.slice A n c)).setCell ⟨g,1,none⟩ (.bool b)) g 77 #[.slice A n c,.bool b]:=by
 have f:Off (λq=>q=g) w ((w.setCell ⟨g,0,none⟩ (.slice A n c)).setCell ⟨g,1,none⟩ (.bool b)):=(Off.of_set w g 0 (.slice A n c)).trans (Off.of_set _ g 1 (.bool b)) λ_ _ h=>h;have l:Zf w ((w.setCell ⟨g,0,none⟩ (.slice A n c)).setCell ⟨g,1,none⟩ (.bool b)):=Zf.of_off f λq j=>by rw[j];exact Jk a
 have m:=C.not_map a;refine⟨C.move f l λq j=>?_,f,l,(a.set 0 _).set 1 _⟩;subst j;refine⟨r,s,?_,?_,λe=>m (.inl e),λe=>m (.inr e)⟩
 ·rintro rfl;have h1:=C.box;unfold Blk at h1 a;rw[h1] at a;injection a with a;injection a with _ h3 _;exact absurd h3 AC
 rintro rfl;have h1:=C.nul;unfold Z8 Blk at h1;unfold Blk at a;rw[h1] at a;injection a with a;injection a with _ h3 _;exact absurd h3 AC
end
theorem Zu2(f:Option Addr)(n1 c1:Nat)(a:Bool)(x:Nat)(g:Option Addr)(n2 c2:Nat)(b:Bool)(y:Nat)(w:World)(h1:Z1 w f n1 c1 a x)(D:Z1 w g n2 c2 b y):
 Calls prog 157 #[.agg #[.slice f n1 c1,.bool a],.agg #[.slice g n2 c2,.bool b]] w (RetV w (x+y)):=by
 have z:=h1.cases;have A:=D.cases;have U:=LH h1.2;have V:=LH D.2;clear h1 D;obtain⟨h,q,r,c⟩:=Zy1 w 77 #[.slice f n1 c1,.bool a] #[.slice g n2 c2,.bool b] #[.slice none 0 0,.bool false];go_enter func157,ntmps157;go_upto_region 1 with fail;generalize ((w.alloc (.cells #[.slice f n1 c1,.bool a] 77)).alloc (.cells #[.slice g n2 c2,.bool b] 77)).alloc (.cells #[.slice none 0 0,.bool false] 77)=W at *;have l1:=q.lt;have l2:=r.lt;have T:=c.lt;have ah:W.cell? ⟨w,0,none⟩=some (.slice f n1 c1):=q.cell 0;have ai:W.cell? ⟨w,1,none⟩=some (.bool a):=q.cell 1;have aj:W.cell? ⟨w+1,0,none⟩=some (.slice g n2 c2):=r.cell 0;have ak:W.cell? ⟨w+1,1,none⟩=some (.bool b):=r.cell 1;have H:W.cell? ⟨w+2,0,none⟩=some (.slice none 0 0):=c.cell 0;have I:W.cell? ⟨w+2,1,none⟩=some (.bool false):=c.cell 1;have N:=c.frozen 0;have O:=c.frozen 1;have ab:=LH c;have X:=LH h;have B:=LH (Uc c h (DB _ _) none 0 0 true);by_cases j:a=true\/b=true
 case pos =>
  have Hz:Hid (¬x+y<big):=LH (by
   rcases z with ⟨k,J,_⟩ | ⟨k,J,_⟩
   ·rcases A with ⟨l,L,_⟩ | ⟨l,L,_⟩
    ·rw[J,L] at j;simp at j
    omega
   omega)
  clear q r c h z A;rcases (by cases a <;> cases b <;> simp at j <;> simp:a=true\/(a=false/\b=true)) with rfl | ⟨rfl,rfl⟩;all_goals
   clear j;go_wp2_with fail;refine AV (By (p:=4) AB _ _ (w.heap.size+2) 77 #[.slice none 0 0,.bool true] (0,0) _ rfl B.out.2.1 underlying77 rfl AB) rfl ?_;exact⟨B.out.1,_,_,_,_,rfl,Z1.over _ Hz.out⟩
 obtain⟨rfl,rfl⟩:a=false/\b=false:=by cases a <;> cases b <;> simp at j <;> simp
 obtain⟨k,ex⟩:x<big/\(Vk x).1=limbs x:=by
  rcases z with ⟨k,_,ex⟩ | ⟨_,e,_⟩
  ·exact⟨k,ex⟩
  cases e
 obtain⟨l,t⟩:y<big/\(Vk y).1=limbs y:=by
  rcases A with ⟨l,_,t⟩ | ⟨_,e,_⟩
  ·exact⟨l,t⟩
  cases e
 have CA:=nat_add f n1 c1 (Vk x).1 g n2 c2 (Vk y).1 W (U.out.below h) (V.out.below h) (Wx x) (Wx y);rw[ex,t,Nz x y k l] at CA;have CA:=LH CA;clear q r c h z A j ex t k l B;go_wp2_with fail;(with_reducible refine CA.out.mono ?_);rintro e W2⟨n,c3,rfl,F,E⟩;generalize R:Xm (x+y)=p at *;obtain⟨m,M⟩:=p;simp only[] at F;have Hp:=LH R;have Z:=LH F;have G:=ab.out.ext E;have Y:=LH (Zz X.out E);clear ah ai aj ak H I N O l1 l2 T R F E CA;go_wp2_with fail;(with_reducible refine (tr_cof n m.length c3 (M:Int) W2).mono ?_);rintro e W3⟨rfl,u⟩;have d:=G.ext u;have H:W3.cell? ⟨w+2,0,none⟩=some (.slice none 0 0):=d.cell 0;have I:W3.cell? ⟨w+2,1,none⟩=some (.bool false):=d.cell 1;have N:=d.frozen 0;have O:=d.frozen 1;have T:=d.lt;have aa:=LH (Z.out.below u);obtain⟨o,v⟩:∃o,o=((M:Int)==2):=⟨_,rfl⟩;have C:=LH (Uc d (Zz Y.out u) (DB _ _) n m.length c3 o);rw[<-v];have ae:Hid (∀(w':World),Zq .u32 w' n m.length c3 m->Z1 w' n m.length c3 o (x+y)):=LH λw' P=>by
  have s:=Hp.out;unfold Xm at s;unfold Z1 Vk;by_cases S:x+y<big
  ·rw[if_pos S] at s ⊢;obtain⟨rfl,rfl⟩:=Prod.mk.inj s;exact⟨by rw[v];rfl,P⟩
  rw[if_neg S] at s ⊢;obtain⟨rfl,rfl⟩:=Prod.mk.inj s;exact⟨by rw[v];rfl,P⟩
 clear G d u v;go_wp2_with fail;refine AV (By (p:=4) AB _ _ (w.heap.size+2) 77 #[.slice n m.length c3,.bool o] (0,0) _ rfl C.out.2.1 underlying77 rfl AB) rfl ?_;exact⟨C.out.1,_,_,_,_,rfl,ae.out _ (aa.out.kept C.out.2.2)⟩
theorem Yo.apart(C:Yo d k h G S w)(a:Blk w g 77 cs):g≠k.c/\g≠k.n/\g≠k.t/\g≠k.f:=by
 have b:=C.not_map a;refine⟨?_,?_,λe=>b (.inl e),λe=>b (.inr e)⟩
 ·rintro rfl;have h1:=C.box;unfold Blk at h1 a;rw[h1] at a;injection a with a;injection a with _ h3 _;exact absurd h3 AC
 rintro rfl;have h1:=C.nul;unfold Z8 Blk at h1;unfold Blk at a;rw[h1] at a;injection a with a;injection a with _ h3 _;exact absurd h3 AC
theorem Yo.store0{a:World}(C:Yo a k h G S w){ns cs:Nat}{j:Bool}(b:Blk w g 77 #[.slice m ns cs,.bool j])(o:S g)(p:a.heap.size<=g)(A:Option Addr)(n c:Nat):
 Yo a k h G S (w.setCell ⟨g,0,none⟩ (.slice A n c))/\Off (λq=>q=g) w (w.setCell ⟨g,0,none⟩ (.slice A n c))/\Zf w (w.setCell ⟨g,0,none⟩ (.slice A n c))/\Blk (w.setCell ⟨g,0,none⟩ (.slice A n c)) g 77 #[.slice A n c,.bool j]:=by
 have d:=Off.of_set w g 0 (.slice A n c);have l:Zf w (w.setCell ⟨g,0,none⟩ (.slice A n c)):=Zf.of_off d λq f=>by rw[f];exact Jk b
 refine⟨C.move d l λq f=>?_,d,l,b.set 0 _⟩;subst f;exact⟨o,p,C.apart b⟩
theorem Zu1{a:World}(C:Yo a k h G S w)(r:Blk w g 77 #[.slice A n c,.bool b])(p:Z1 w A n c b x)(m:Off k.maps d w)(o:S g)(t:a.heap.size<=g)(s:d.heap.size<=g)(u:∀q,S' q->S q):
 Blk ((w.setCell ⟨g,0,none⟩ (.slice A n c)).setCell ⟨g,1,none⟩ (.bool b)) g 77 #[.slice A n c,.bool b] /\
  CRet a k h G S' d x (.returned (.agg #[.slice A n c,.bool b])) ((w.setCell ⟨g,0,none⟩ (.slice A n c)).setCell ⟨g,1,none⟩ (.bool b)):=by
 obtain⟨h1,f,j,l⟩:=C.store r o t A n c b;exact⟨l,h1.less u,m.maps_new f s,A,n,c,b,rfl,p.kept j⟩
theorem Zwe{E:World}{x:Nat->Prop}(hP:Xq G)(gf:FuncId)(ay:Array Value)(eg:∀args w,(callFunc gf args).run prog w = .ok (.enter gf args) w)(Al:Option Addr)(t:Nat)(l:List Int)(n:Nat)(a:World)(C0:Yo E k h G x a)(dm:∀b,x b->b<a.heap.size)(hl:Za .i64 E Al l.length t l)(hN:(Zj G).length=h.n2)(hs:∀s∈l,-(h.n2:Int)<=s/\s<=1000)(h2:h.n2<=1000)(gr:l.length<=1000)(hn:n<=100)(hT:∀s f,l=s::f->∀i,i+Uy (Zj G) f<=n->Zw5 E k h G s i)(hO:∀s f,l=s::f->∀i,i+Uy (Zj G) f<=n->Zv G s i≠0->OthC E k h G a gf ay (n-i) (Zx (Zv G) f (n-i))):
 Calls prog 92 #[.pointer (some ⟨k.c,0,none⟩),.slice Al l.length t,.int .i64 (n:Int),.func (.func gf) #[] ay] a (CRet E k h G x a (Zx (Zv G) l n)):=by
 have gp:=hl.cap;have b4:=Zy a (.cells #[.slice none 0 0,.bool false] 77);have aj:=Blk.new a 77 #[.slice none 0 0,.bool false];have df:=C0.more b4 (AI a.heap.size);have ar:=LH C0.base.size;have Hl:=LH hl;have Hs:=LH hs;have HN:=LH hN;have bp:=LH dm;have HT:=LH hT;have HO:=LH hO;have HP:=LH hP;clear hs hN hl dm hT hO hP C0;go_enter func92,ntmps92;go_upto_region 1 with fail;have dj:Off k.maps a (a.alloc (.cells #[.slice none 0 0,.bool false] 77)):=Off.of_below b4;generalize a.alloc (.cells #[.slice none 0 0,.bool false] 77)=W1 at *;have au:=LH df;have a9:=LH aj;have a8:=LH dj;have l1:=aj.lt;have c0:W1.cell? ⟨a.heap.size,0,none⟩=some (.slice none 0 0):=aj.cell 0;have c1:W1.cell? ⟨a.heap.size,1,none⟩=some (.bool false):=aj.cell 1;have f0:=aj.frozen 0;have f1:=aj.frozen 1;clear df aj dj b4;cases l with
 | nil =>
   by_cases ca:n=0
   case pos =>
    subst ca;have Hf:Hid (Zx (Zv G) [] 0=1):=LH rfl;have CO:Calls prog 153 #[.int .u64 1] W1 (Bq W1 (limbs 1)):=nat_of 1 W1 AA;go_wp2_with fail;(with_reducible refine CO.mono ?_);rintro e Z⟨I,c3,rfl,bf,J⟩;have a3:limbs 1=[1]:=rfl;rw[a3] at bf;simp only[a3,CV] at bf ⊢;have X3:=a9.out.ext J;have C3:=au.out.below J;have O3:=a8.out.maps_trans (Off.of_below J);obtain⟨C4,O4,K4,X4⟩:=C3.store0 X3 (.inr rfl) ar.out I 1 c3;have am:Z1 (Z.setCell ⟨a.heap.size,0,none⟩ (.slice I 1 c3)) I 1 c3 false 1:=by
     unfold Z1;rw[Zw2];exact⟨rfl,bf.kept K4⟩
    have Y:=LH (Zu1 (S':=x) C4 X4 am (O3.maps_new O4 (AI _)) (.inr rfl) ar.out (AI _) λq T => .inl T);have d0:Z.cell? ⟨a.heap.size,0,none⟩=some (.slice none 0 0):=X3.cell 0;have d1:Z.cell? ⟨a.heap.size,1,none⟩=some (.bool false):=X3.cell 1;have g0:=X3.frozen 0;have g1:=X3.frozen 1;have l2:=X3.lt;have e1:((Z.setCell ⟨a.heap.size,0,none⟩ (.slice I 1 c3)).cell? ⟨a.heap.size,0,none⟩)=some (.slice I 1 c3):=X4.cell 0;have e2:((Z.setCell ⟨a.heap.size,0,none⟩ (.slice I 1 c3)).cell? ⟨a.heap.size,1,none⟩)=some (.bool false):=X4.cell 1;have i0:=X4.frozen 0;have i1:=X4.frozen 1;have l4:=X4.lt;clear c0 c1 f0 f1 l1 bf J X3 C3 O3 C4 O4 K4 X4 am CO;go_wp2_with fail;refine AV (By (p:=8) AB _ _ a.heap.size 77 #[.slice I 1 c3,.bool false] (0,0) _ rfl Y.out.1 underlying77 rfl AB) rfl ?_;rw[Hf.out];exact Y.out.2
   case neg =>
    have Hf:Hid (Zx (Zv G) [] n=0):=LH (by unfold Zx;rw[if_neg ca]);have gw:((n:Int)==0)=false:=by rw[AP];omega
    have Y:=LH (Zu1 (S':=x) au.out a9.out (Z1.zero _ _ _ AA) a8.out (.inr rfl) ar.out (AI _) λq T => .inl T);clear ca;go_wp2_with fail;refine AV (By (p:=8) AB _ _ a.heap.size 77 #[.slice none 0 0,.bool false] (0,0) _ rfl Y.out.1 underlying77 rfl AB) rfl ?_;rw[Hf.out];exact Y.out.2
 | cons s f =>
   rw[AW] at *;obtain⟨B,F,s',rfl,b6,cv,q0⟩:=Hl.out.get (j:=0) AA;have fx:s=s':=by have:=cv.out;simpa using this
   subst fx;rw[DJ] at q0;have a3:Za .i64 E (some ⟨B,F,none⟩) 1 t [s]:=Hl.out.take 1 t AA AA AA;have bh:=Hl.out.tail1;rw[Nat.add_sub_cancel] at bh;have gs:((f.length+1:Nat):Int)=(f.length:Int)+1:=AA
   obtain⟨At,b3⟩:∃At:Option Addr,At=(if t=1 then some ⟨B,F,none⟩ else some ⟨B,F+1,none⟩):=⟨_,rfl⟩;have gz:∀w:World,(Instr.sliceAt 27 (.slice (some ⟨B,F,none⟩) (f.length+1) t) (some (.int .i64 1)) none none).run prog w = .ok (.slice At f.length (t-1)) w:=λw=>by
    rw[b3];have gy:¬((f.length:Int)+1<1):=AA
    go_simp
   rw[<-b3] at bh;clear b3;have hz:(((f.length+1:Nat):Int)==0)=false:=by rw[AP];omega
   have gd:Hid (∀b,(x b\/b=a.heap.size)->b<a.heap.size+1):=LH λb y=>by
    rcases y with y | rfl
    ·exact Nat.lt_succ_of_lt (bp.out b y)
    exact Em _
   obtain⟨g,bz⟩:∃g,Hid (g=Uy (Zj G) [s]):=⟨_,LH rfl⟩;obtain⟨z,aw⟩:∃z,Hid (z=Uy (Zj G) f):=⟨_,LH rfl⟩;have gt:g<=1:=by have:=Ztr (Zj G) [s];rw[bz.out];simpa using this
   have gu:z<=f.length:=by rw[aw.out];exact Ztr _ _
   have ck:Hid (∀X,Yo E k h G (λb=>x b\/b=a.heap.size) X->Calls prog 154 #[.pointer (some ⟨k.c,0,none⟩),.slice (some ⟨B,F,none⟩) 1 t] X λe w'=>e = .returned (.int .i64 (g:Int))/\X=w'):=LH λX C=>by
    rw[bz.out];exact Zta _ t 1 [s] X C (a3.below C.base) HN.out (λq T=>Hs.out q (by rw[BV.1 T];exact AX ..)) h2 AA
   have bm:Hid (∀X,Yo E k h G (λb=>x b\/b=a.heap.size) X->Calls prog 154 #[.pointer (some ⟨k.c,0,none⟩),.slice At f.length (t-1)] X λe w'=>e = .returned (.int .i64 (z:Int))/\X=w'):=LH λX C=>by
    rw[aw.out];exact Zta _ (t-1) f.length f X C (bh.below C.base) HN.out (λq T=>Hs.out q (BO _ T)) h2 AA
   have fo:Hid (∀X,Yo E k h G (λb=>x b\/b=a.heap.size) X->B<X.heap.size/\X.cell? ⟨B,F,none⟩=some (.int .i64 s)):=LH λX C=>⟨AJ b6 C.base.size,(C.base.cell (p:=⟨B,F,none⟩) b6).trans q0⟩;have fp:Hid (Jt (Zv G) s f n g (n+1-z-g)=Zx (Zv G) (s::f) n):=LH (by
    rw[bz.out,aw.out];exact splitN_all (λs hs=>Jw HP.out hs) s f n)
   have fh:Hid (∀i,i+z<=n->Zw5 E k h G s i):=LH λi hi=>HT.out s f rfl i (by rw[<-aw.out];exact hi);have fc:Hid (∀i,i+z<=n->Zv G s i≠0->OthC E k h G a gf ay (n-i) (Zx (Zv G) f (n-i))):=LH λi hi hx=>HO.out s f rfl i (by rw[<-aw.out];exact hi) hx;clear HT HO a3 bh q0 b6 cv Hl;go_wp2_with (go_at_call 154;(with_reducible refine (ck.out W1 au.out).mono ?_);rintro e Z⟨rfl,rfl⟩);go_loopw [9] (λi wr=>∃(d:Nat) (L:Option Addr) (ns cs:Nat) (N:Bool),i = .int .i64 ((g+d:Nat):Int)/\d<=n+1-z-g/\Hid (Yo E k h G (λb=>x b\/b=a.heap.size) wr)/\Hid (Off k.maps a wr)/\Hid (Blk wr a.heap.size 77 #[.slice L ns cs,.bool N])/\Hid (Z1 wr L ns cs N (Jt (Zv G) s f n g d))) (λi _=>n+3-(intOf i).toNat)
   case atStart=>exact⟨0,none,0,0,false,AF,AU _,au,a8,a9,LH (Z1.zero _ _ _ AA)⟩
   clear c0 c1 f0 f1 l1 au a8 a9;obtain⟨d,L,ns,cs,N,rfl,hd,V,HO,S,HV⟩:=hrel;obtain⟨qb,qc⟩:=fo.out wr V.out;have xl:=S.out.lt;have x0:wr.cell? ⟨a.heap.size,0,none⟩=some (.slice L ns cs):=S.out.cell 0;have x1:wr.cell? ⟨a.heap.size,1,none⟩=some (.bool N):=S.out.cell 1;have da:=S.out.frozen 0;have db:=S.out.frozen 1;have fy:IntKind.i64.wrap ((n:Int)-(z:Int))=(n:Int)-(z:Int):=BT _ AA;by_cases dr:g+d+z<=n
   case neg =>
    obtain rfl:d=n+1-z-g:=AA
    have dt:¬(((g+(n+1-z-g):Nat):Int)<=(n:Int)-(z:Int)):=AA
    have Y:=LH (Zu1 (S':=x) V.out S.out HV.out HO.out (.inr rfl) ar.out (AI _) λq T => .inl T);go_wp2_with (go_at_call 154;(with_reducible refine (bm.out wr V.out).mono ?_);rintro e Z⟨rfl,rfl⟩);refine AV (By (p:=8) AB _ _ a.heap.size 77 #[.slice L ns cs,.bool N] (0,0) _ rfl Y.out.1 underlying77 rfl AB) rfl ?_;rw[<-fp.out];exact Y.out.2
   have dt:((g+d:Nat):Int)<=(n:Int)-(z:Int):=AA
   have dn:∀b,(x b\/b=a.heap.size)->b<wr.heap.size:=λb y=>by
    rcases y with y | rfl
    ·exact AJ (bp.out b y) HO.out.size
    exact xl
   have CT:=LH (fh.out (g+d) dr (λb=>x b\/b=a.heap.size) wr V.out dn);have du:=Gm (Zv G) s f n g d;have fd:=LH (fc.out (g+d) dr);clear dn;generalize dy:Zv G s (g+d)=xv at *;generalize Zx (Zv G) f (n-(g+d))=fv at *;have b7:((g+d:Nat):Int)=(g:Int)+(d:Int):=AA
   rw[b7] at CT;have ge:=LH b7;clear b7;have gg:=LH dy;have ct:=LH du;clear dy du;go_wp2_with (go_at_call 154;(with_reducible refine (bm.out wr V.out).mono ?_);rintro e Z⟨rfl,rfl⟩);clear x0 x1 da db xl qb qc dt fy ck bm;(with_reducible refine CT.out.mono ?_);rintro e w2⟨dg,bg,M,R,O,P,rfl,dv⟩;have ds:=V.out.keep bg;have b5:=bg.blk S.out (V.out.not_map S.out);have dq:=HV.out.kept ds;have J:=Zy w2 (.cells #[.slice M R O,.bool P] 77);have a2:=Blk.new w2 77 #[.slice M R O,.bool P];have bn:=LH (dg.below J);have bo:=LH ((HO.out.maps_trans bg).maps_trans (Off.of_below J));have bw:=LH (b5.ext J);have bt:=LH (dq.below J);have bv:=LH (dv.below J);have gq:a.heap.size<w2.heap.size:=b5.lt;have CN:=λX hX=>Ztk M R O P xv X hX;go_upto_region 9 with fail;generalize w2.alloc (.cells #[.slice M R O,.bool P] 77)=w3 at *;generalize w2.heap.size=gx at *;have cn:=LH a2;have g0:w3.cell? ⟨gx,0,none⟩=some (.slice M R O):=a2.cell 0;have g1:w3.cell? ⟨gx,1,none⟩=some (.bool P):=a2.cell 1;have gl:=a2.lt;clear dg bg dv ds b5 dq J a2 V HO S HV;have ap:=LH (CN w3 bv.out);clear CN;by_cases an:xv=0
   case pos =>
    have b8:decide (xv=0)=true:=DY an;have fn:Hid (Jt (Zv G) s f n g (d+1)=Jt (Zv G) s f n g d):=LH (by rw[ct.out,an,Nat.zero_mul,DJ]);rw[b8] at ap;clear an;go_wp2_with (go_at_call 156;(with_reducible refine ap.out.mono ?_);rintro e w4⟨rfl,H⟩);have W:=LH (bn.out.below H);have av:=LH (bo.out.maps_trans (Off.of_below H));have af:=LH (bw.out.ext H);have bu:=LH (bt.out.below H);go_roundw
    case rel=>exact⟨d+1,L,ns,cs,N,AF,AA,W,av,af,by rw[fn.out];exact bu⟩
    simp[intOf];omega
   have b8:decide (xv=0)=false:=BR an;have ff:=LH (fd.out an);rw[b8] at ap;clear an;go_upto_region 10 with (go_at_call 156;(with_reducible refine ap.out.mono ?_);rintro e w4⟨rfl,H⟩);have W:=LH (bn.out.below H);have av:=LH (bo.out.maps_trans (Off.of_below H));have af:=LH (bw.out.ext H);have bu:=LH (bt.out.below H);have co:=LH (cn.out.ext H);have fj:=LH (bv.out.below H);clear bn bo bw bt cn bv H g0 g1 gl ap;have fl:Hid (((n-(g+d):Nat):Int)=(n:Int)-((g:Int)+(d:Int))):=LH AA;have g5:IntKind.i64.wrap ((n:Int)-((g:Int)+(d:Int)))=(n:Int)-((g:Int)+(d:Int)):=BT _ AA;refine Xh (λX=>MidC E k h G (λb=>x b\/b=a.heap.size) w4 X) (λX X'=>Zf X X') (λu=>(⟨(Value.pointer (some ⟨k.c,0,none⟩)::Value.slice (some ⟨B,F,none⟩) (f.length+1) t::Value.int IntKind.i64 (n:Int)::Value.func (Fn.func gf) #[] ay::undef::undef::undef::undef::Value.pointer (some ⟨a.heap.size,0,none⟩)::Value.int IntKind.i64 ((g:Int)+(d:Int))::Value.pointer (some ⟨gx,0,none⟩)::Value.slice (some ⟨B,F,none⟩) (f.length+1) t::Value.int IntKind.i64 ((f.length:Int)+1)::Value.bool false::undef::undef::undef::undef::undef::Value.pointer (some ⟨k.c,0,none⟩)::Value.slice (some ⟨B,F,none⟩) (f.length+1) t::Value.slice (some ⟨B,F,none⟩) 1 t::Value.int IntKind.i64 (g:Int)::Value.int IntKind.i64 ((g:Int)+(d:Int))::Value.int IntKind.i64 (n:Int)::Value.pointer (some ⟨k.c,0,none⟩)::Value.slice (some ⟨B,F,none⟩) (f.length+1) t::Value.slice At f.length (t-1)::Value.int IntKind.i64 (z:Int)::Value.int IntKind.i64 ((n:Int)-(z:Int))::Value.bool true::u31::u32::Value.pointer (some ⟨k.c,0,none⟩)::Value.slice (some ⟨B,F,none⟩) (f.length+1) t::Value.pointer (some ⟨B,F,none⟩)::Value.int IntKind.i64 s::Value.int IntKind.i64 ((g:Int)+(d:Int))::Value.agg #[Value.slice M R O,Value.bool P]::Value.agg #[Value.slice M R O,Value.bool P]::Value.bool false::Value.bool true::u 0::u 1::u 2::u 3::u 4::u 5::u 6::u 7::u 8::undef::[]).toArray,[]⟩:Act)) [u42,u43,u44,u45,u46,u47,u48,u49,u50] [λv X=>v=Value.agg #[Value.slice L ns cs,Value.bool N],λv X=>v=Value.agg #[Value.slice M R O,Value.bool P],λv X=>v=Value.func (Fn.func gf) #[] ay,λv X=>v=Value.int .i64 (n:Int),λv X=>v=Value.int .i64 ((g:Int)+(d:Int)),λv X=>v=Value.int .i64 ((n:Int)-((g:Int)+(d:Int))),λv X=>∃U nq cq bq,v=Value.agg #[Value.slice U nq cq,Value.bool bq]/\Z1 X U nq cq bq (fv),λv X=>∃U nq cq bq,v=Value.agg #[Value.slice U nq cq,Value.bool bq]/\Z1 X U nq cq bq (xv*fv),λv X=>∃U nq cq bq,v=Value.agg #[Value.slice U nq cq,Value.bool bq]/\Z1 X U nq cq bq (Jt (Zv G) s f n g d+xv*fv)] (λu X=>∃A9 n9 c9 d9,Yo E k h G (λb=>x b\/b=a.heap.size) X/\Off k.maps a X/\Blk X a.heap.size 77 #[Value.slice A9 n9 c9,Value.bool d9]/\Z1 X A9 n9 c9 d9 (Jt (Zv G) s f n g d+xv*fv)) (l:=[_,_,_,_,_,_,_,_,_]) AB AB AB rfl rfl ⟨W.out.below (AK _ _).drew,Off.of_below (AK _ _).drew⟩ ⟨λ_ _ _ h _=>h,λ_ _ _ h _=>h,λ_ _ _ h _=>h,λ_ _ _ h _=>h,λ_ _ _ h _=>h,λ_ _ _ h _=>h,(λ_ _ _ ⟨A,n,c,b,e,h⟩ y=>⟨A,n,c,b,e,h.kept y⟩),(λ_ _ _ ⟨A,n,c,b,e,h⟩ y=>⟨A,n,c,b,e,h.kept y⟩),(λ_ _ _ ⟨A,n,c,b,e,h⟩ y=>⟨A,n,c,b,e,h.kept y⟩),trivial⟩ ?_ ?_ ?_
   ·refine Zk.cons rfl (λ_ _=>rfl) (λQ u X m o KK r=>?_) ?_
    ·have D:=m.2.blk af.out (W.out.not_map af.out);have c5:X.cell? ⟨a.heap.size,0,none⟩=some (.slice L ns cs):=D.cell 0;have c6:X.cell? ⟨a.heap.size,1,none⟩=some (.bool N):=D.cell 1;have dw:=D.lt;go_simp;exact r _ _ m ⟨AI _,λ_ _ _=>rfl⟩ rfl
    refine Zk.cons rfl (λ_ _=>rfl) (λQ u X m o KK r=>?_) ?_
    ·have D:=m.2.blk co.out (W.out.not_map co.out);have c5:X.cell? ⟨gx,0,none⟩=some (.slice M R O):=D.cell 0;have c6:X.cell? ⟨gx,1,none⟩=some (.bool P):=D.cell 1;have dw:=D.lt;go_simp;exact r _ _ m ⟨AI _,λ_ _ _=>rfl⟩ rfl
    iterate 3
     refine Zk.cons rfl (λ_ _=>rfl) (λQ u X m o KK r=>?_) ?_
     ·go_simp;exact r _ _ m ⟨AI _,λ_ _ _=>rfl⟩ rfl
    refine Zk.cons rfl (λ_ _=>rfl) (λQ u X m o KK r=>?_) ?_
    ·have p3:u 3=_:=o 3 rfl;have p4:u 4=_:=o 4 rfl;clear o;generalize u 3=x3 at *;subst p3;generalize u 4=x4 at *;subst p4;go_simp;exact r _ _ m ⟨AI _,λ_ _ _=>rfl⟩ rfl
    refine Zk.cons rfl (λ_ _=>rfl) (λQ u X m o KK r=>?_) ?_
    ·have p2:u 2=_:=o 2 rfl;have p5:u 5=_:=o 5 rfl;clear o;generalize u 2=x2 at *;subst p2;generalize u 5=x5 at *;subst p5;have ft:∀b,(x b\/b=a.heap.size)->b<X.heap.size:=λb y=>by
      rcases y with y | rfl
      ·exact AJ (bp.out b y) (BC av.out.size m.2.size)
      exact AJ af.out.lt m.2.size
     have CO:=ff.out (λb=>x b\/b=a.heap.size) X m.1 ft (av.out.maps_trans m.2);rw[fl.out] at CO;go_simp;(with_reducible refine CO.mono ?_);rintro e w5⟨fs,dk,A2,m2,c2,d2,rfl,cb⟩;go_simp;exact r _ _ (⟨fs,m.2.maps_trans dk⟩) (m.1.keep dk) ⟨A2,m2,c2,d2,rfl,cb⟩
    refine Zk.cons rfl (λ_ _=>rfl) (λQ u X m o KK r=>?_) ?_
    ·have p1:u 1=_:=o 1 rfl;obtain⟨A2,m2,c2,d2,p6,cb⟩:=o 6 rfl;clear o;generalize u 1=x1 at *;subst p1;generalize u 6=x6 at *;subst p6;have cd:=fj.out.kept (W.out.keep m.2);go_simp;(with_reducible refine (tr_times M R O P _ A2 m2 c2 d2 _ X cd cb).mono ?_);rintro e w5⟨ai,I,m3,c3,d3,rfl,cc⟩;go_simp;exact r _ _ (⟨m.1.below ai,m.2.maps_trans (Off.of_below ai)⟩) (Zf.of_below ai) ⟨I,m3,c3,d3,rfl,cc⟩
    refine Zk.cons rfl (λ_ _=>rfl) (λQ u X m o KK r=>?_) ?_
    ·have p0:u 0=_:=o 0 rfl;obtain⟨I,m3,c3,d3,p7,cc⟩:=o 7 rfl;clear o;generalize u 0=x0 at *;subst p0;generalize u 7=x7 at *;subst p7;have cd:=bu.out.kept (W.out.keep m.2);go_simp;(with_reducible refine (Zu2 L ns cs N _ I m3 c3 d3 _ X cd cc).mono ?_);rintro e w5⟨ai,A4,m4,c4,d4,rfl,am⟩;go_simp;exact r _ _ (⟨m.1.below ai,m.2.maps_trans (Off.of_below ai)⟩) (Zf.of_below ai) ⟨A4,m4,c4,d4,rfl,am⟩
    exact Zk.nil
   ·intro Q u X m o KK r;obtain⟨A4,m4,c4,d4,p8,am⟩:=o 8 AC;clear o;generalize u 8=x8 at *;subst p8;have D:=m.2.blk af.out (W.out.not_map af.out);have c5:X.cell? ⟨a.heap.size,0,none⟩=some (.slice L ns cs):=D.cell 0;have c6:X.cell? ⟨a.heap.size,1,none⟩=some (.bool N):=D.cell 1;have dw:=D.lt;have da:=D.frozen 0;have db:=D.frozen 1;have a4:=m.1.store D (.inr rfl) ar.out A4 m4 c4 d4;have fm:=LH (And.intro a4.1 (And.intro ((av.out.maps_trans m.2).maps_new a4.2.1 (AI _)) (And.intro a4.2.2.2 (am.kept a4.2.2.1))));clear a4 D;go_simp;exact r (λi=>([u 0,u 1,u 2,u 3,u 4,u 5,u 6,u 7,Value.agg #[Value.slice A4 m4 c4,Value.bool d4]]:List Value).getD i undef) _ (⟨A4,m4,c4,d4,fm.out⟩)
   intro u W9 fw;obtain⟨A9,n9,c9,d9,g1,g2,g3,g4⟩:=fw;have fb:=LH g1;have fe:=LH g2;have fk:=LH g3;rw[<-ct.out] at g4;have fi:=LH g4;clear g1 g2 g3 g4;go_wp2_with fail;go_roundw
   case rel=>exact⟨d+1,A9,n9,c9,d9,AF,AA,fb,fe,fk,fi⟩
   simp[intOf];omega
theorem Uw{a:World}(C:Yo a k h G S w){A0:Option Addr}{n0 c0:Nat}{b0:Bool}(r:Blk w g 77 #[.slice A0 n0 c0,.bool b0])(p:Z1 w A n c b x)(m:Off k.maps d w)(o:S g)(t:a.heap.size<=g)(s:d.heap.size<=g)(u:∀q,S' q->S q):
 Blk ((w.setCell ⟨g,0,none⟩ (.slice A n c)).setCell ⟨g,1,none⟩ (.bool b)) g 77 #[.slice A n c,.bool b] /\
  CRet a k h G S' d x (.returned (.agg #[.slice A n c,.bool b])) ((w.setCell ⟨g,0,none⟩ (.slice A n c)).setCell ⟨g,1,none⟩ (.bool b)):=by
 obtain⟨h1,f,j,l⟩:=C.store r o t A n c b;exact⟨l,h1.less u,m.maps_new f s,A,n,c,b,rfl,p.kept j⟩
theorem Jc.apart{N:Nat}{b:List Nat}(h:Jc w B A n c N b tab){m:Nat}(f:b[m]? = some g):(Value.slice A n c).ownBlock≠some g:=by
 intro d;obtain⟨cs,k,h1⟩:=Mg h.own d;obtain⟨j,a,_⟩:=(h.row m g f).2;unfold Blk at a;rw[h1] at a;injection a with a;injection a with _ h3 _;exact absurd h3 AC
theorem Jc.put{N:Nat}{s:List Nat}(h:Jc w B A n c N s tab){m i:Nat}(l:s[m]? = some g)(hi:i<N){n1 c1:Nat}{d:Bool}(J:Z1 w a n1 c1 d x):
 Jc ((w.setCell ⟨g,i*2,none⟩ (.slice a n1 c1)).setCell ⟨g,i*2+1,none⟩ (.bool d)) B A n c N s (U6 tab m i x)/\Off (λk=>k=g) w ((w.setCell ⟨g,i*2,none⟩ (.slice a n1 c1)).setCell ⟨g,i*2+1,none⟩ (.bool d)):=by
 have p:Off (λk=>k=g) w ((w.setCell ⟨g,i*2,none⟩ (.slice a n1 c1)).setCell ⟨g,i*2+1,none⟩ (.bool d)):=(Off.of_set w g (i*2) (.slice a n1 c1)).trans (Off.of_set _ g (i*2+1) (.bool d)) λ_ _ h=>h;have C:=h.apart l;obtain⟨y,H⟩:=h.row m g l;obtain⟨I,F⟩:=H.put (j:=i) (by simpa using hi) J;have h1:∀b,(Value.slice A n c).ownBlock=some b->¬b=g:=λb D e=>C (by rw[D,e]);refine⟨⟨p.row h.own h1,λq u=>(h.noInt q u).same (p.keep q (h.own.lt q u).2 (h1 q u)),h.nodup,λr f o=>?_⟩,p⟩;by_cases t:r=m
 ·subst t;obtain rfl:g=f:=by rw[l] at o;exact BI o
  exact⟨y,by rw[<-tab_set hi];exact I⟩
 have G:f≠g:=nodup_ne h.nodup l o t;obtain⟨z,v⟩:=h.row r f o;have e:(List.range N).map (U6 tab m i x r)=(List.range N).map (tab r):=List.map_congr_left λj _=>by unfold U6;rw[if_neg λE=>t E.1]
 rw[e];exact⟨z,v.kept F (p.keep f v.lt G)⟩
theorem Jc.snoc{k:Option Addr}{l N:Nat}{j:List Nat}(h:Jc w B A n c N j tab)(C:w'.ownsRow B 89 1 (.slice k (n+1) l) (n+1) ((j.map λg=>Value.slice (some ⟨g,0,none⟩) N N)++[Value.slice (some ⟨g,0,none⟩) N N]))(v:w.grownBy w' (Value.slice A n c).ownBlock)(z:∀b,(Value.slice k (n+1) l).ownBlock=some b->Qf w' b)(p:Vp w g 46 ((List.range N).map (tab n)))(s:B<=g)(y:g∉j):Jc w' B k (n+1) l N (j++[g]) tab:=by
 have o:=Off.of_grown v;have r:Zf w w':=Zf.of_off o λq f=>h.noInt q f;have x:=h.len;refine⟨by rw[DI];exact C,z,?_,λm q f=>?_⟩
 ·rw[List.nodup_append];exact⟨h.nodup,AE,λa t b u e=>y (by rw[<-BV.1 u,<-e];exact t)⟩
 rcases H4 f with ⟨F,f⟩ | ⟨rfl,rfl⟩
 ·obtain⟨h1,d⟩:=h.row m q f;exact⟨h1,d.kept r (o.keep q d.lt λe=>h.apart f e)⟩
 refine⟨s,?_⟩;rw[x];refine p.kept r (o.keep g p.lt λe=>?_);obtain⟨cs,E,h1⟩:=Mg h.own e;obtain⟨D,d,_⟩:=p;unfold Blk at d;rw[h1] at d;injection d with d;injection d with _ h3 _;exact absurd h3 AC
theorem Zz5.snoc{g:Option Addr}{k:Nat}(h:Zz5 w B A n c f p){d:Nat}(C:Zq .u32 w a xs.length d xs)(y:w'.ownsRow B 31 1 (.slice g (n+1) k) (n+1) (f++[Value.slice a xs.length d]))(u:w.grownBy w' (Value.slice A n c).ownBlock)(x:∀b,(Value.slice g (n+1) k).ownBlock=some b->Qf w' b):
 Zz5 w' B g (n+1) k (f++[Value.slice a xs.length d]) (p++[xs]):=by
 have o:Zf w w':=Zf.of_off (Off.of_grown u) λq z=>h.noInt q z;have m:f.length=n:=by have:=h.own.1;simpa using this
 refine⟨y,x,by rw[AS,h.len];rfl,λj ys l=>?_⟩;rcases H4 l with ⟨v,l⟩ | ⟨rfl,rfl⟩
 ·obtain⟨r,s,h1,t⟩:=h.row j ys l;exact⟨r,s,by rw[DL (by rw[m,<-h.len];exact v)];exact h1,t.kept o⟩
 exact⟨a,d,by rw[BX (by rw[m,h.len];exact AI _),m,h.len,Nat.sub_self];rfl,C.kept o⟩
theorem Ztm(d:Option Addr)(c1 a:Nat)(f:Option Addr)(c2 b:Nat)(w:World)(h1:Zq .u32 w d (limbs a).length c1 (limbs a))(g:Zq .u32 w f (limbs b).length c2 (limbs b))(k:a+b<big):
 Calls prog 124 #[.slice d (limbs a).length c1,.slice f (limbs b).length c2] w λe w'=>∃A c,e = .returned (.slice A (limbs (a+b)).length c)/\Zq .u32 w' A (limbs (a+b)).length c (limbs (a+b))/\Below w w w':=by
 have CA:=nat_add d _ c1 (limbs a) f _ c2 (limbs b) w h1 g (Z9 _) (Z9 _);rw[Nz a b AA AA,Km k] at CA;have CA:=LH CA;clear h1 g;go_enter func124,ntmps124;go_wp2_with (first
  | (go_at_call 178
     (with_reducible refine CA.out.mono ?_);rintro e n⟨h,j,rfl,m,l⟩))
 go_ret;exact⟨h,j,rfl,m,l⟩
section
open Ieee
theorem Wr.putW{w0 w1:World}{p:Nat}{l:Option Addr}{cr m r:Nat}{a:WSt}(k:Wr w0 w p h t Ar cr l m q r a)(s:Int)(c:Option Addr)(d:Nat)(y:w1.ownsRow (p+1) 3 1 (.slice c (a.word.length+1) d) (a.word.length+1) (ints .i64 a.word++[.int .i64 s]))(f:w.grownBy w1 (Value.slice l a.word.length m).ownBlock)(u:∀b,(Value.slice c (a.word.length+1) d).ownBlock=some b->b<w.heap.size->(Value.slice l a.word.length m).ownBlock=some b):
 Wr w0 (w1.setCell ⟨p,5,none⟩ (.slice c (a.word.length+1) d)) p h t Ar cr c d q r { a with word:=a.word++[s] }/\Below p w (w1.setCell ⟨p,5,none⟩ (.slice c (a.word.length+1) d)):=by
 have o:∀b,b≠p->(w1.setCell ⟨p,5,none⟩ (.slice c (a.word.length+1) d)).heap[b]? = w1.heap[b]? := λb g=>Eb w1 ⟨p,5,none⟩ _ b g;have n:(a.word++[s]).length=a.word.length+1:=AE
 have z:=f.size;refine⟨⟨?_,k.rest,?_,?_,?_⟩,?_⟩
 ·have v:=k.blk.grown f λe=>by have:=(k.word.lt p e.symm).1;omega
  have:=v.set 5 (.slice c (a.word.length+1) d);rw[n];exact this
 ·rw[n,Zzm];exact Yq y λb g _ _=>o b AA
 ·exact Yq k.posts λb g j x=>(o b AA).trans (f.block b x λe=>k.apart b e.symm j)
 ·rw[n];intro b h1 j;exact k.apart b (u b h1 (k.posts.lt b j).2) j
 refine⟨f.os,f.tape,f.output,by simpa using z,λb g=>(o b AA).trans (f.block b (Nat.lt_trans g k.lt) λe=>?_)⟩;have:=(k.word.lt b e.symm).1;omega
theorem Wr.putP{w0 w1:World}{p:Nat}{j:Option Addr}{cr r l:Nat}{a:WSt}(k:Wr w0 w p h t Ar cr q r j l a)(s:Int)(c:Option Addr)(d:Nat)(y:w1.ownsRow (p+1) 3 1 (.slice c (a.posts.length+1) d) (a.posts.length+1) (ints .i64 a.posts++[.int .i64 s]))(f:w.grownBy w1 (Value.slice j a.posts.length l).ownBlock)(u:∀b,(Value.slice c (a.posts.length+1) d).ownBlock=some b->b<w.heap.size->(Value.slice j a.posts.length l).ownBlock=some b):
 Wr w0 (w1.setCell ⟨p,6,none⟩ (.slice c (a.posts.length+1) d)) p h t Ar cr q r c d { a with posts:=a.posts++[s] }/\Below p w (w1.setCell ⟨p,6,none⟩ (.slice c (a.posts.length+1) d)):=by
 have o:∀b,b≠p->(w1.setCell ⟨p,6,none⟩ (.slice c (a.posts.length+1) d)).heap[b]? = w1.heap[b]? := λb g=>Eb w1 ⟨p,6,none⟩ _ b g;have n:(a.posts++[s]).length=a.posts.length+1:=AE
 have z:=f.size;refine⟨⟨?_,k.rest,?_,?_,?_⟩,?_⟩
 ·have v:=k.blk.grown f λe=>by have:=(k.posts.lt p e.symm).1;omega
  have:=v.set 6 (.slice c (a.posts.length+1) d);rw[n];exact this
 ·exact Yq k.word λb g m x=>(o b AA).trans (f.block b x λe=>k.apart b m e.symm)
 ·rw[n,Zzm];exact Yq y λb g _ _=>o b AA
 ·rw[n];intro b h1 m;exact k.apart b h1 (u b m (k.word.lt b h1).2)
 refine⟨f.os,f.tape,f.output,by simpa using z,λb g=>(o b AA).trans (f.block b (Nat.lt_trans g k.lt) λe=>?_)⟩;have:=(k.posts.lt b e.symm).1;omega
end
end Go.Proofs.YtggbjdmpjidhgaaGreatDoor
