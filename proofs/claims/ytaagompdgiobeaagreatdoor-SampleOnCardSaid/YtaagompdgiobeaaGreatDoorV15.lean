/- counts: the reference's table, as it lies in memory; one; a symbol's trees; what is told. -/
import Derived.Test.YtaagompdgiobeaaGreatDoorV11
import Derived.Test.YtaagompdgiobeaaGreatDoorV12
import Derived.Test.YtaagompdgiobeaaGreatDoorV13
set_option linter.all false
set_option maxHeartbeats 1500000
set_option maxRecDepth 100000
namespace Go.Proofs.YtaagompdgiobeaaGreatDoor
open Go.RowKit Go.Proofs.Tryz
variable{S:Nat->Prop}{g n x B:Nat}{t:TypeId}{cs:Array Value}{d a:World}{o m A At:Option Addr}{ts:List ((Int × Nat) × Nat)}{c:List ((Nat × Nat × Nat) × Nat)}{tab:Nat->Nat->Nat}
theorem nat_mul_ok(t:Option Addr)(n c1:Nat)(xs:List Nat)(u:Option Addr)(m c2:Nat)(ys:List Nat)(w:World)(h1:Zq .u32 w t n c1 xs)(r:Zq .u32 w u m c2 ys)(lx:Lim xs)(M:Lim ys)(N:Zm xs=true)(O:Zm ys=true):
 Calls prog 209 #[.slice t n c1,.slice u m c2] w (Xr w (N9 xs ys)):=by
 obtain rfl:=h1.len;obtain rfl:=r.len;have a0:xs.length<=32:=by simp[Zm] at N;omega
 have ay:ys.length<=32:=by simp[Zm] at O;omega
 have H:=Wm (P:=prog) 44 41 .u32 4 underlying44 Tryz.info34 (xs.length+ys.length) AA AA;have az:∀w:World,(Instr.makeSlice 44 (.int .i64 ((xs.length:Int)+(ys.length:Int))) (.int .i64 ((xs.length:Int)+(ys.length:Int)))).run prog w = .ok (.slice (some ⟨w,0,none⟩) (xs.length+ys.length) (xs.length+ys.length)) (w.alloc (.cells (nums .u32 (List.replicate (xs.length+ys.length) 0)).toArray 41)):=H;clear H;have G:N9 xs ys=Xm (val xs*val ys):=by simp[N9,N,O]
 rw[G];clear G;go_enter func209,ntmps209;go_wp2_with (first
  | (go_at_call 42;(with_reducible refine (Zb _ _ _ _ _ h1).mono ?_);rintro e w'⟨rfl,rfl⟩)
  | (go_at_call 42;(with_reducible refine (Zb _ _ _ _ _ r).mono ?_);rintro e w'⟨rfl,rfl⟩))
 go_loopw [29] (MulRel w xs ys) (λi _=>xs.length-(intOf i).toNat)
 case atStart =>
  refine⟨0,List.replicate (xs.length+ys.length) 0,AS _,rfl,AE,?_,?_,?_,Own.new _ _ _ _,(AL _ _).alloc (AJ _) _⟩
  ·intro y hy;have:=List.eq_of_mem_replicate hy;omega
  ·have:=Ns (List.replicate (xs.length+ys.length) 0) 0 (λi _=>by simp[List.getElem?_replicate];split <;> rfl);simpa [val] using this
  intro j _;simp[List.getElem?_replicate];split <;> rfl
 obtain⟨i,a,hi,rfl,D,g,E,F,b,f⟩:=hrel;have d:=LH D;have B:=LH E;have S:=LH F;clear D E F;by_cases ah:i<xs.length
 ·obtain⟨b1,o1,x,rfl,au,Hx,ad⟩:=(h1.below f).get (j:=i) ah;have L:=lx.of_get Hx.out;go_wp2;obtain⟨R,rfl⟩:∃R:World,R=wr:=⟨_,rfl⟩;go_loopw [9,36] (MulRel2 w x ys a i) (λ_ q _=>ys.length-(intOf q).toNat)
  case atStart=>exact⟨0,AS _,rfl,rfl,by rw[Zz7];exact b,f⟩
  clear b f ad;obtain⟨k,hk,rfl,rfl,b,f⟩:=hrel;have ae:=Zy8 x ys (a.drop i) L M (g.drop _) k;by_cases ai:k<ys.length
  ·obtain⟨b2,o2,y,rfl,av,o,aw⟩:=(r.below f).get (j:=k) ai;have am:=M.of_get o.out;have l:=LH (Nq x ys a i k (by rw[d.out];omega));obtain⟨z,C,af⟩:=b.cell (i:=i+k) (by rw[l.out,d.out];omega);have ag:=b.frozen (i+k);have p:Hid (a[i+k]? = some z):=LH (by rw[<-Zwa x ys a i k (by rw[d.out];omega)];exact C.out);have ao:=g.of_get p.out;have hb:=Ag L am ao ae;have a1:(0:Int)<=(x:Int)*(y:Int):=by rw[<-Int.natCast_mul];omega
   have a2:(x:Int)*(y:Int)+(z:Int)+((Vn x ys (a.drop i) k).2:Int)<18446744073709551616:=by rw[<-Int.natCast_mul];omega
   have U:=LH (Zze x ys a i k (by rw[d.out];omega));clear hb;go_wp2;go_roundw
   case rel =>
    refine⟨k+1,AA,AF,?_,?_,f.setCell AE _⟩
    ·have an:=p.out;simp only[Vn,Yg o.out];rw[show (a.drop i).getD k 0=z from by simp[DY,an]];go_num
    have:=b.set_ (i+k) ((x*y+z+(Vn x ys (a.drop i) k).2) % 4294967296);have J:=U.out;rw[Yg o.out,Yg p.out] at J;rw[J] at this;simpa using this
   simp[intOf];omega
  obtain rfl:k=ys.length:=AA
  have I:=mul_row x ys a i (by rw[d.out];omega) S.out;have T:=LH I;clear I;have l:=LH (Nq x ys a i ys.length (by rw[d.out];omega));obtain⟨z,C,af⟩:=b.cell (i:=i+ys.length) (by rw[l.out,d.out];omega);have ag:=b.frozen (i+ys.length);go_wp2;go_roundw
  case rel =>
   obtain⟨W,X,Y⟩:=T.out;refine⟨i+1,_,AA,AF,?_,?_,?_,Y,?_,f.setCell AE _⟩
   ·rw[X,d.out]
   ·intro v hv;rcases List.mem_or_eq_of_mem_set hv with h | h
    ·exact Zx0 x ys a i ys.length g v h
    omega
   ·rw[W,B.out,Y5,Yg Hx.out,Nat.add_mul,DU]
   have:=b.set_ (i+ys.length) (Vn x ys (a.drop i) ys.length).2;simpa using this
  simp[intOf];omega
 obtain rfl:i=xs.length:=AA
 have s:=B.out;rw[List.take_length] at s;have aj:=b.nums (n:=xs.length+ys.length) (c:=xs.length+ys.length) d.out (AJ _) AA;have V:=LH s;clear s;go_wp2_with (go_at_call 225;(with_reducible refine (Ztv _ _ _ _ _ aj g).mono ?_);rintro e w'⟨A,c,rfl,hN,Z⟩);go_ret2;rw[<-V.out];exact⟨A,c,rfl,hN,Zz f Z⟩
theorem F2(b:Option Addr)(n c1:Nat)(xs:List Nat)(c:Option Addr)(m c2:Nat)(ys:List Nat)(w:World)(h1:Zq .u32 w b n c1 xs)(d:Zq .u32 w c m c2 ys)(h:Lim xs)(j:Lim ys):
 Calls prog 209 #[.slice b n c1,.slice c m c2] w (Xr w (N9 xs ys)):=by
 by_cases f:Zm xs=true
 case neg =>
  have k:Zm xs=false:=by simpa using f
  have a:N9 xs ys=([],1):=by simp[N9,k]
  rw[a];clear a f;go_enter func209,ntmps209;go_wp2_with (first
   | (go_at_call 42;(with_reducible refine (Zb _ _ _ _ _ h1).mono ?_);rintro e w'⟨rfl,rfl⟩)
   | (go_at_call 42;(with_reducible refine (Zb _ _ _ _ _ d).mono ?_);rintro e w'⟨rfl,rfl⟩))
  go_ret2;exact⟨none,0,rfl,Zq.nil _ _ _ _ AE,AL _ _⟩
 by_cases g:Zm ys=true
 case neg =>
  have l:Zm ys=false:=by simpa using g
  have a:N9 xs ys=([],1):=by simp[N9,l]
  rw[a];clear a g;go_enter func209,ntmps209;go_wp2_with (first
   | (go_at_call 42;(with_reducible refine (Zb _ _ _ _ _ h1).mono ?_);rintro e w'⟨rfl,rfl⟩)
   | (go_at_call 42;(with_reducible refine (Zb _ _ _ _ _ d).mono ?_);rintro e w'⟨rfl,rfl⟩))
  go_ret2;exact⟨none,0,rfl,Zq.nil _ _ _ _ AE,AL _ _⟩
 exact nat_mul_ok b n c1 xs c m c2 ys w h1 d h j f g
theorem tr_times(g:Option Addr)(n1 c1:Nat)(b:Bool)(x:Nat)(h:Option Addr)(n2 c2:Nat)(c:Bool)(y:Nat)(w:World)(h1:Z1 w g n1 c1 b x)(h2:Z1 w h n2 c2 c y):
 Calls prog 208 #[.agg #[.slice g n1 c1,.bool b],.agg #[.slice h n2 c2,.bool c]] w (RetV w (x*y)):=by
 have r:=h1.cases;have s:=h2.cases;have H1:=LH h1;have H2:=LH h2;clear h1 h2;obtain⟨hB,E,F,ap⟩:=Zy1 w 154 #[.slice g n1 c1,.bool b] #[.slice h n2 c2,.bool c] #[.slice none 0 0,.bool false];go_enter func208,ntmps208;go_upto_region 1 with fail;generalize ((w.alloc (.cells #[.slice g n1 c1,.bool b] 154)).alloc (.cells #[.slice h n2 c2,.bool c] 154)).alloc (.cells #[.slice none 0 0,.bool false] 154)=W at *;have L:=E.lt;have M:=F.lt;have A:W.cell? ⟨w,0,none⟩=some (.slice g n1 c1):=E.cell 0;have B:W.cell? ⟨w,1,none⟩=some (.bool b):=E.cell 1;have C:W.cell? ⟨w+1,0,none⟩=some (.slice h n2 c2):=F.cell 0;have D:W.cell? ⟨w+1,1,none⟩=some (.bool c):=F.cell 1;have d:=LH E;have f:=LH F;have a:=LH ap;have HB:=LH hB;have C1:=LH (Ztk g n1 c1 b x W (H1.out.below hB));clear E F ap hB;go_wp2_with fail;(with_reducible refine C1.out.mono ?_);rintro e k⟨rfl,G⟩;have N:=LH (Zz HB.out G);have d:=LH (d.out.ext G);have f:=LH (f.out.ext G);have a:=LH (a.out.ext G);clear G C1 HB A B C D L M;have L:=d.out.lt;have M:=f.out.lt;have Y:=a.out.lt;have A:k.cell? ⟨w,0,none⟩=some (.slice g n1 c1):=d.out.cell 0;have B:k.cell? ⟨w,1,none⟩=some (.bool b):=d.out.cell 1;have C:k.cell? ⟨w+1,0,none⟩=some (.slice h n2 c2):=f.out.cell 0;have D:k.cell? ⟨w+1,1,none⟩=some (.bool c):=f.out.cell 1;have O:k.cell? ⟨w+2,0,none⟩=some (.slice none 0 0):=a.out.cell 0;have P:k.cell? ⟨w+2,1,none⟩=some (.bool false):=a.out.cell 1;have S:=a.out.frozen 0;have T:=a.out.frozen 1;by_cases J:x=0
 case pos =>
  subst J;have hd:decide ((0:Nat)=0)=true:=rfl;have j:=LH (Uc a.out N.out (DF _ _) none 0 0 false);clear r s;go_wp2_with fail;refine AW (AX (p:=4) AB _ _ (w.heap.size+2) 154 #[.slice none 0 0,.bool false] (0,0) _ rfl j.out.2.1 underlying154 rfl AB) rfl ?_;exact⟨j.out.1,_,_,_,_,rfl,by rw[Nat.zero_mul];exact Z1.zero _ _ _ AA⟩
 have hd:decide (x=0)=false:=by rw[AZ];exact J
 have C2:=LH (Ztk h n2 c2 c y k (H2.out.below N.out));have a0:=LH J;clear J;rw[hd];go_wp2_with fail;(with_reducible refine C2.out.mono ?_);rintro e l⟨rfl,H⟩;have v:=LH (Zz N.out H);have d:=LH (d.out.ext H);have f:=LH (f.out.ext H);have a:=LH (a.out.ext H);clear H C2 N A B C D L M Y O P S T hd;have L:=d.out.lt;have M:=f.out.lt;have Y:=a.out.lt;have A:l.cell? ⟨w,0,none⟩=some (.slice g n1 c1):=d.out.cell 0;have B:l.cell? ⟨w,1,none⟩=some (.bool b):=d.out.cell 1;have C:l.cell? ⟨w+1,0,none⟩=some (.slice h n2 c2):=f.out.cell 0;have D:l.cell? ⟨w+1,1,none⟩=some (.bool c):=f.out.cell 1;have O:l.cell? ⟨w+2,0,none⟩=some (.slice none 0 0):=a.out.cell 0;have P:l.cell? ⟨w+2,1,none⟩=some (.bool false):=a.out.cell 1;have S:=a.out.frozen 0;have T:=a.out.frozen 1;by_cases X:y=0
 case pos =>
  subst X;have hd:decide ((0:Nat)=0)=true:=rfl;have j:=LH (Uc a.out v.out (DF _ _) none 0 0 false);clear r s;go_wp2_with fail;refine AW (AX (p:=4) AB _ _ (w.heap.size+2) 154 #[.slice none 0 0,.bool false] (0,0) _ rfl j.out.2.1 underlying154 rfl AB) rfl ?_;exact⟨j.out.1,_,_,_,_,rfl,by rw[Nat.mul_zero];exact Z1.zero _ _ _ AA⟩
 have hd:decide (y=0)=false:=by rw[AZ];exact X
 rw[hd];have Z:=LH (Uc a.out v.out (DF _ _) none 0 0 true);by_cases n:b=true\/c=true
 case pos =>
  have Hz:Hid (¬x*y<big):=LH (by
   have a2:x<=x*y:=Nat.le_mul_of_pos_right x AA;have J:=a0.out;have a3:y<=x*y:=Nat.le_mul_of_pos_left y AA;rcases r with ⟨o,e1,_⟩ | ⟨o,e1,_⟩
   ·rcases s with ⟨q,e2,_⟩ | ⟨q,e2,_⟩
    ·rw[e1,e2] at n;simp at n
    omega
   omega)
  clear r s X hd;rcases (by cases b <;> cases c <;> simp at n <;> simp:b=true\/(b=false/\c=true)) with rfl | ⟨rfl,rfl⟩;all_goals
   clear n;go_wp2_with fail;refine AW (AX (p:=4) AB _ _ (w.heap.size+2) 154 #[.slice none 0 0,.bool true] (0,0) _ rfl Z.out.2.1 underlying154 rfl AB) rfl ?_;exact⟨Z.out.1,_,_,_,_,rfl,Z1.over _ Hz.out⟩
 obtain⟨rfl,rfl⟩:b=false/\c=false:=by cases b <;> cases c <;> simp at n <;> simp
 obtain⟨o,ex⟩:x<big/\(Vk x).1=limbs x:=by
  rcases r with ⟨o,_,ex⟩ | ⟨_,e,_⟩
  ·exact⟨o,ex⟩
  cases e
 obtain⟨q,R⟩:y<big/\(Vk y).1=limbs y:=by
  rcases s with ⟨q,_,R⟩ | ⟨_,e,_⟩
  ·exact⟨q,R⟩
  cases e
 have CA:=F2 g n1 c1 (Vk x).1 h n2 c2 (Vk y).1 l (H1.out.2.below v.out) (H2.out.2.below v.out) (Wx x) (Wx y);rw[ex,R,Nw x y o q] at CA;have CA:=LH CA;clear r s n ex R o q Z X hd;go_wp2_with fail;(with_reducible refine CA.out.mono ?_);rintro e W3⟨u,c3,rfl,ae,ad⟩;generalize hp:Xm (x*y)=p at *;obtain⟨t,er⟩:=p;simp only[] at ae;have Hp:=LH hp;have HN:=LH ae;have X3:=a.out.ext ad;have av:=LH (Zz v.out ad);clear A B C D O P S T L M Y hp ae ad CA;go_wp2_with fail;(with_reducible refine (tr_cof u t.length c3 (er:Int) W3).mono ?_);rintro e W4⟨rfl,U⟩;have m:=X3.ext U;have O:W4.cell? ⟨w+2,0,none⟩=some (.slice none 0 0):=m.cell 0;have P:W4.cell? ⟨w+2,1,none⟩=some (.bool false):=m.cell 1;have S:=m.frozen 0;have T:=m.frozen 1;have Y:=m.lt;have ax:=LH (HN.out.below U);obtain⟨z,V⟩:∃z,z=((er:Int)==2):=⟨_,rfl⟩;have j:=LH (Uc m (Zz av.out U) (DF _ _) u t.length c3 z);rw[<-V];have az:Hid (∀(w':World),Zq .u32 w' u t.length c3 t->Z1 w' u t.length c3 z (x*y)):=LH λw' hn=>by
  have I:=Hp.out;unfold Xm at I;unfold Z1 Vk;by_cases hz:x*y<big
  ·rw[if_pos hz] at I ⊢;obtain⟨rfl,rfl⟩:=Prod.mk.inj I;exact⟨by rw[V];rfl,hn⟩
  rw[if_neg hz] at I ⊢;obtain⟨rfl,rfl⟩:=Prod.mk.inj I;exact⟨by rw[V];rfl,hn⟩
 clear X3 m U V;go_wp2_with fail;refine AW (AX (p:=4) AB _ _ (w.heap.size+2) 154 #[.slice u t.length c3,.bool z] (0,0) _ rfl j.out.2.1 underlying154 rfl AB) rfl ?_;exact⟨j.out.1,_,_,_,_,rfl,az.out _ (ax.out.kept j.out.2.2)⟩
section
open Go.Maps (Keyed IsMap Tidy)
theorem nat_add_ge(l:Option Addr)(n c1:Nat)(xs:List Nat)(o:Option Addr)(m c2:Nat)(ys:List Nat)(w:World)(h1:Zq .u32 w l n c1 xs)(g:Zq .u32 w o m c2 ys)(G:Lim xs)(H:Lim ys)(I:Zm xs=true)(X:Zm ys=true)(ah:m<=n):
 Calls prog 224 #[.slice l n c1,.slice o m c2] w (Xr w (Mu xs ys)):=by
 have E:=h1.len;have F:=g.len;have ai:n<=32:=by simp[Zm] at I;omega
 have t:¬(n<m):=AA
 have u:=Wm (P:=prog) 44 41 .u32 4 underlying44 Tryz.info34 (n+1) AA AA;have ag:∀w:World,(Instr.makeSlice 44 (.int .i64 ((n:Int)+1)) (.int .i64 ((n:Int)+1))).run prog w = .ok (.slice (some ⟨w,0,none⟩) (n+1) (n+1)) (w.alloc (.cells (nums .u32 (List.replicate (n+1) 0)).toArray 41)):=u;clear u;have L:=LH E;have p:=LH F;clear E F;go_enter func224,ntmps224;go_wp2_with (first
  | (go_at_call 42;(with_reducible refine (Zb _ _ _ _ _ h1).mono ?_);rintro e w'⟨rfl,rfl⟩)
  | (go_at_call 42;(with_reducible refine (Zb _ _ _ _ _ g).mono ?_);rintro e w'⟨rfl,rfl⟩))
 go_loopw [7,31] (AddRel w xs ys n w) (λ_ i _=>n-(intOf i).toNat)
 case atStart=>exact⟨0,AS _,rfl,rfl,Own.new _ _ _ _,(AL _ _).alloc (AJ _) _⟩
 obtain⟨k,hk,rfl,rfl,a,d⟩:=hrel;have r:=Lg xs ys G H k;have v:=Mq xs ys k;have b:=LH v;clear v;by_cases t:k<n
 ·obtain⟨Y,o1,x,rfl,aa,Hx,ad⟩:=(h1.below d).get (j:=k) t;have C:=G.of_get Hx.out;have T:=a.frozen k;obtain⟨z,N,S⟩:=a.cell (i:=k) (by simp[b.out];omega);by_cases U:k<m
  ·obtain⟨Z,o2,y,rfl,ab,f,ae⟩:=(g.below d).get (j:=k) U;have W:=H.of_get f.out;go_wp2_with (go_at_call 239;(with_reducible refine (Dg x y _ _ C W r).mono ?_);rintro e w'⟨rfl,rfl⟩);go_roundw
   case rel =>
    refine⟨k+1,AA,AF,?_,?_,d.setCell AE _⟩
    ·simp only[V4,Yg Hx.out,Yg f.out];go_num
    have:=a.set_ k ((x+y+(V4 xs ys k).2) % 4294967296);rw[M8 _ k (n+1) _ b.out AA] at this;simpa [V4,Hx.out,f.out] using this
   simp[intOf];omega
  have q:=LH (K8 (xs:=ys) (j:=k) (by have:=p.out;omega));go_wp2_with (go_at_call 239;(with_reducible refine (L5 x _ _ C r).mono ?_);rintro e w'⟨rfl,rfl⟩);go_roundw
  case rel =>
   refine⟨k+1,AA,AF,?_,?_,d.setCell AE _⟩
   ·simp only[V4,Yg Hx.out,q.out];go_num
   have:=a.set_ k ((x+0+(V4 xs ys k).2) % 4294967296);rw[M8 _ k (n+1) _ b.out AA] at this;have D:=q.out;rw[AP] at D;simpa [V4,Hx.out,D] using this
  simp[intOf];omega
 obtain rfl:k=n:=AA
 have T:=a.frozen k;obtain⟨z,N,S⟩:=a.cell (i:=k) (by simp[b.out]);have h:=a.set_ k (V4 xs ys k).2;rw[M8 _ k (k+1) _ b.out AA,Nat.sub_self,List.replicate_zero,DK] at h;have V:=h.nums (n:=k+1) (c:=k+1) (by simp[b.out]) (AJ _) AA;have B:=Zx4 xs ys k (by have:=L.out;omega) (by have:=p.out;omega);have M:=LH B;have s:Mu xs ys=Xm (val xs+val ys):=by simp[Mu,I,X]
 have J:=LH s;clear B s h;go_wp2_with (go_at_call 225;(with_reducible refine (Ztv _ _ _ _ _ V ((Zxn xs ys k).append (Lim.mk AA Lim.nil))).mono ?_);rintro e w'⟨A,c,rfl,R,O⟩);go_ret2;rw[J.out,<-M.out];exact⟨A,c,rfl,R,Zz (d.setCell AE _) O⟩
theorem nat_add_lt(l:Option Addr)(n c1:Nat)(xs:List Nat)(o:Option Addr)(m c2:Nat)(ys:List Nat)(w:World)(h1:Zq .u32 w l n c1 xs)(g:Zq .u32 w o m c2 ys)(G:Lim xs)(H:Lim ys)(I:Zm xs=true)(Y:Zm ys=true)(V:m<n):
 Calls prog 224 #[.slice o m c2,.slice l n c1] w (Xr w (Mu ys xs)):=by
 have E:=h1.len;have F:=g.len;have ai:n<=32:=by simp[Zm] at I;omega
 have t:m<n:=V;have u:=Wm (P:=prog) 44 41 .u32 4 underlying44 Tryz.info34 (n+1) AA AA;have ah:∀w:World,(Instr.makeSlice 44 (.int .i64 ((n:Int)+1)) (.int .i64 ((n:Int)+1))).run prog w = .ok (.slice (some ⟨w,0,none⟩) (n+1) (n+1)) (w.alloc (.cells (nums .u32 (List.replicate (n+1) 0)).toArray 41)):=u;clear u;have L:=LH E;have p:=LH F;clear E F;go_enter func224,ntmps224;go_wp2_with (first
  | (go_at_call 42;(with_reducible refine (Zb _ _ _ _ _ g).mono ?_);rintro e w'⟨rfl,rfl⟩)
  | (go_at_call 42;(with_reducible refine (Zb _ _ _ _ _ h1).mono ?_);rintro e w'⟨rfl,rfl⟩))
 go_loopw [7,31] (AddRel w xs ys n w) (λ_ i _=>n-(intOf i).toNat)
 case atStart=>exact⟨0,AS _,rfl,rfl,Own.new _ _ _ _,(AL _ _).alloc (AJ _) _⟩
 obtain⟨k,hk,rfl,rfl,a,d⟩:=hrel;have r:=Lg xs ys G H k;have v:=Mq xs ys k;have b:=LH v;clear v;by_cases t:k<n
 ·obtain⟨Z,o1,x,rfl,ab,Hx,ae⟩:=(h1.below d).get (j:=k) t;have C:=G.of_get Hx.out;have T:=a.frozen k;obtain⟨z,N,S⟩:=a.cell (i:=k) (by simp[b.out];omega);by_cases U:k<m
  ·obtain⟨b2,o2,y,rfl,ad,f,af⟩:=(g.below d).get (j:=k) U;have X:=H.of_get f.out;go_wp2_with (go_at_call 239;(with_reducible refine (Dg x y _ _ C X r).mono ?_);rintro e w'⟨rfl,rfl⟩);go_roundw
   case rel =>
    refine⟨k+1,AA,AF,?_,?_,d.setCell AE _⟩
    ·simp only[V4,Yg Hx.out,Yg f.out];go_num
    have:=a.set_ k ((x+y+(V4 xs ys k).2) % 4294967296);rw[M8 _ k (n+1) _ b.out AA] at this;simpa [V4,Hx.out,f.out] using this
   simp[intOf];omega
  have q:=LH (K8 (xs:=ys) (j:=k) (by have:=p.out;omega));go_wp2_with (go_at_call 239;(with_reducible refine (L5 x _ _ C r).mono ?_);rintro e w'⟨rfl,rfl⟩);go_roundw
  case rel =>
   refine⟨k+1,AA,AF,?_,?_,d.setCell AE _⟩
   ·simp only[V4,Yg Hx.out,q.out];go_num
   have:=a.set_ k ((x+0+(V4 xs ys k).2) % 4294967296);rw[M8 _ k (n+1) _ b.out AA] at this;have D:=q.out;rw[AP] at D;simpa [V4,Hx.out,D] using this
  simp[intOf];omega
 obtain rfl:k=n:=AA
 have T:=a.frozen k;obtain⟨z,N,S⟩:=a.cell (i:=k) (by simp[b.out]);have h:=a.set_ k (V4 xs ys k).2;rw[M8 _ k (k+1) _ b.out AA,Nat.sub_self,List.replicate_zero,DK] at h;have W:=h.nums (n:=k+1) (c:=k+1) (by simp[b.out]) (AJ _) AA;have B:=Zx4 xs ys k (by have:=L.out;omega) (by have:=p.out;omega);have M:=LH B;have s:Mu ys xs=Xm (val xs+val ys):=by simp[Mu,I,Y,Eo]
 have J:=LH s;clear B s h;go_wp2_with (go_at_call 225;(with_reducible refine (Ztv _ _ _ _ _ W ((Zxn xs ys k).append (Lim.mk AA Lim.nil))).mono ?_);rintro e w'⟨A,c,rfl,R,O⟩);go_ret2;rw[J.out,<-M.out];exact⟨A,c,rfl,R,Zz (d.setCell AE _) O⟩
theorem nat_add(b:Option Addr)(n c1:Nat)(xs:List Nat)(c:Option Addr)(m c2:Nat)(ys:List Nat)(w:World)(h1:Zq .u32 w b n c1 xs)(d:Zq .u32 w c m c2 ys)(h:Lim xs)(j:Lim ys):
 Calls prog 224 #[.slice b n c1,.slice c m c2] w (Xr w (Mu xs ys)):=by
 by_cases f:Zm xs=true
 ·by_cases g:Zm ys=true
  ·by_cases k:m<=n
   ·exact nat_add_ge b n c1 xs c m c2 ys w h1 d h j f g k
   exact nat_add_lt c m c2 ys b n c1 xs w d h1 j h g f AA
  have o:Zm ys=false:=by simpa using g
  have a:Mu xs ys=([],1):=by simp[Mu,o]
  rw[a];clear a g;go_enter func224,ntmps224;go_wp2_with (first
   | (go_at_call 42;(with_reducible refine (Zb _ _ _ _ _ h1).mono ?_);rintro e w'⟨rfl,rfl⟩)
   | (go_at_call 42;(with_reducible refine (Zb _ _ _ _ _ d).mono ?_);rintro e w'⟨rfl,rfl⟩))
  go_ret2;exact⟨none,0,rfl,Zq.nil _ _ _ _ AE,AL _ _⟩
 have l:Zm xs=false:=by simpa using f
 have a:Mu xs ys=([],1):=by simp[Mu,l]
 rw[a];clear a f;go_enter func224,ntmps224;go_wp2_with (first
  | (go_at_call 42;(with_reducible refine (Zb _ _ _ _ _ h1).mono ?_);rintro e w'⟨rfl,rfl⟩)
  | (go_at_call 42;(with_reducible refine (Zb _ _ _ _ _ d).mono ?_);rintro e w'⟨rfl,rfl⟩))
 go_ret2;exact⟨none,0,rfl,Zq.nil _ _ _ _ AE,AL _ _⟩
end
section
open Go.Maps (Keyed IsMap Tidy)
open Go.Maps (Keyed IsMap Tidy)
theorem Yo.not_map{b w:World}{k:CH}{h:GH}{G:Gr}(C:Yo b k h G S w)(a:Blk w g t cs):¬k.maps g:=by
 obtain⟨ts,d⟩:=C.trees;obtain⟨f,c⟩:=C.forts;rintro (e | e)
 ·exact d.map.ne_blk a e
 exact c.map.ne_blk a e
theorem Yo.store{w:World}{k:CH}{h:GH}{G:Gr}(C:Yo d k h G S w){ns cs:Nat}{p:Bool}(a:Blk w g 154 #[.slice o ns cs,.bool p])(r:S g)(s:d.heap.size<=g)(A:Option Addr)(n c:Nat)(b:Bool):
 Yo d k h G S ((w.setCell ⟨g,0,none⟩ (.slice A n c)).setCell ⟨g,1,none⟩ (.bool b))/\Off (λq=>q=g) w ((w.setCell ⟨g,0,none⟩ (.slice A n c)).setCell ⟨g,1,none⟩ (.bool b))/\Zf w ((w.setCell ⟨g,0,none⟩ (.slice A n c)).setCell ⟨g,1,none⟩ (.bool b)) /\
  Blk ((w.setCell ⟨g,0,none⟩ (.slice A n c)).setCell ⟨g,1,none⟩ (.bool b)) g 154 #[.slice A n c,.bool b]:=by
 have f:Off (λq=>q=g) w ((w.setCell ⟨g,0,none⟩ (.slice A n c)).setCell ⟨g,1,none⟩ (.bool b)):=(Off.of_set w g 0 (.slice A n c)).trans (Off.of_set _ g 1 (.bool b)) λ_ _ h=>h;have l:Zf w ((w.setCell ⟨g,0,none⟩ (.slice A n c)).setCell ⟨g,1,none⟩ (.bool b)):=Zf.of_off f λq j=>by rw[j];exact Jk a
 have m:=C.not_map a;refine⟨C.move f l λq j=>?_,f,l,(a.set 0 _).set 1 _⟩;subst j;refine⟨r,s,?_,?_,λe=>m (.inl e),λe=>m (.inr e)⟩
 ·rintro rfl;have h1:=C.box;unfold Blk at h1 a;rw[h1] at a;injection a with a;injection a with _ h3 _;exact absurd h3 AC
 rintro rfl;have h1:=C.nul;unfold Z8 Blk at h1;unfold Blk at a;rw[h1] at a;injection a with a;injection a with _ h3 _;exact absurd h3 AC
theorem Zzo.look{w:World}{G:Gr}(h:Zzo w g G S ts)(s:Int)(n:Nat)(v:s<0)(t:Zp s<100)(u:n<=100):
 (∃b,(∀x:Ext w,(Instr.lookup 208 (.map (some g)) (kT s n) false).run prog (bl w x) = .ok (.pointer (some ⟨b,0,none⟩)) (bl w x))/\H8 w b (Zv G s n)) \/
 (∀x:Ext w,(Instr.lookup 208 (.map (some g)) (kT s n) false).run prog (bl w x) = .ok (.pointer none) (bl w x)):=by
 have j:∀w,(zeroValue 258).run prog w = .ok (.pointer none) w:=λw=>AB
 have q:U4 prog 257 (kT s n):=Zww (by unfold Zp at t;omega) AA AA;by_cases d:kT s n∈(ts.map λp=>(kT p.1.1 p.1.2,p.2)).map (·.1)
 ·left;obtain⟨b,c,o⟩:=h.map.look Tryz.keyKT d;obtain⟨p,r,a⟩:=CW.1 c;injection a with a hpb;obtain⟨l,m⟩:=kT_inj a;have f:=(h.val p r).1;rw[l,m,hpb] at f;exact⟨b,λx=>(h.map.below (Zr w x)).look_at Tryz.keyKT underlying208 (j _) c o,f⟩
 exact .inr λx=>(h.map.below (Zr w x)).look_none Tryz.keyKT underlying208 (j _) q d
theorem Zue.look{w:World}{G:Gr}(h:Zue w g G S c){i d:Nat}{x:Rul}(A:G.rules[i]? = some x)(hi:i<=100)(hd:d<=100)(B:n<=100):
 (∃b,(∀y:Ext w,(Instr.lookup 209 (.map (some g)) (kF i d n) false).run prog (bl w y) = .ok (.pointer (some ⟨b,0,none⟩)) (bl w y))/\H8 w b (Zx (Zv G) (x.right.drop d) n)) \/
 (∀y:Ext w,(Instr.lookup 209 (.map (some g)) (kF i d n) false).run prog (bl w y) = .ok (.pointer none) (bl w y)):=by
 have o:∀w,(zeroValue 258).run prog w = .ok (.pointer none) w:=λw=>AB
 have u:U4 prog 261 (kF i d n):=Zsn AA AA AA;by_cases j:kF i d n∈(c.map λp=>(kF p.1.1 p.1.2.1 p.1.2.2,p.2)).map (·.1)
 ·left;obtain⟨b,f,t⟩:=h.map.look Tryz.keyKF j;obtain⟨p,v,a⟩:=CW.1 f;injection a with a hpb;obtain⟨q,r,s⟩:=kF_inj a;obtain⟨y,m,l,_⟩:=h.val p v;rw[q,A] at m;obtain rfl:=BH m;rw[r,s,hpb] at l;exact⟨b,λz=>(h.map.below (Zr w z)).look_at Tryz.keyKF underlying209 (o _) f t,l⟩
 exact .inr λz=>(h.map.below (Zr w z)).look_none Tryz.keyKF underlying209 (o _) u j
end
theorem Zu2(f:Option Addr)(n1 c1:Nat)(a:Bool)(x:Nat)(g:Option Addr)(n2 c2:Nat)(b:Bool)(y:Nat)(w:World)(h1:Z1 w f n1 c1 a x)(D:Z1 w g n2 c2 b y):
 Calls prog 207 #[.agg #[.slice f n1 c1,.bool a],.agg #[.slice g n2 c2,.bool b]] w (RetV w (x+y)):=by
 have z:=h1.cases;have A:=D.cases;have U:=LH h1.2;have V:=LH D.2;clear h1 D;obtain⟨h,q,r,c⟩:=Zy1 w 154 #[.slice f n1 c1,.bool a] #[.slice g n2 c2,.bool b] #[.slice none 0 0,.bool false];go_enter func207,ntmps207;go_upto_region 1 with fail;generalize ((w.alloc (.cells #[.slice f n1 c1,.bool a] 154)).alloc (.cells #[.slice g n2 c2,.bool b] 154)).alloc (.cells #[.slice none 0 0,.bool false] 154)=W at *;have l1:=q.lt;have l2:=r.lt;have T:=c.lt;have ah:W.cell? ⟨w,0,none⟩=some (.slice f n1 c1):=q.cell 0;have ai:W.cell? ⟨w,1,none⟩=some (.bool a):=q.cell 1;have aj:W.cell? ⟨w+1,0,none⟩=some (.slice g n2 c2):=r.cell 0;have ak:W.cell? ⟨w+1,1,none⟩=some (.bool b):=r.cell 1;have H:W.cell? ⟨w+2,0,none⟩=some (.slice none 0 0):=c.cell 0;have I:W.cell? ⟨w+2,1,none⟩=some (.bool false):=c.cell 1;have N:=c.frozen 0;have O:=c.frozen 1;have ab:=LH c;have X:=LH h;have B:=LH (Uc c h (DF _ _) none 0 0 true);by_cases j:a=true\/b=true
 case pos =>
  have Hz:Hid (¬x+y<big):=LH (by
   rcases z with ⟨k,J,_⟩ | ⟨k,J,_⟩
   ·rcases A with ⟨l,L,_⟩ | ⟨l,L,_⟩
    ·rw[J,L] at j;simp at j
    omega
   omega)
  clear q r c h z A;rcases (by cases a <;> cases b <;> simp at j <;> simp:a=true\/(a=false/\b=true)) with rfl | ⟨rfl,rfl⟩;all_goals
   clear j;go_wp2_with fail;refine AW (AX (p:=4) AB _ _ (w.heap.size+2) 154 #[.slice none 0 0,.bool true] (0,0) _ rfl B.out.2.1 underlying154 rfl AB) rfl ?_;exact⟨B.out.1,_,_,_,_,rfl,Z1.over _ Hz.out⟩
 obtain⟨rfl,rfl⟩:a=false/\b=false:=by cases a <;> cases b <;> simp at j <;> simp
 obtain⟨k,ex⟩:x<big/\(Vk x).1=limbs x:=by
  rcases z with ⟨k,_,ex⟩ | ⟨_,e,_⟩
  ·exact⟨k,ex⟩
  cases e
 obtain⟨l,t⟩:y<big/\(Vk y).1=limbs y:=by
  rcases A with ⟨l,_,t⟩ | ⟨_,e,_⟩
  ·exact⟨l,t⟩
  cases e
 have CA:=nat_add f n1 c1 (Vk x).1 g n2 c2 (Vk y).1 W (U.out.below h) (V.out.below h) (Wx x) (Wx y);rw[ex,t,Nz x y k l] at CA;have CA:=LH CA;clear q r c h z A j ex t k l B;go_wp2_with fail;(with_reducible refine CA.out.mono ?_);rintro e W2⟨n,c3,rfl,F,E⟩;generalize R:Xm (x+y)=p at *;obtain⟨m,M⟩:=p;simp only[] at F;have Hp:=LH R;have Z:=LH F;have G:=ab.out.ext E;have Y:=LH (Zz X.out E);clear ah ai aj ak H I N O l1 l2 T R F E CA;go_wp2_with fail;(with_reducible refine (tr_cof n m.length c3 (M:Int) W2).mono ?_);rintro e W3⟨rfl,u⟩;have d:=G.ext u;have H:W3.cell? ⟨w+2,0,none⟩=some (.slice none 0 0):=d.cell 0;have I:W3.cell? ⟨w+2,1,none⟩=some (.bool false):=d.cell 1;have N:=d.frozen 0;have O:=d.frozen 1;have T:=d.lt;have aa:=LH (Z.out.below u);obtain⟨o,v⟩:∃o,o=((M:Int)==2):=⟨_,rfl⟩;have C:=LH (Uc d (Zz Y.out u) (DF _ _) n m.length c3 o);rw[<-v];have ae:Hid (∀(w':World),Zq .u32 w' n m.length c3 m->Z1 w' n m.length c3 o (x+y)):=LH λw' P=>by
  have s:=Hp.out;unfold Xm at s;unfold Z1 Vk;by_cases S:x+y<big
  ·rw[if_pos S] at s ⊢;obtain⟨rfl,rfl⟩:=Prod.mk.inj s;exact⟨by rw[v];rfl,P⟩
  rw[if_neg S] at s ⊢;obtain⟨rfl,rfl⟩:=Prod.mk.inj s;exact⟨by rw[v];rfl,P⟩
 clear G d u v;go_wp2_with fail;refine AW (AX (p:=4) AB _ _ (w.heap.size+2) 154 #[.slice n m.length c3,.bool o] (0,0) _ rfl C.out.2.1 underlying154 rfl AB) rfl ?_;exact⟨C.out.1,_,_,_,_,rfl,ae.out _ (aa.out.kept C.out.2.2)⟩
theorem Yo.apart{w:World}{k:CH}{h:GH}{G:Gr}(C:Yo d k h G S w)(a:Blk w g 154 cs):g≠k.c/\g≠k.n/\g≠k.t/\g≠k.f:=by
 have b:=C.not_map a;refine⟨?_,?_,λe=>b (.inl e),λe=>b (.inr e)⟩
 ·rintro rfl;have h1:=C.box;unfold Blk at h1 a;rw[h1] at a;injection a with a;injection a with _ h3 _;exact absurd h3 AC
 rintro rfl;have h1:=C.nul;unfold Z8 Blk at h1;unfold Blk at a;rw[h1] at a;injection a with a;injection a with _ h3 _;exact absurd h3 AC
theorem Yo.store0{w:World}{k:CH}{h:GH}{G:Gr}(C:Yo a k h G S w){ns cs:Nat}{j:Bool}(b:Blk w g 154 #[.slice m ns cs,.bool j])(o:S g)(p:a.heap.size<=g)(A:Option Addr)(n c:Nat):
 Yo a k h G S (w.setCell ⟨g,0,none⟩ (.slice A n c))/\Off (λq=>q=g) w (w.setCell ⟨g,0,none⟩ (.slice A n c))/\Zf w (w.setCell ⟨g,0,none⟩ (.slice A n c))/\Blk (w.setCell ⟨g,0,none⟩ (.slice A n c)) g 154 #[.slice A n c,.bool j]:=by
 have d:=Off.of_set w g 0 (.slice A n c);have l:Zf w (w.setCell ⟨g,0,none⟩ (.slice A n c)):=Zf.of_off d λq f=>by rw[f];exact Jk b
 refine⟨C.move d l λq f=>?_,d,l,b.set 0 _⟩;subst f;exact⟨o,p,C.apart b⟩
theorem Zu1{w:World}{k:CH}{h:GH}{G:Gr}{S':Nat->Prop}(C:Yo a k h G S w){c:Nat}{b:Bool}(r:Blk w g 154 #[.slice A n c,.bool b])(p:Z1 w A n c b x)(m:Off k.maps d w)(o:S g)(t:a.heap.size<=g)(s:d.heap.size<=g)(u:∀q,S' q->S q):
 Blk ((w.setCell ⟨g,0,none⟩ (.slice A n c)).setCell ⟨g,1,none⟩ (.bool b)) g 154 #[.slice A n c,.bool b] /\
  CRet a k h G S' d x (.returned (.agg #[.slice A n c,.bool b])) ((w.setCell ⟨g,0,none⟩ (.slice A n c)).setCell ⟨g,1,none⟩ (.bool b)):=by
 obtain⟨h1,f,j,l⟩:=C.store r o t A n c b;exact⟨l,h1.less u,m.maps_new f s,A,n,c,b,rfl,p.kept j⟩
theorem Zwe{E:World}{k:CH}{h:GH}{G:Gr}{x:Nat->Prop}(hP:Xq G)(gf:FuncId)(ay:Array Value)(eg:∀args w,(callFunc gf args).run prog w = .ok (.enter gf args) w)(Al:Option Addr)(t:Nat)(l:List Int)(n:Nat)(a:World)(C0:Yo E k h G x a)(dm:∀b,x b->b<a.heap.size)(hl:Za .i64 E Al l.length t l)(hN:(Zj G).length=h.n2)(hs:∀s∈l,-(h.n2:Int)<=s/\s<=1000)(h2:h.n2<=1000)(gr:l.length<=1000)(hn:n<=100)(hT:∀s f,l=s::f->∀i,i+Uy (Zj G) f<=n->Zw5 E k h G s i)(hO:∀s f,l=s::f->∀i,i+Uy (Zj G) f<=n->Zv G s i≠0->OthC E k h G a gf ay (n-i) (Zx (Zv G) f (n-i))):
 Calls prog 159 #[.pointer (some ⟨k.c,0,none⟩),.slice Al l.length t,.int .i64 (n:Int),.func (.func gf) #[] ay] a (CRet E k h G x a (Zx (Zv G) l n)):=by
 have gp:=hl.cap;have b4:=Zy a (.cells #[.slice none 0 0,.bool false] 154);have aj:=Blk.new a 154 #[.slice none 0 0,.bool false];have df:=C0.more b4 (AJ a.heap.size);have ar:=LH C0.base.size;have Hl:=LH hl;have Hs:=LH hs;have HN:=LH hN;have bp:=LH dm;have HT:=LH hT;have HO:=LH hO;have HP:=LH hP;clear hs hN hl dm hT hO hP C0;go_enter func159,ntmps159;go_upto_region 1 with fail;have dj:Off k.maps a (a.alloc (.cells #[.slice none 0 0,.bool false] 154)):=Off.of_below b4;generalize a.alloc (.cells #[.slice none 0 0,.bool false] 154)=W1 at *;have au:=LH df;have a9:=LH aj;have a8:=LH dj;have l1:=aj.lt;have c0:W1.cell? ⟨a.heap.size,0,none⟩=some (.slice none 0 0):=aj.cell 0;have c1:W1.cell? ⟨a.heap.size,1,none⟩=some (.bool false):=aj.cell 1;have f0:=aj.frozen 0;have f1:=aj.frozen 1;clear df aj dj b4;cases l with
 | nil =>
   by_cases ca:n=0
   case pos =>
    subst ca;have Hf:Hid (Zx (Zv G) [] 0=1):=LH rfl;have CO:Calls prog 104 #[.int .u64 1] W1 (Bq W1 (limbs 1)):=nat_of 1 W1 AA;go_wp2_with fail;(with_reducible refine CO.mono ?_);rintro e Z⟨I,c3,rfl,bf,J⟩;have a3:limbs 1=[1]:=rfl;rw[a3] at bf;simp only[a3,CX] at bf ⊢;have X3:=a9.out.ext J;have C3:=au.out.below J;have O3:=a8.out.maps_trans (Off.of_below J);obtain⟨C4,O4,K4,X4⟩:=C3.store0 X3 (.inr rfl) ar.out I 1 c3;have am:Z1 (Z.setCell ⟨a.heap.size,0,none⟩ (.slice I 1 c3)) I 1 c3 false 1:=by
     unfold Z1;rw[Zw2];exact⟨rfl,bf.kept K4⟩
    have Y:=LH (Zu1 (S':=x) C4 X4 am (O3.maps_new O4 (AJ _)) (.inr rfl) ar.out (AJ _) λq T => .inl T);have d0:Z.cell? ⟨a.heap.size,0,none⟩=some (.slice none 0 0):=X3.cell 0;have d1:Z.cell? ⟨a.heap.size,1,none⟩=some (.bool false):=X3.cell 1;have g0:=X3.frozen 0;have g1:=X3.frozen 1;have l2:=X3.lt;have e1:((Z.setCell ⟨a.heap.size,0,none⟩ (.slice I 1 c3)).cell? ⟨a.heap.size,0,none⟩)=some (.slice I 1 c3):=X4.cell 0;have e2:((Z.setCell ⟨a.heap.size,0,none⟩ (.slice I 1 c3)).cell? ⟨a.heap.size,1,none⟩)=some (.bool false):=X4.cell 1;have i0:=X4.frozen 0;have i1:=X4.frozen 1;have l4:=X4.lt;clear c0 c1 f0 f1 l1 bf J X3 C3 O3 C4 O4 K4 X4 am CO;go_wp2_with fail;refine AW (AX (p:=8) AB _ _ a.heap.size 154 #[.slice I 1 c3,.bool false] (0,0) _ rfl Y.out.1 underlying154 rfl AB) rfl ?_;rw[Hf.out];exact Y.out.2
   case neg =>
    have Hf:Hid (Zx (Zv G) [] n=0):=LH (by unfold Zx;rw[if_neg ca]);have gw:((n:Int)==0)=false:=by rw[AQ];omega
    have Y:=LH (Zu1 (S':=x) au.out a9.out (Z1.zero _ _ _ AA) a8.out (.inr rfl) ar.out (AJ _) λq T => .inl T);clear ca;go_wp2_with fail;refine AW (AX (p:=8) AB _ _ a.heap.size 154 #[.slice none 0 0,.bool false] (0,0) _ rfl Y.out.1 underlying154 rfl AB) rfl ?_;rw[Hf.out];exact Y.out.2
 | cons s f =>
   rw[AY] at *;obtain⟨B,F,s',rfl,b6,cv,q0⟩:=Hl.out.get (j:=0) AA;have fx:s=s':=by have:=cv.out;simpa using this
   subst fx;rw[DO] at q0;have a3:Za .i64 E (some ⟨B,F,none⟩) 1 t [s]:=Hl.out.take 1 t AA AA AA;have bh:=Hl.out.tail1;rw[Nat.add_sub_cancel] at bh;have gs:((f.length+1:Nat):Int)=(f.length:Int)+1:=AA
   obtain⟨At,b3⟩:∃At:Option Addr,At=(if t=1 then some ⟨B,F,none⟩ else some ⟨B,F+1,none⟩):=⟨_,rfl⟩;have gz:∀w:World,(Instr.sliceAt 30 (.slice (some ⟨B,F,none⟩) (f.length+1) t) (some (.int .i64 1)) none none).run prog w = .ok (.slice At f.length (t-1)) w:=λw=>by
    rw[b3];have gy:¬((f.length:Int)+1<1):=AA
    go_simp
   rw[<-b3] at bh;clear b3;have hz:(((f.length+1:Nat):Int)==0)=false:=by rw[AQ];omega
   have gd:Hid (∀b,(x b\/b=a.heap.size)->b<a.heap.size+1):=LH λb y=>by
    rcases y with y | rfl
    ·exact Nat.lt_succ_of_lt (bp.out b y)
    exact Em _
   obtain⟨g,bz⟩:∃g,Hid (g=Uy (Zj G) [s]):=⟨_,LH rfl⟩;obtain⟨z,aw⟩:∃z,Hid (z=Uy (Zj G) f):=⟨_,LH rfl⟩;have gt:g<=1:=by have:=Ztr (Zj G) [s];rw[bz.out];simpa using this
   have gu:z<=f.length:=by rw[aw.out];exact Ztr _ _
   have ck:Hid (∀X,Yo E k h G (λb=>x b\/b=a.heap.size) X->Calls prog 204 #[.pointer (some ⟨k.c,0,none⟩),.slice (some ⟨B,F,none⟩) 1 t] X λe w'=>e = .returned (.int .i64 (g:Int))/\X=w'):=LH λX C=>by
    rw[bz.out];exact Zta _ t 1 [s] X C (a3.below C.base) HN.out (λq T=>Hs.out q (by rw[BP.1 T];exact By ..)) h2 AA
   have bm:Hid (∀X,Yo E k h G (λb=>x b\/b=a.heap.size) X->Calls prog 204 #[.pointer (some ⟨k.c,0,none⟩),.slice At f.length (t-1)] X λe w'=>e = .returned (.int .i64 (z:Int))/\X=w'):=LH λX C=>by
    rw[aw.out];exact Zta _ (t-1) f.length f X C (bh.below C.base) HN.out (λq T=>Hs.out q (BO _ T)) h2 AA
   have fo:Hid (∀X,Yo E k h G (λb=>x b\/b=a.heap.size) X->B<X.heap.size/\X.cell? ⟨B,F,none⟩=some (.int .i64 s)):=LH λX C=>⟨AK b6 C.base.size,(C.base.cell (p:=⟨B,F,none⟩) b6).trans q0⟩;have fp:Hid (Jt (Zv G) s f n g (n+1-z-g)=Zx (Zv G) (s::f) n):=LH (by
    rw[bz.out,aw.out];exact splitN_all (λs hs=>Jw HP.out hs) s f n)
   have fh:Hid (∀i,i+z<=n->Zw5 E k h G s i):=LH λi hi=>HT.out s f rfl i (by rw[<-aw.out];exact hi);have fc:Hid (∀i,i+z<=n->Zv G s i≠0->OthC E k h G a gf ay (n-i) (Zx (Zv G) f (n-i))):=LH λi hi hx=>HO.out s f rfl i (by rw[<-aw.out];exact hi) hx;clear HT HO a3 bh q0 b6 cv Hl;go_wp2_with (go_at_call 204;(with_reducible refine (ck.out W1 au.out).mono ?_);rintro e Z⟨rfl,rfl⟩);go_loopw [9] (λi wr=>∃(d:Nat) (L:Option Addr) (ns cs:Nat) (N:Bool),i = .int .i64 ((g+d:Nat):Int)/\d<=n+1-z-g/\Hid (Yo E k h G (λb=>x b\/b=a.heap.size) wr)/\Hid (Off k.maps a wr)/\Hid (Blk wr a.heap.size 154 #[.slice L ns cs,.bool N])/\Hid (Z1 wr L ns cs N (Jt (Zv G) s f n g d))) (λi _=>n+3-(intOf i).toNat)
   case atStart=>exact⟨0,none,0,0,false,AF,AS _,au,a8,a9,LH (Z1.zero _ _ _ AA)⟩
   clear c0 c1 f0 f1 l1 au a8 a9;obtain⟨d,L,ns,cs,N,rfl,hd,V,HO,S,HV⟩:=hrel;obtain⟨qb,qc⟩:=fo.out wr V.out;have xl:=S.out.lt;have x0:wr.cell? ⟨a.heap.size,0,none⟩=some (.slice L ns cs):=S.out.cell 0;have x1:wr.cell? ⟨a.heap.size,1,none⟩=some (.bool N):=S.out.cell 1;have da:=S.out.frozen 0;have db:=S.out.frozen 1;have fy:IntKind.i64.wrap ((n:Int)-(z:Int))=(n:Int)-(z:Int):=Cc _ AA;by_cases dr:g+d+z<=n
   case neg =>
    obtain rfl:d=n+1-z-g:=AA
    have dt:¬(((g+(n+1-z-g):Nat):Int)<=(n:Int)-(z:Int)):=AA
    have Y:=LH (Zu1 (S':=x) V.out S.out HV.out HO.out (.inr rfl) ar.out (AJ _) λq T => .inl T);go_wp2_with (go_at_call 204;(with_reducible refine (bm.out wr V.out).mono ?_);rintro e Z⟨rfl,rfl⟩);refine AW (AX (p:=8) AB _ _ a.heap.size 154 #[.slice L ns cs,.bool N] (0,0) _ rfl Y.out.1 underlying154 rfl AB) rfl ?_;rw[<-fp.out];exact Y.out.2
   have dt:((g+d:Nat):Int)<=(n:Int)-(z:Int):=AA
   have dn:∀b,(x b\/b=a.heap.size)->b<wr.heap.size:=λb y=>by
    rcases y with y | rfl
    ·exact AK (bp.out b y) HO.out.size
    exact xl
   have CT:=LH (fh.out (g+d) dr (λb=>x b\/b=a.heap.size) wr V.out dn);have du:=Gm (Zv G) s f n g d;have fd:=LH (fc.out (g+d) dr);clear dn;generalize dy:Zv G s (g+d)=xv at *;generalize Zx (Zv G) f (n-(g+d))=fv at *;have b7:((g+d:Nat):Int)=(g:Int)+(d:Int):=AA
   rw[b7] at CT;have ge:=LH b7;clear b7;have gg:=LH dy;have ct:=LH du;clear dy du;go_wp2_with (go_at_call 204;(with_reducible refine (bm.out wr V.out).mono ?_);rintro e Z⟨rfl,rfl⟩);clear x0 x1 da db xl qb qc dt fy ck bm;(with_reducible refine CT.out.mono ?_);rintro e w2⟨dg,bg,M,R,O,P,rfl,dv⟩;have ds:=V.out.keep bg;have b5:=bg.blk S.out (V.out.not_map S.out);have dq:=HV.out.kept ds;have J:=Zy w2 (.cells #[.slice M R O,.bool P] 154);have a2:=Blk.new w2 154 #[.slice M R O,.bool P];have bn:=LH (dg.below J);have bo:=LH ((HO.out.maps_trans bg).maps_trans (Off.of_below J));have bw:=LH (b5.ext J);have bt:=LH (dq.below J);have bv:=LH (dv.below J);have gq:a.heap.size<w2.heap.size:=b5.lt;have CN:=λX hX=>Ztk M R O P xv X hX;go_upto_region 9 with fail;generalize w2.alloc (.cells #[.slice M R O,.bool P] 154)=w3 at *;generalize w2.heap.size=gx at *;have cn:=LH a2;have g0:w3.cell? ⟨gx,0,none⟩=some (.slice M R O):=a2.cell 0;have g1:w3.cell? ⟨gx,1,none⟩=some (.bool P):=a2.cell 1;have gl:=a2.lt;clear dg bg dv ds b5 dq J a2 V HO S HV;have ap:=LH (CN w3 bv.out);clear CN;by_cases an:xv=0
   case pos =>
    have b8:decide (xv=0)=true:=DW an;have fn:Hid (Jt (Zv G) s f n g (d+1)=Jt (Zv G) s f n g d):=LH (by rw[ct.out,an,Nat.zero_mul,DO]);rw[b8] at ap;clear an;go_wp2_with (go_at_call 206;(with_reducible refine ap.out.mono ?_);rintro e w4⟨rfl,H⟩);have W:=LH (bn.out.below H);have av:=LH (bo.out.maps_trans (Off.of_below H));have af:=LH (bw.out.ext H);have bu:=LH (bt.out.below H);go_roundw
    case rel=>exact⟨d+1,L,ns,cs,N,AF,AA,W,av,af,by rw[fn.out];exact bu⟩
    simp[intOf];omega
   have b8:decide (xv=0)=false:=BR an;have ff:=LH (fd.out an);rw[b8] at ap;clear an;go_upto_region 10 with (go_at_call 206;(with_reducible refine ap.out.mono ?_);rintro e w4⟨rfl,H⟩);have W:=LH (bn.out.below H);have av:=LH (bo.out.maps_trans (Off.of_below H));have af:=LH (bw.out.ext H);have bu:=LH (bt.out.below H);have co:=LH (cn.out.ext H);have fj:=LH (bv.out.below H);clear bn bo bw bt cn bv H g0 g1 gl ap;have fl:Hid (((n-(g+d):Nat):Int)=(n:Int)-((g:Int)+(d:Int))):=LH AA;have g5:IntKind.i64.wrap ((n:Int)-((g:Int)+(d:Int)))=(n:Int)-((g:Int)+(d:Int)):=Cc _ AA;refine Xh (λX=>MidC E k h G (λb=>x b\/b=a.heap.size) w4 X) (λX X'=>Zf X X') (λu=>(⟨(Value.pointer (some ⟨k.c,0,none⟩)::Value.slice (some ⟨B,F,none⟩) (f.length+1) t::Value.int IntKind.i64 (n:Int)::Value.func (Fn.func gf) #[] ay::undef::undef::undef::undef::Value.pointer (some ⟨a.heap.size,0,none⟩)::Value.int IntKind.i64 ((g:Int)+(d:Int))::Value.pointer (some ⟨gx,0,none⟩)::Value.slice (some ⟨B,F,none⟩) (f.length+1) t::Value.int IntKind.i64 ((f.length:Int)+1)::Value.bool false::undef::undef::undef::undef::undef::Value.pointer (some ⟨k.c,0,none⟩)::Value.slice (some ⟨B,F,none⟩) (f.length+1) t::Value.slice (some ⟨B,F,none⟩) 1 t::Value.int IntKind.i64 (g:Int)::Value.int IntKind.i64 ((g:Int)+(d:Int))::Value.int IntKind.i64 (n:Int)::Value.pointer (some ⟨k.c,0,none⟩)::Value.slice (some ⟨B,F,none⟩) (f.length+1) t::Value.slice At f.length (t-1)::Value.int IntKind.i64 (z:Int)::Value.int IntKind.i64 ((n:Int)-(z:Int))::Value.bool true::u31::u32::Value.pointer (some ⟨k.c,0,none⟩)::Value.slice (some ⟨B,F,none⟩) (f.length+1) t::Value.pointer (some ⟨B,F,none⟩)::Value.int IntKind.i64 s::Value.int IntKind.i64 ((g:Int)+(d:Int))::Value.agg #[Value.slice M R O,Value.bool P]::Value.agg #[Value.slice M R O,Value.bool P]::Value.bool false::Value.bool true::u 0::u 1::u 2::u 3::u 4::u 5::u 6::u 7::u 8::undef::[]).toArray,[]⟩:Act)) [u42,u43,u44,u45,u46,u47,u48,u49,u50] [λv X=>v=Value.agg #[Value.slice L ns cs,Value.bool N],λv X=>v=Value.agg #[Value.slice M R O,Value.bool P],λv X=>v=Value.func (Fn.func gf) #[] ay,λv X=>v=Value.int .i64 (n:Int),λv X=>v=Value.int .i64 ((g:Int)+(d:Int)),λv X=>v=Value.int .i64 ((n:Int)-((g:Int)+(d:Int))),λv X=>∃U nq cq bq,v=Value.agg #[Value.slice U nq cq,Value.bool bq]/\Z1 X U nq cq bq (fv),λv X=>∃U nq cq bq,v=Value.agg #[Value.slice U nq cq,Value.bool bq]/\Z1 X U nq cq bq (xv*fv),λv X=>∃U nq cq bq,v=Value.agg #[Value.slice U nq cq,Value.bool bq]/\Z1 X U nq cq bq (Jt (Zv G) s f n g d+xv*fv)] (λu X=>∃A9 n9 c9 d9,Yo E k h G (λb=>x b\/b=a.heap.size) X/\Off k.maps a X/\Blk X a.heap.size 154 #[Value.slice A9 n9 c9,Value.bool d9]/\Z1 X A9 n9 c9 d9 (Jt (Zv G) s f n g d+xv*fv)) (l:=[_,_,_,_,_,_,_,_,_]) AB AB AB rfl rfl ⟨W.out.below (AL _ _).drew,Off.of_below (AL _ _).drew⟩ ⟨λ_ _ _ h _=>h,λ_ _ _ h _=>h,λ_ _ _ h _=>h,λ_ _ _ h _=>h,λ_ _ _ h _=>h,λ_ _ _ h _=>h,(λ_ _ _ ⟨A,n,c,b,e,h⟩ y=>⟨A,n,c,b,e,h.kept y⟩),(λ_ _ _ ⟨A,n,c,b,e,h⟩ y=>⟨A,n,c,b,e,h.kept y⟩),(λ_ _ _ ⟨A,n,c,b,e,h⟩ y=>⟨A,n,c,b,e,h.kept y⟩),trivial⟩ ?_ ?_ ?_
   ·refine Zk.con (λQ u X m o KK r=>?_) ?_
    ·have D:=m.2.blk af.out (W.out.not_map af.out);have c5:X.cell? ⟨a.heap.size,0,none⟩=some (.slice L ns cs):=D.cell 0;have c6:X.cell? ⟨a.heap.size,1,none⟩=some (.bool N):=D.cell 1;have dw:=D.lt;go_simp;exact r _ _ m ⟨AJ _,λ_ _ _=>rfl⟩ rfl
    refine Zk.con (λQ u X m o KK r=>?_) ?_
    ·have D:=m.2.blk co.out (W.out.not_map co.out);have c5:X.cell? ⟨gx,0,none⟩=some (.slice M R O):=D.cell 0;have c6:X.cell? ⟨gx,1,none⟩=some (.bool P):=D.cell 1;have dw:=D.lt;go_simp;exact r _ _ m ⟨AJ _,λ_ _ _=>rfl⟩ rfl
    iterate 3
     refine Zk.con (λQ u X m o KK r=>?_) ?_
     ·go_simp;exact r _ _ m ⟨AJ _,λ_ _ _=>rfl⟩ rfl
    refine Zk.con (λQ u X m o KK r=>?_) ?_
    ·have p3:u 3=_:=o 3 rfl;have p4:u 4=_:=o 4 rfl;clear o;generalize u 3=x3 at *;subst p3;generalize u 4=x4 at *;subst p4;go_simp;exact r _ _ m ⟨AJ _,λ_ _ _=>rfl⟩ rfl
    refine Zk.con (λQ u X m o KK r=>?_) ?_
    ·have p2:u 2=_:=o 2 rfl;have p5:u 5=_:=o 5 rfl;clear o;generalize u 2=x2 at *;subst p2;generalize u 5=x5 at *;subst p5;have ft:∀b,(x b\/b=a.heap.size)->b<X.heap.size:=λb y=>by
      rcases y with y | rfl
      ·exact AK (bp.out b y) (BC av.out.size m.2.size)
      exact AK af.out.lt m.2.size
     have CO:=ff.out (λb=>x b\/b=a.heap.size) X m.1 ft (av.out.maps_trans m.2);rw[fl.out] at CO;go_simp;(with_reducible refine CO.mono ?_);rintro e w5⟨fs,dk,A2,m2,c2,d2,rfl,cb⟩;go_simp;exact r _ _ (⟨fs,m.2.maps_trans dk⟩) (m.1.keep dk) ⟨A2,m2,c2,d2,rfl,cb⟩
    refine Zk.con (λQ u X m o KK r=>?_) ?_
    ·have p1:u 1=_:=o 1 rfl;obtain⟨A2,m2,c2,d2,p6,cb⟩:=o 6 rfl;clear o;generalize u 1=x1 at *;subst p1;generalize u 6=x6 at *;subst p6;have cd:=fj.out.kept (W.out.keep m.2);go_simp;(with_reducible refine (tr_times M R O P _ A2 m2 c2 d2 _ X cd cb).mono ?_);rintro e w5⟨ai,I,m3,c3,d3,rfl,cc⟩;go_simp;exact r _ _ (⟨m.1.below ai,m.2.maps_trans (Off.of_below ai)⟩) (Zf.of_below ai) ⟨I,m3,c3,d3,rfl,cc⟩
    refine Zk.con (λQ u X m o KK r=>?_) ?_
    ·have p0:u 0=_:=o 0 rfl;obtain⟨I,m3,c3,d3,p7,cc⟩:=o 7 rfl;clear o;generalize u 0=x0 at *;subst p0;generalize u 7=x7 at *;subst p7;have cd:=bu.out.kept (W.out.keep m.2);go_simp;(with_reducible refine (Zu2 L ns cs N _ I m3 c3 d3 _ X cd cc).mono ?_);rintro e w5⟨ai,A4,m4,c4,d4,rfl,am⟩;go_simp;exact r _ _ (⟨m.1.below ai,m.2.maps_trans (Off.of_below ai)⟩) (Zf.of_below ai) ⟨A4,m4,c4,d4,rfl,am⟩
    exact Zk.nil
   ·intro Q u X m o KK r;obtain⟨A4,m4,c4,d4,p8,am⟩:=o 8 AC;clear o;generalize u 8=x8 at *;subst p8;have D:=m.2.blk af.out (W.out.not_map af.out);have c5:X.cell? ⟨a.heap.size,0,none⟩=some (.slice L ns cs):=D.cell 0;have c6:X.cell? ⟨a.heap.size,1,none⟩=some (.bool N):=D.cell 1;have dw:=D.lt;have da:=D.frozen 0;have db:=D.frozen 1;have a4:=m.1.store D (.inr rfl) ar.out A4 m4 c4 d4;have fm:=LH (And.intro a4.1 (And.intro ((av.out.maps_trans m.2).maps_new a4.2.1 (AJ _)) (And.intro a4.2.2.2 (am.kept a4.2.2.1))));clear a4 D;go_simp;exact r (λi=>([u 0,u 1,u 2,u 3,u 4,u 5,u 6,u 7,Value.agg #[Value.slice A4 m4 c4,Value.bool d4]]:List Value).getD i undef) _ (⟨A4,m4,c4,d4,fm.out⟩)
   intro u W9 fw;obtain⟨A9,n9,c9,d9,g1,g2,g3,g4⟩:=fw;have fb:=LH g1;have fe:=LH g2;have fk:=LH g3;rw[<-ct.out] at g4;have fi:=LH g4;clear g1 g2 g3 g4;go_wp2_with fail;go_roundw
   case rel=>exact⟨d+1,A9,n9,c9,d9,AF,AA,fb,fe,fk,fi⟩
   simp[intOf];omega
theorem Uw{w:World}{k:CH}{h:GH}{G:Gr}{S':Nat->Prop}(C:Yo a k h G S w){A0:Option Addr}{n0 c0 c:Nat}{b0 b:Bool}(r:Blk w g 154 #[.slice A0 n0 c0,.bool b0])(p:Z1 w A n c b x)(m:Off k.maps d w)(o:S g)(t:a.heap.size<=g)(s:d.heap.size<=g)(u:∀q,S' q->S q):
 Blk ((w.setCell ⟨g,0,none⟩ (.slice A n c)).setCell ⟨g,1,none⟩ (.bool b)) g 154 #[.slice A n c,.bool b] /\
  CRet a k h G S' d x (.returned (.agg #[.slice A n c,.bool b])) ((w.setCell ⟨g,0,none⟩ (.slice A n c)).setCell ⟨g,1,none⟩ (.bool b)):=by
 obtain⟨h1,f,j,l⟩:=C.store r o t A n c b;exact⟨l,h1.less u,m.maps_new f s,A,n,c,b,rfl,p.kept j⟩
theorem tr_rule1{n:World}{k:CH}{h:GH}{G:Gr}(x:Rul)(i d Z m s l:Nat)(X:World)(C:Yo n k h G S X)(I:∀b,S b->b<X.heap.size)(B:Blk X s 155 #[.pointer (some ⟨k.c,0,none⟩)])(D:Blk X l 261 #[.int .i64 (i:Int),.int .i64 (d:Int),.int .i64 (Z:Int)])(H:RuleC n k h G x i (d+1) m)(hd:d<=1000):
 Calls prog 238 #[.int .i64 (m:Int),.pointer (some ⟨s,0,none⟩),.pointer (some ⟨l,0,none⟩)] X (CRet n k h G S X (Zx (Zv G) (x.right.drop (d+1)) m)):=by
 have f:=Zy X (.cells #[.slice none 0 0,.bool false] 154);have v:=Blk.new X 154 #[.slice none 0 0,.bool false];have t:=C.more f (AJ X);have F:Off k.maps X (X.alloc (.cells #[.slice none 0 0,.bool false] 154)):=Off.of_below f;have r:=B.ext f;have j:=D.ext f;have L:(X.alloc (.cells #[.slice none 0 0,.bool false] 154)).heap.size=X.heap.size+1:=Zl _ _;have W:=C.base.size;go_enter func238,ntmps238;go_upto_region 1 with fail;have g:=H _ _ t (λb y=>by
  rw[L];rcases y with y | rfl
  ·exact Nat.lt_succ_of_lt (I b y)
  exact Em _)
 unfold kF at g;have V:((d+1:Nat):Int)=(d:Int)+1:=AA
 rw[V] at g;generalize X.alloc (.cells #[.slice none 0 0,.bool false] 154)=o at *;have P:=LH t;have z:=LH v;have T:=LH F;have R:=LH g;have l1:=v.lt;have l2:=r.lt;have l3:=j.lt;have p0:o.cell? ⟨s,0,none⟩=some (.pointer (some ⟨k.c,0,none⟩)):=r.cell 0;have t0:o.cell? ⟨l,0,none⟩=some (.int .i64 (i:Int)):=j.cell 0;have t1:o.cell? ⟨l,1,none⟩=some (.int .i64 (d:Int)):=j.cell 1;have ae:IntKind.i64.wrap ((d:Int)+1)=(d:Int)+1:=Cc _ AA;clear C B D r j t v F f g H I L;go_wp2_with fail;(with_reducible refine R.out.mono ?_);rintro e N⟨E,u,O,n2,c2,U,rfl,M⟩;have a:=u.blk z.out (P.out.not_map z.out);have J:=Uw (S':=S) E a M (T.out.maps_trans u) (.inr rfl) W (AJ _) λq Y => .inl Y;have A:=LH J;have c0:N.cell? ⟨X,0,none⟩=some (.slice none 0 0):=a.cell 0;have c1:N.cell? ⟨X,1,none⟩=some (.bool false):=a.cell 1;have f0:=a.frozen 0;have f1:=a.frozen 1;have l4:=a.lt;clear E u M a J p0 t0 t1;go_wp2_with fail;refine AW (AX (p:=4) AB _ _ X 154 #[.slice O n2 c2,.bool U] (0,0) _ rfl A.out.1 underlying154 rfl AB) rfl ?_;exact A.out.2
theorem Di{y:World}{k:CH}{h:GH}{G:Gr}{s:Int}(h0:0<=s)(O:n<=100):Zw5 y k h G s n:=by
 intro S w C D;have f:=Zy w (.cells #[.slice none 0 0,.bool false] 154);have b:=Blk.new w 154 #[.slice none 0 0,.bool false];have j:=C.more f (AJ w);have l:Off k.maps w (w.alloc (.cells #[.slice none 0 0,.bool false] 154)):=Off.of_below f;have E:=C.base.size;go_enter func205,ntmps205;go_upto_region 1 with fail;generalize w.alloc (.cells #[.slice none 0 0,.bool false] 154)=d at *;have t:=LH j;have v:=LH b;have u:=LH l;have H:=b.lt;have c0:d.cell? ⟨w,0,none⟩=some (.slice none 0 0):=b.cell 0;have c1:d.cell? ⟨w,1,none⟩=some (.bool false):=b.cell 1;have A:=b.frozen 0;have B:=b.frozen 1;have x:Hid (Zv G s n=K0 n):=Xb G h0 n;clear j b l f C D;go_wp2_with fail;(with_reducible refine (tr_exactly n d AA).mono ?_);rintro e g⟨c,r,I,c3,z,rfl,o⟩;have a:=v.out.ext c;have m:=LH (Uw (S':=S) (t.out.below c) a o (u.out.maps_trans (Off.of_below c)) (.inr rfl) E (AJ _) λq F => .inl F);have J:g.cell? ⟨w,0,none⟩=some (.slice none 0 0):=a.cell 0;have L:g.cell? ⟨w,1,none⟩=some (.bool false):=a.cell 1;have M:=a.frozen 0;have N:=a.frozen 1;have P:=a.lt;clear c0 c1 A B H a o c;go_wp2_with fail;refine AW (AX (p:=6) AB _ _ w 154 #[.slice r I c3,.bool z] (0,0) _ rfl m.out.1 underlying154 rfl AB) rfl ?_;rw[x.out];exact m.out.2
theorem tr_forest1{o:World}{k:CH}{h:GH}{G:Gr}(s:Int)(d:List Int)(Al:Option Addr)(g m u v:Nat)(X:World)(C:Yo o k h G S X)(O:∀b,S b->b<X.heap.size)(H:Blk X u 155 #[.pointer (some ⟨k.c,0,none⟩)])(I:Blk X v 30 #[.slice Al (d.length+1) g])(ag:∀w:World,(Instr.sliceAt 30 (.slice Al (d.length+1) g) (some (.int .i64 1)) none none).run prog w = .ok (.slice At d.length (g-1)) w)(M:ForC o k h G At d.length (g-1) d m):
 Calls prog 160 #[.int .i64 (m:Int),.pointer (some ⟨u,0,none⟩),.pointer (some ⟨v,0,none⟩)] X (CRet o k h G S X (Zx (Zv G) d m)):=by
 have j:=Zy X (.cells #[.slice none 0 0,.bool false] 154);have R:=Blk.new X 154 #[.slice none 0 0,.bool false];have J:=C.more j (AJ X);have N:Off k.maps X (X.alloc (.cells #[.slice none 0 0,.bool false] 154)):=Off.of_below j;have r:=H.ext j;have t:=I.ext j;have ae:=C.base.size;have P:∀b,(S b\/b=X.heap.size)->b<(X.alloc (.cells #[.slice none 0 0,.bool false] 154)).heap.size:=λb l=>by
  rw[Zl];rcases l with l | rfl
  ·exact Nat.lt_succ_of_lt (O b l)
  exact Em _
 go_enter func160,ntmps160;go_upto_region 1 with fail;generalize X.alloc (.cells #[.slice none 0 0,.bool false] 154)=f at *;have z:=LH J;have D:=LH R;have B:=LH N;have aa:=LH P;have Y:=LH M;have l2:=r.lt;have l3:=t.lt;have p0:f.cell? ⟨u,0,none⟩=some (.pointer (some ⟨k.c,0,none⟩)):=r.cell 0;have t0:f.cell? ⟨v,0,none⟩=some (.slice Al (d.length+1) g):=t.cell 0;clear C H I r t J R N j M O P;have bc:=Yt f;refine Yx 4 AB AB ?_;simp only[List.take_succ_cons,List.take_zero,List.drop_succ_cons,Ed];repeat (go_big_quiet_step (fail))
 refine BL ?_;rintro _⟨y,rfl⟩;have n:=Zr f y;have A:=LH (z.out.below n);have Z:=LH (B.out.maps_trans (Off.of_below n));have E:=LH (D.out.ext n);have W:=LH (Y.out _ _ A.out λb l=>AK (aa.out b l) n.size);clear ag bc n p0 t0 l2 l3 z B D;generalize bl f y=W2 at *;go_wp2_with (
  go_at_call 100;(with_reducible refine W.out.mono ?_);rintro e U⟨L,x,V,n2,c2,d2,rfl,T⟩;have a:=x.blk E.out (A.out.not_map E.out);have F:=LH (Uw (S':=S) L a T (Z.out.maps_trans x) (.inr rfl) ae (AJ _) λq hq => .inl hq);have c0:U.cell? ⟨X,0,none⟩=some (.slice none 0 0):=a.cell 0;have c1:U.cell? ⟨X,1,none⟩=some (.bool false):=a.cell 1;have f0:=a.frozen 0;have f1:=a.frozen 1;have l4:=a.lt;clear L x T a)
 refine AW (AX (p:=4) AB _ _ X 154 #[.slice V n2 c2,.bool d2] (0,0) _ rfl F.out.1 underlying154 rfl AB) rfl ?_;exact F.out.2
theorem Jc.apart{w:World}{c N:Nat}{b:List Nat}(h:Jc w B A n c N b tab){m:Nat}(f:b[m]? = some g):(Value.slice A n c).ownBlock≠some g:=by
 intro d;obtain⟨cs,k,h1⟩:=Mg h.own d;obtain⟨j,a,_⟩:=(h.row m g f).2;unfold Blk at a;rw[h1] at a;injection a with a;injection a with _ h3 _;exact absurd h3 AC
theorem Jc.put{w:World}{c N:Nat}{s:List Nat}(h:Jc w B A n c N s tab){m i:Nat}(l:s[m]? = some g)(hi:i<N){a:Option Addr}{n1 c1:Nat}{d:Bool}(J:Z1 w a n1 c1 d x):
 Jc ((w.setCell ⟨g,i*2,none⟩ (.slice a n1 c1)).setCell ⟨g,i*2+1,none⟩ (.bool d)) B A n c N s (U6 tab m i x)/\Off (λk=>k=g) w ((w.setCell ⟨g,i*2,none⟩ (.slice a n1 c1)).setCell ⟨g,i*2+1,none⟩ (.bool d)):=by
 have p:Off (λk=>k=g) w ((w.setCell ⟨g,i*2,none⟩ (.slice a n1 c1)).setCell ⟨g,i*2+1,none⟩ (.bool d)):=(Off.of_set w g (i*2) (.slice a n1 c1)).trans (Off.of_set _ g (i*2+1) (.bool d)) λ_ _ h=>h;have C:=h.apart l;obtain⟨y,H⟩:=h.row m g l;obtain⟨I,F⟩:=H.put (j:=i) (by simpa using hi) J;have h1:∀b,(Value.slice A n c).ownBlock=some b->¬b=g:=λb D e=>C (by rw[D,e]);refine⟨⟨p.row h.own h1,λq u=>(h.noInt q u).same (p.keep q (h.own.lt q u).2 (h1 q u)),h.nodup,λr f o=>?_⟩,p⟩;by_cases t:r=m
 ·subst t;obtain rfl:g=f:=by rw[l] at o;exact BH o
  exact⟨y,by rw[<-tab_set hi];exact I⟩
 have G:f≠g:=nodup_ne h.nodup l o t;obtain⟨z,v⟩:=h.row r f o;have e:(List.range N).map (U6 tab m i x r)=(List.range N).map (tab r):=List.map_congr_left λj _=>by unfold U6;rw[if_neg λE=>t E.1]
 rw[e];exact⟨z,v.kept F (p.keep f v.lt G)⟩
theorem Jc.snoc{w w':World}{k:Option Addr}{c l N:Nat}{j:List Nat}(h:Jc w B A n c N j tab)(C:w'.ownsRow B 115 1 (.slice k (n+1) l) (n+1) ((j.map λg=>Value.slice (some ⟨g,0,none⟩) N N)++[Value.slice (some ⟨g,0,none⟩) N N]))(v:w.grownBy w' (Value.slice A n c).ownBlock)(z:∀b,(Value.slice k (n+1) l).ownBlock=some b->Qf w' b)(p:Vp w g 110 ((List.range N).map (tab n)))(s:B<=g)(y:g∉j):Jc w' B k (n+1) l N (j++[g]) tab:=by
 have o:=Off.of_grown v;have r:Zf w w':=Zf.of_off o λq f=>h.noInt q f;have x:=h.len;refine⟨by rw[DJ];exact C,z,?_,λm q f=>?_⟩
 ·rw[List.nodup_append];exact⟨h.nodup,AE,λa t b u e=>y (by rw[<-BP.1 u,<-e];exact t)⟩
 rcases H4 f with ⟨F,f⟩ | ⟨rfl,rfl⟩
 ·obtain⟨h1,d⟩:=h.row m q f;exact⟨h1,d.kept r (o.keep q d.lt λe=>h.apart f e)⟩
 refine⟨s,?_⟩;rw[x];refine p.kept r (o.keep g p.lt λe=>?_);obtain⟨cs,E,h1⟩:=Mg h.own e;obtain⟨D,d,_⟩:=p;unfold Blk at d;rw[h1] at d;injection d with d;injection d with _ h3 _;exact absurd h3 AC
section
open Ieee
open Go.Maps (Keyed IsMap Tidy)
theorem Wd.not_map{w:World}{k:BkH}{h:GH}{G:Gr}(C:Wd a k h G S w){b:Array Value}(c:Blk w g t b):¬k.map g:=by
 obtain⟨ts,d⟩:=C.known;exact λe=>d.map.ne_blk c e
end
section
variable {W0:World} {k:BkH} {h:GH} {G:Gr} {S':Nat->Prop} {w:World} {gR:Nat} {b:Nat->Bool} {u:Nat->Value} {X:World}
theorem PM.asked(H:PM W0 k h G S' w gR b u X)(i:Nat)(hi:i=4/\b 14=false\/i=11/\b 15=false):(∃f,Wd W0 k h G f X/\(∀q,f q->q<X.heap.size)/\∀j v,Wd W0 k h G f j->Off k.map X j->PM W0 k h G S' w gR (Mz b i) (upd u i v) j):=by
 obtain⟨⟨f,a1,a2,a3,D,E⟩,F,I,J⟩:=H;refine⟨f,a1,a3,λj v L z=>?_⟩;have o:12≠i:=AA
 have p:13≠i:=AA
 have M:14≠i:=AA
 have N:15≠i:=AA
 have B:∀g t a,Blk X g t a->Blk j g t a:=λg t a C=>z.blk C (a1.not_map C);refine⟨⟨f,L,a2,λq m=>AK (a3 q m) z.size,?_,?_⟩,F.map_trans z,B _ _ _ I,?_⟩
 ·rw[Ys o,Ys M,Yj o];intro y;have h1:=(D y).mono (λq m=>m) λg t a _=>B g t a;rcases hi with ⟨rfl,l⟩ | ⟨rfl,l⟩
  ·rw[l] at h1 ⊢;obtain⟨g,A,n,c,d,e,r,s,x,_⟩:=h1;exact⟨g,A,n,c,d,e,r,s,x,nofun⟩
  rw[Yj AA];exact h1
 ·rw[Ys p,Ys N,Yj p];intro y;have h1:=(E y).mono (λq m=>m) λg t a _=>B g t a;rcases hi with ⟨rfl,l⟩ | ⟨rfl,l⟩
  ·rw[Yj AA];exact h1
  rw[l] at h1 ⊢;obtain⟨g,A,n,c,d,e,r,s,x,_⟩:=h1;exact⟨g,A,n,c,d,e,r,s,x,nofun⟩
 rw[Ys o,Ys p,Yj o,Yj p];exact J
end
