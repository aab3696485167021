/- Walks: the reference's Mul, Div and Bits. -/
import Derived.Test.YtggbjdmpjidhgaaGreatDoorV13
import Derived.Test.YtggbjdmpjidhgaaGreatDoorV15
set_option linter.all false
set_option maxHeartbeats 1500000
set_option maxRecDepth 100000
namespace Go.Proofs.YtggbjdmpjidhgaaGreatDoor
open Go.RowKit Go.Proofs.Tryz
theorem ref_mul(I:Option Addr)(n c1:Nat)(xs:List Nat)(l:Option Addr)(m c2:Nat)(ys:List Nat)(w:World)(h1:Zq .u32 w I n c1 xs)(h:Zq .u32 w l m c2 ys)(U:Lim xs)(s:Lim ys):
 Calls prog 60 #[.slice I n c1,.slice l m c2] w (Xr w (N9 xs ys)):=by
 by_cases t:Zm xs=true
 case neg =>
  have ar:Zm xs=false:=by simpa using t
  have f:N9 xs ys=([],1):=by simp[N9,ar]
  rw[f];clear f t;go_enter func60,ntmps60;go_wp2_with (first
   | (go_at_call 78;(with_reducible refine (Z4 _ _ _ _ _ h1).mono ?_);rintro e w'⟨rfl,rfl⟩)
   | (go_at_call 78;(with_reducible refine (Z4 _ _ _ _ _ h).mono ?_);rintro e w'⟨rfl,rfl⟩))
  go_ret2;exact⟨none,0,rfl,Zq.nil _ _ _ _ AE,AK _ _⟩
 by_cases u:Zm ys=true
 case neg =>
  have au:Zm ys=false:=by simpa using u
  have f:N9 xs ys=([],1):=by simp[N9,au]
  rw[f];clear f u;go_enter func60,ntmps60;go_wp2_with (first
   | (go_at_call 78;(with_reducible refine (Z4 _ _ _ _ _ h1).mono ?_);rintro e w'⟨rfl,rfl⟩)
   | (go_at_call 78;(with_reducible refine (Z4 _ _ _ _ _ h).mono ?_);rintro e w'⟨rfl,rfl⟩))
  go_ret2;exact⟨none,0,rfl,Zq.nil _ _ _ _ AE,AK _ _⟩
 have an:=Ut xs t;have am:=Ut ys u;obtain rfl:=h1.len;obtain rfl:=h.len;have N:=Wm (P:=prog) 31 49 .u32 4 underlying31 Tryz.info34 64 AA AA;have O:∀w:World,(Instr.makeSlice 31 (.int .i64 64) (.int .i64 64)).run prog w = .ok (.slice (some ⟨w,0,none⟩) 64 64) (w.alloc (.cells (nums .u32 (List.replicate 64 0)).toArray 49)):=N;clear N;obtain⟨aw,p⟩:∃zs,Hid (List.replicate 64 0=zs):=⟨_,LH rfl⟩;rw[p.out] at O;have f:N9 xs ys=Xm (val xs*val ys):=by simp[N9,t,u]
 rw[f];clear f;go_enter func60,ntmps60;go_wp2_with (first
  | (go_at_call 78;(with_reducible refine (Z4 _ _ _ _ _ h1).mono ?_);rintro e w'⟨rfl,rfl⟩)
  | (go_at_call 78;(with_reducible refine (Z4 _ _ _ _ _ h).mono ?_);rintro e w'⟨rfl,rfl⟩))
 go_loopw [7] (RMulRel w xs ys) (λi _=>xs.length-(intOf i).toNat)
 case atStart =>
  refine⟨0,aw,AU _,rfl,?_,?_,?_,Own.new _ _ _ _,(AK _ _).alloc (AI _) _⟩
  ·rw[<-p.out];rfl
  ·rw[<-p.out];exact zeros_lim 64
  rw[<-p.out,zeros_val];simp[val]
 obtain⟨i,a,hi,rfl,J,r,L,g,d⟩:=hrel;have b:=LH J;have v:=LH L;clear J L O;by_cases F:i<xs.length
 ·obtain⟨x,Hx⟩:∃x,Hid (xs[i]? = some x):=⟨_,LH (AM F)⟩;have S:=U.of_get Hx.out;have E:=mul_fits xs ys U s an am i F;rw[Yg Hx.out] at E;have W:=LH E;clear E;go_wp2;obtain⟨V,rfl⟩:∃V:World,V=wr:=⟨_,rfl⟩;go_loopw [8,9] (RMulRel2 w x ys a i) (λ_ q _=>(64-intOf q).toNat)
  case atStart=>exact⟨0,AA,rfl,rfl,by rw[Zz7];exact g,d⟩
  clear g d;obtain⟨k,hk,rfl,rfl,g,d⟩:=hrel;have al:=Zy8 x ys (a.drop i) S s (r.drop _) k;by_cases a5:i+k<64
  ·obtain⟨b1,o1,x',rfl,az,ad,a0⟩:=(h1.below d).get (j:=i) F;obtain rfl:x=x':=by have h1:=Hx.out;rw[ad.out] at h1;injection h1 with h1;exact h1.symm
   have T:=s.getD k;obtain⟨y,o⟩:∃y,Hid (ys.getD k 0=y):=⟨_,LH rfl⟩;have Y:=LH (Nq x ys a i k (by rw[b.out];omega));obtain⟨z,Hz,a1⟩:=g.cell (i:=i+k) (by rw[Y.out,b.out];omega);have a2:=g.frozen (i+k);have B:Hid (a[i+k]? = some z):=LH (by rw[<-Zwa x ys a i k (by rw[b.out];omega)];exact Hz.out);have aq:=r.of_get B.out;rw[o.out] at T;have hb:=Ag S T aq al;have a6:(0:Int)<=(x:Int)*(y:Int):=by rw[<-Int.natCast_mul];omega
   have a7:(x:Int)*(y:Int)+(z:Int)+((Vn x ys (a.drop i) k).2:Int)<18446744073709551616:=by rw[<-Int.natCast_mul];omega
   have a8:(z:Int)+(x:Int)*(y:Int)+((Vn x ys (a.drop i) k).2:Int)<18446744073709551616:=AA
   have aa:=LH (Zze x ys a i k (by rw[b.out];omega));have M:∀q,Calls prog 79 #[.slice l ys.length c2,.int .i64 (k:Int)] (wr.drewN q) λe w'=>e = .returned (.int .u64 (y:Int))/\wr.drewN q=w':=λq=>by
    have:=Ww l ys.length c2 ys k (wr.drewN q) ((h.below d).drewN q) s;rw[o.out] at this;exact this
   have X:=LH M;clear hb M;have j1:(0:Int)<=(i:Int)+(k:Int):=AA
   have j2:(i:Int)+(k:Int)<64:=AA
   have j3:(0:Int)<=(i:Int):=AA
   have j4:(i:Int)<(xs.length:Int):=AA
   have C:IntKind.i64.wrap ((i:Int)+(k:Int))=(i:Int)+(k:Int):=i64w AA AA;have D:((i:Int)+(k:Int)).toNat=i+k:=AA
   have e3:IntKind.u64.wrap ((x:Int)*(y:Int))=(x:Int)*(y:Int):=u64w AA AA;have e4:IntKind.u64.wrap ((z:Int)+(x:Int)*(y:Int))=(z:Int)+(x:Int)*(y:Int):=u64w AA AA;have e5:IntKind.u64.wrap ((z:Int)+(x:Int)*(y:Int)+((Vn x ys (a.drop i) k).2:Int))=(z:Int)+(x:Int)*(y:Int)+((Vn x ys (a.drop i) k).2:Int):=u64w AA AA;go_wp2;go_quiet ((go_at_call 79;exact Lk (X.out _)))
   clear C D e3 e4 e5;go_wp2;go_roundw
   case rel =>
    refine⟨k+1,AA,AF,?_,?_,(Fp d _).setCell AE _⟩
    ·have ap:=B.out;simp only[Vn,o.out];rw[show (a.drop i).getD k 0=z from by simp[Ea,ap]];go_num
    have:=(g.drewN nq).set_ (i+k) ((x*y+z+(Vn x ys (a.drop i) k).2) % 4294967296);have R:=aa.out;rw[o.out,Yg B.out] at R;rw[R] at this;rw[show ((z:Int)+(x:Int)*(y:Int)+((Vn x ys (a.drop i) k).2:Int))=(x:Int)*(y:Int)+(z:Int)+((Vn x ys (a.drop i) k).2:Int) from by omega];simpa using this
   simp[intOf] <;> omega
  obtain rfl:k=64-i:=AA
  have G:=mul_row_full x ys a i (by rw[b.out];omega) (by rw[v.out,b.out];exact W.out) (by rw[b.out];omega);rw[b.out] at G;have Z:=LH G;have a3:¬(i:Int)+((64-i:Nat):Int)<64:=AA
  clear G;go_wp2;go_roundw
  case rel =>
   obtain⟨C,D⟩:=Z.out;refine⟨i+1,_,AA,AF,D,Zx0 x ys a i _ r,?_,g,d⟩;rw[C,v.out,Y5,Yg Hx.out,Nat.add_mul,DV]
  simp[intOf] <;> omega
 obtain rfl:i=xs.length:=AA
 have H:=v.out;rw[List.take_length] at H;have ao:=g.nums (n:=64) (c:=64) b.out (AI _) AA;have ab:=LH H;clear H;go_wp2_with (go_at_call 112;(with_reducible refine (As _ _ _ _ _ ao r).mono ?_);rintro e w'⟨A,c,rfl,hN,hB⟩);go_ret2;rw[<-ab.out];exact⟨A,c,rfl,hN,Zz d hB⟩
theorem tr_EqualT(k:Option Addr)(n c1:Nat)(xs:List (Trm))(l:Option Addr)(m c2:Nat)(ys:List (Trm))(w:World)(h1:N8 w k n c1 xs)(c:N8 w l m c2 ys):
 Calls prog 142 #[.slice k n c1,.slice l m c2] w λe w'=>∃b,e = .returned (.bool b)/\(b=true↔xs=ys)/\Below w w w':=by
 have g:=h1.len;have j:=c.len;have N:=h1.cap;have O:=c.cap;have z:=LH h1;have A:=LH c;clear h1 c;by_cases s:n=m
 case neg =>
  have hi:((n:Int) != (m:Int))=true:=by rw[BN];omega
  have v:xs≠ys:=by rintro rfl;omega
  have D:=LH v;clear v s g j;go_enter func142,ntmps142;go_wp2_with fail;go_ret;exact⟨false,rfl,⟨λh=>(by cases h),λh=>absurd h D.out⟩,AK _ _⟩
 have hi:((n:Int) != (m:Int))=false:=by rw[BS];omega
 obtain rfl:n=m:=s;have E:=LH g;have F:=LH j;clear g j;go_enter func142,ntmps142;go_wp2_with fail;clear hi;go_loopw [13] (λi wr=>∃q:Nat,q<=n/\i = .int .i64 (q:Int)/\Hid (xs.take q=ys.take q)/\Hid (Below w w wr)) (λi _=>n-(intOf i).toNat)
 case atStart=>exact⟨0,AU _,rfl,LH rfl,LH (AK _ _)⟩
 obtain⟨q,J,rfl,o,a⟩:=hrel;by_cases y:q<n
 case pos =>
  obtain⟨V,W,t,rfl,L,p,p0,P,R⟩:=(z.out.below a.out).get y;obtain⟨X,Y,u,rfl,M,r,S,T,U⟩:=(A.out.below a.out).get y;have I:=Yt wr;by_cases d:t=u
  case neg =>
   have C:Hid (xs≠ys):=LH (λe=>by
    have h1:=p.out;rw[e,r.out] at h1;exact d (by simpa using h1.symm))
   have f:=eq_trm t u;have H:trmB t u=false:=by
    cases h:trmB t u
    ·rfl
    exact absurd (Bf.1 h) d
   rw[H] at f;have G:=Tryz.guardTerm;clear d;go_wp2_with fail;refine Zs AB AB ?_;repeat (go_big_quiet_step (fail))
   refine BK ?_;rintro _⟨x,rfl⟩;go_wp2_with fail;go_ret;exact⟨false,rfl,⟨λh=>(by cases h),λh=>absurd h C.out⟩,Zz a.out (Zr wr x)⟩
  subst d;have f:=eq_trm t t;rw[Bf.2 rfl] at f;have G:=Tryz.guardTerm;go_wp2_with fail;refine Zs AB AB ?_;repeat (go_big_quiet_step (fail))
  refine BK ?_;rintro _⟨x,rfl⟩;go_wp2_with fail;go_roundw
  case rel=>exact⟨q+1,AA,AF,LH (Qc o.out p.out r.out),LH (Zz a.out (Zr wr x))⟩
  simp[intOf];omega
 obtain rfl:q=n:=AA
 have B:Hid (xs=ys):=LH (by have:=o.out;rwa [AQ (by rw[E.out];exact AI _),AQ (by rw[F.out];exact AI _)] at this);go_wp2_with fail;go_ret;exact⟨true,rfl,⟨λ_=>B.out,λ_=>rfl⟩,a.out⟩
theorem tr_EqualS(k:Option Addr)(n c1:Nat)(xs:List (ByteArray))(l:Option Addr)(m c2:Nat)(ys:List (ByteArray))(w:World)(h1:Js w k n c1 xs)(c:Js w l m c2 ys):
 Calls prog 143 #[.slice k n c1,.slice l m c2] w λe w'=>∃b,e = .returned (.bool b)/\(b=true↔xs=ys)/\Below w w w':=by
 have g:=h1.len;have j:=c.len;have M:=h1.cap;have N:=c.cap;have z:=LH h1;have A:=LH c;clear h1 c;by_cases s:n=m
 case neg =>
  have hi:((n:Int) != (m:Int))=true:=by rw[BN];omega
  have v:xs≠ys:=by rintro rfl;omega
  have D:=LH v;clear v s g j;go_enter func143,ntmps143;go_wp2_with fail;go_ret;exact⟨false,rfl,⟨λh=>(by cases h),λh=>absurd h D.out⟩,AK _ _⟩
 have hi:((n:Int) != (m:Int))=false:=by rw[BS];omega
 obtain rfl:n=m:=s;have E:=LH g;have F:=LH j;clear g j;go_enter func143,ntmps143;go_wp2_with fail;clear hi;go_loopw [13] (λi wr=>∃q:Nat,q<=n/\i = .int .i64 (q:Int)/\Hid (xs.take q=ys.take q)/\Hid (Below w w wr)) (λi _=>n-(intOf i).toNat)
 case atStart=>exact⟨0,AU _,rfl,LH rfl,LH (AK _ _)⟩
 obtain⟨q,I,rfl,o,a⟩:=hrel;by_cases y:q<n
 case pos =>
  obtain⟨P,R,t,rfl,J,p,p0⟩:=(z.out.below a.out).get y;obtain⟨S,T,u,rfl,L,r,O⟩:=(A.out.below a.out).get y;have H:=Yt wr;by_cases d:t=u
  case neg =>
   have C:Hid (xs≠ys):=LH (λe=>by
    have h1:=p.out;rw[e,r.out] at h1;exact d (by simpa using h1.symm))
   have f:(t==u)=false:=by
    cases h:t==u
    ·rfl
    exact absurd (Zx5.1 h) d
   have G:(t.toList==u.toList)=false:=by rw[<-beq_toListBytes];exact f
   clear d;go_wp2_with fail;refine Zs AB AB ?_;repeat (go_big_quiet_step (fail))
   refine BK ?_;rintro _⟨x,rfl⟩;go_wp2_with fail;go_ret;exact⟨false,rfl,⟨λh=>(by cases h),λh=>absurd h C.out⟩,Zz a.out (Zr wr x)⟩
  subst d;have f:(t==t)=true:=Zx5.2 rfl;have G:(t.toList==t.toList)=true:=by rw[<-beq_toListBytes];exact f
  go_wp2_with fail;refine Zs AB AB ?_;repeat (go_big_quiet_step (fail))
  refine BK ?_;rintro _⟨x,rfl⟩;go_wp2_with fail;go_roundw
  case rel=>exact⟨q+1,AA,AF,LH (Qc o.out p.out r.out),LH (Zz a.out (Zr wr x))⟩
  simp[intOf];omega
 obtain rfl:q=n:=AA
 have B:Hid (xs=ys):=LH (by have:=o.out;rwa [AQ (by rw[E.out];exact AI _),AQ (by rw[F.out];exact AI _)] at this);go_wp2_with fail;go_ret;exact⟨true,rfl,⟨λ_=>B.out,λ_=>rfl⟩,a.out⟩
theorem tr_EqualI(j:Option Addr)(n c1:Nat)(xs:List (Int))(k:Option Addr)(m c2:Nat)(ys:List (Int))(w:World)(h1:Za .i64 w j n c1 xs)(c:Za .i64 w k m c2 ys):
 Calls prog 195 #[.slice j n c1,.slice k m c2] w λe w'=>∃b,e = .returned (.bool b)/\(b=true↔xs=ys)/\Below w w w':=by
 have f:=h1.len;have g:=c.len;have L:=h1.cap;have M:=c.cap;have y:=LH h1;have z:=LH c;clear h1 c;by_cases r:n=m
 case neg =>
  have hi:((n:Int) != (m:Int))=true:=by rw[BN];omega
  have s:xs≠ys:=by rintro rfl;omega
  have C:=LH s;clear s r f g;go_enter func195,ntmps195;go_wp2_with fail;go_ret;exact⟨false,rfl,⟨λh=>(by cases h),λh=>absurd h C.out⟩,AK _ _⟩
 have hi:((n:Int) != (m:Int))=false:=by rw[BS];omega
 obtain rfl:n=m:=r;have D:=LH f;have E:=LH g;clear f g;go_enter func195,ntmps195;go_wp2_with fail;clear hi;go_loopw [13] (λi wr=>∃q:Nat,q<=n/\i = .int .i64 (q:Int)/\Hid (xs.take q=ys.take q)/\Hid (Below w w wr)) (λi _=>n-(intOf i).toNat)
 case atStart=>exact⟨0,AU _,rfl,LH rfl,LH (AK _ _)⟩
 obtain⟨q,H,rfl,l,a⟩:=hrel;by_cases v:q<n
 case pos =>
  obtain⟨O,P,t,rfl,I,o,p0⟩:=(y.out.below a.out).get v;obtain⟨R,S,u,rfl,J,p,N⟩:=(z.out.below a.out).get v;have G:=Yt wr;by_cases d:t=u
  case neg =>
   have B:Hid (xs≠ys):=LH (λe=>by
    have h1:=o.out;rw[e,p.out] at h1;exact d (by simpa using h1.symm))
   have F:(t != u)=true:=by rw[BN];exact d
   clear d;go_wp2_with fail;refine Zs AB AB ?_;repeat (go_big_quiet_step (fail))
   refine BK ?_;rintro _⟨x,rfl⟩;go_wp2_with fail;go_ret;exact⟨false,rfl,⟨λh=>(by cases h),λh=>absurd h B.out⟩,Zz a.out (Zr wr x)⟩
  subst d;have F:(t != t)=false:=AE
  go_wp2_with fail;refine Zs AB AB ?_;repeat (go_big_quiet_step (fail))
  refine BK ?_;rintro _⟨x,rfl⟩;go_wp2_with fail;go_roundw
  case rel=>exact⟨q+1,AA,AF,LH (Qc l.out o.out p.out),LH (Zz a.out (Zr wr x))⟩
  simp[intOf];omega
 obtain rfl:q=n:=AA
 have A:Hid (xs=ys):=LH (by have:=l.out;rwa [AQ (by rw[D.out];exact AI _),AQ (by rw[E.out];exact AI _)] at this);go_wp2_with fail;go_ret;exact⟨true,rfl,⟨λ_=>A.out,λ_=>rfl⟩,a.out⟩
theorem two_new(w:World)(t:TypeId)(c1 c2:Array Value):Below w w ((w.alloc (.cells c1 t)).alloc (.cells c2 t))/\Blk ((w.alloc (.cells c1 t)).alloc (.cells c2 t)) w t c1/\Blk ((w.alloc (.cells c1 t)).alloc (.cells c2 t)) (w.heap.size+1) t c2:=by
 have h1:=Blk.new w t c1;have b:=Blk.new (w.alloc (.cells c1 t)) t c2;have c:=Zy w (.cells c1 t);have a:=Zy (w.alloc (.cells c1 t)) (.cells c2 t);rw[Zl] at b;exact⟨Zz c a,h1.ext a,b⟩
theorem tr_rules(At:Option Addr)(d:Nat)(t:Rul)(c:Option Addr)(f:Nat)(u:Rul)(w:World)(h1:Za .i64 w At t.right.length d t.right)(o:Za .i64 w c u.right.length f u.right):
 Calls prog 145 #[.agg #[.int .i64 t.left,.slice At t.right.length d,.int .i64 t.prec],.agg #[.int .i64 u.left,.slice c u.right.length f,.int .i64 u.prec]] w λe w'=>∃b,e = .returned (.bool b)/\(b=true↔t=u)/\Below w w w':=by
 obtain⟨l,j,k⟩:=two_new w 52 #[.int .i64 t.left,.slice At t.right.length d,.int .i64 t.prec] #[.int .i64 u.left,.slice c u.right.length f,.int .i64 u.prec];have q:=LH (tr_EqualI At t.right.length d t.right c u.right.length f u.right _ (h1.below l) (o.below l));clear h1 o;go_enter func145,ntmps145;go_upto_region 1 with fail;generalize (w.alloc (.cells #[.int .i64 t.left,.slice At t.right.length d,.int .i64 t.prec] 52)).alloc (.cells #[.int .i64 u.left,.slice c u.right.length f,.int .i64 u.prec] 52)=W at *;have m:=LH l;have A:W.cell? ⟨w,0,none⟩=some (.int .i64 t.left):=j.cell 0;have a1:W.cell? ⟨w,1,none⟩=some (.slice At t.right.length d):=j.cell 1;have a2:W.cell? ⟨w,2,none⟩=some (.int .i64 t.prec):=j.cell 2;have b0:W.cell? ⟨w+1,0,none⟩=some (.int .i64 u.left):=k.cell 0;have C:W.cell? ⟨w+1,1,none⟩=some (.slice c u.right.length f):=k.cell 1;have D:W.cell? ⟨w+1,2,none⟩=some (.int .i64 u.prec):=k.cell 2;have B:=j.lt;have E:=k.lt;clear j k l;by_cases a:t.left=u.left
 case neg =>
  have y:(t.left==u.left)=false:=by rw[AP];exact a
  have n:Hid (t≠u):=LH λe=>a (by rw[e]);clear a;go_wp2_with fail;go_ret;exact⟨false,rfl,⟨λh=>(by cases h),λh=>absurd h n.out⟩,m.out⟩
 have y:(t.left==u.left)=true:=by rw[BP];exact a
 by_cases g:t.prec=u.prec
 case neg =>
  have z:(t.prec==u.prec)=false:=by rw[AP];exact g
  have n:Hid (t≠u):=LH λe=>g (by rw[e]);clear a g;go_wp2_with fail;go_ret;exact⟨false,rfl,⟨λh=>(by cases h),λh=>absurd h n.out⟩,m.out⟩
 have z:(t.prec==u.prec)=true:=by rw[BP];exact g
 have r:=LH a;have s:=LH g;clear a g;go_wp2_with (go_at_call 195;(with_reducible refine q.out.mono ?_);rintro e F⟨v,rfl,p,x⟩);go_ret;refine⟨v,AE,⟨λh=>Zwu.1 (by unfold rulB;rw[r.out,s.out,p.1 h];simp),λh=>p.2 (by rw[h])⟩,Zz m.out x⟩
theorem tr_EqualF(z:Option Addr)(n c1:Nat)(xs:List Rul)(A:Option Addr)(m c2:Nat)(ys:List Rul)(w:World)(h1:Dv w z n c1 xs)(c:Dv w A m c2 ys):
 Calls prog 144 #[.slice z n c1,.slice A m c2,.func (.func 145) #[] #[]] w λe w'=>∃b,e = .returned (.bool b)/\(b=true↔xs=ys)/\Below w w w':=by
 have v:=h1.len;have x:=c.len;have k1:=h1.cap;have k2:=c.cap;have T:=LH h1;have U:=LH c;clear h1 c;by_cases I:n=m
 case neg =>
  have hi:((n:Int) != (m:Int))=true:=by rw[BN];omega
  have J:xs≠ys:=by rintro rfl;omega
  have Z:=LH J;clear J I v x;go_enter func144,ntmps144;go_wp2_with fail;go_ret;exact⟨false,rfl,⟨λh=>(by cases h),λh=>absurd h Z.out⟩,AK _ _⟩
 have hi:((n:Int) != (m:Int))=false:=by rw[BS];omega
 obtain rfl:n=m:=I;have L1:=LH v;have L2:=LH x;clear v x;go_enter func144,ntmps144;go_wp2_with fail;clear hi;go_loopw [17] (λi wr=>∃q:Nat,q<=n/\i = .int .i64 (q:Int)/\Hid (xs.take q=ys.take q)/\Hid (Below w w wr)) (λi _=>n-(intOf i).toNat)
 case atStart=>exact⟨0,AU _,rfl,LH rfl,LH (AK _ _)⟩
 obtain⟨q,hq,rfl,D,k⟩:=hrel;by_cases L:q<n
 case pos =>
  obtain⟨tb,ax,t,At,a,rfl,ar,E,p0,p1,p2,M⟩:=(T.out.below k.out).get L;obtain⟨s,y,u,j,l,rfl,r,F,O,P,R,N⟩:=(U.out.below k.out).get L;obtain⟨o,f,g⟩:=two_new wr 52 #[.int .i64 t.left,.slice At t.right.length a,.int .i64 t.prec] #[.int .i64 u.left,.slice j u.right.length l,.int .i64 u.prec];have d:=Zy wr (.cells #[.int .i64 t.left,.slice At t.right.length a,.int .i64 t.prec] 52);have S:=LH (tr_rules At a t j l u _ (M.below o) (N.below o));have V:=LH (Zz k.out o);have s0:=(d.cell (p:=⟨s,y+q*3,none⟩) r).trans O;have s1:=(d.cell (p:=⟨s,y+q*3+1,none⟩) r).trans P;have s2:=(d.cell (p:=⟨s,y+q*3+2,none⟩) r).trans R;have af:s<(wr.alloc (.cells #[.int .i64 t.left,.slice At t.right.length a,.int .i64 t.prec] 52)).heap.size:=AJ r d.size;clear M N;go_upto_region 7 with fail;generalize (wr.alloc (.cells #[.int .i64 t.left,.slice At t.right.length a,.int .i64 t.prec] 52)).alloc (.cells #[.int .i64 u.left,.slice j u.right.length l,.int .i64 u.prec] 52)=W at *;have a0:W.cell? ⟨wr,0,none⟩=some (.int .i64 t.left):=f.cell 0;have a1:W.cell? ⟨wr,1,none⟩=some (.slice At t.right.length a):=f.cell 1;have a2:W.cell? ⟨wr,2,none⟩=some (.int .i64 t.prec):=f.cell 2;have b0:W.cell? ⟨wr+1,0,none⟩=some (.int .i64 u.left):=g.cell 0;have b1:W.cell? ⟨wr+1,1,none⟩=some (.slice j u.right.length l):=g.cell 1;have b2:W.cell? ⟨wr+1,2,none⟩=some (.int .i64 u.prec):=g.cell 2;have al:=f.lt;have ap:=g.lt;clear f g o d p0 p1 p2 O P R s0 s1 s2 af;go_wp2_with fail;(with_reducible refine S.out.mono ?_);rintro e w6⟨bq,rfl,H,G⟩;have B:=LH (Zz V.out G);have C:=LH H;clear H G;cases bq
  case false =>
   have Y:Hid (xs≠ys):=LH (λe=>by
    have h1:=E.out;rw[e,F.out] at h1;have c:t=u:=by simpa using h1.symm
    have:=C.out.2 c;cases this)
   go_wp2_with fail;go_ret;exact⟨false,rfl,⟨λh=>(by cases h),λh=>absurd h Y.out⟩,B.out⟩
  have aa:Hid (t=u):=C.out.1 rfl;go_wp2_with fail;go_roundw
  case rel=>exact⟨q+1,AA,AF,LH (Qc D.out E.out (by rw[F.out,aa.out])),B⟩
  simp[intOf];omega
 obtain rfl:q=n:=AA
 have X:Hid (xs=ys):=LH (by have:=D.out;rwa [AQ (by rw[L1.out];exact AI _),AQ (by rw[L2.out];exact AI _)] at this);go_wp2_with fail;go_ret;exact⟨true,rfl,⟨λ_=>X.out,λ_=>rfl⟩,k.out⟩
theorem tr_Same(h k:GH)(A B:Gr)(w:World)(T:Yf w h A)(U:Yf w k B):
 Calls prog 85 #[GV h A.start,GV k B.start] w λe w'=>e = .returned (.bool (eqG A B))/\Below w w w':=by
 obtain⟨a1,n1,c1,a2,n2,c2,a3,n3,c3⟩:=h;obtain⟨j,u,n,l,v,o,m,x,p⟩:=k;have y:=LH T;have z:=LH U;have ad:=Y1.new w 26 ⟨a1,n1,c1,a2,n2,c2,a3,n3,c3⟩ A.start;have t:=Y1.new (w.alloc (.cells #[.slice a1 n1 c1,.slice a2 n2 c2,.slice a3 n3 c3,.int .i64 A.start] 26)) 26 ⟨j,u,n,l,v,o,m,x,p⟩ B.start;have X:=Zy w (.cells #[.slice a1 n1 c1,.slice a2 n2 c2,.slice a3 n3 c3,.int .i64 A.start] 26);have M:=Zy (w.alloc (.cells #[.slice a1 n1 c1,.slice a2 n2 c2,.slice a3 n3 c3,.int .i64 A.start] 26)) (.cells #[.slice j u n,.slice l v o,.slice m x p,.int .i64 B.start] 26);have ab:(w.alloc (.cells #[.slice a1 n1 c1,.slice a2 n2 c2,.slice a3 n3 c3,.int .i64 A.start] 26)).heap.size=w.heap.size+1:=Zl _ _;have L:=ad.below M;have V:=Zz X M;clear T U ad X M;go_enter func85,ntmps85;go_upto_region 1 with fail;generalize (w.alloc (.cells #[.slice a1 n1 c1,.slice a2 n2 c2,.slice a3 n3 c3,.int .i64 A.start] 26)).alloc (.cells #[.slice j u n,.slice l v o,.slice m x p,.int .i64 B.start] 26)=W at *;rw[ab] at t;have R:=LH L;have S:=LH t;have f:=LH V;have⟨y5,y0,y1,y2,y3⟩:=L;simp only[] at y0 y1 y2 y3;have⟨z5,z0,z1,z2,z3⟩:=t;simp only[] at z0 z1 z2 z3;clear L t ab V;have g:Hid (A≠B->eqG A B=false):=LH λh=>eqG_no h;have N:=LH (tr_EqualT a1 n1 c1 A.terms j u n B.terms W (y.out.below f.out).terms (z.out.below f.out).terms);go_wp2_with fail;(with_reducible refine N.out.mono ?_);rintro e W2⟨q1,rfl,Y,q⟩;have H:=LH Y;have c:=LH (Zz f.out q);have D:=LH (R.out.below q);have F:=LH (S.out.below q);clear y0 y1 y2 y3 y5 z0 z1 z2 z3 z5 Y q N R S f;have⟨y5,y0,y1,y2,y3⟩:=D.out;simp only[] at y0 y1 y2 y3;have⟨z5,z0,z1,z2,z3⟩:=F.out;simp only[] at z0 z1 z2 z3;cases q1
 case false =>
  have a:Hid (eqG A B=false):=LH (g.out λe=>by have:=H.out.2 (by rw[e]);cases this);go_wp2_with fail;go_ret;exact⟨by rw[a.out];rfl,c.out⟩
 have H1:Hid (A.terms=B.terms):=H.out.1 rfl;have O:=LH (tr_EqualS a2 n2 c2 A.nons l v o B.nons W2 (y.out.below c.out).nons (z.out.below c.out).nons);clear H;go_wp2_with fail;(with_reducible refine O.out.mono ?_);rintro e W3⟨q2,rfl,Z,r⟩;have I:=LH Z;have d:=LH (Zz c.out r);have E:=LH (D.out.below r);have G:=LH (F.out.below r);clear y0 y1 y2 y3 y5 z0 z1 z2 z3 z5 Z r O D F c;have⟨y5,y0,y1,y2,y3⟩:=E.out;simp only[] at y0 y1 y2 y3;have⟨z5,z0,z1,z2,z3⟩:=G.out;simp only[] at z0 z1 z2 z3;cases q2
 case false =>
  have a:Hid (eqG A B=false):=LH (g.out λe=>by have:=I.out.2 (by rw[e]);cases this);go_wp2_with fail;go_ret;exact⟨by rw[a.out];rfl,d.out⟩
 have H2:Hid (A.nons=B.nons):=I.out.1 rfl;have P:=LH (tr_EqualF a3 n3 c3 A.rules m x p B.rules W3 (y.out.below d.out).rules (z.out.below d.out).rules);clear I;go_wp2_with fail;(with_reducible refine P.out.mono ?_);rintro e W4⟨q3,rfl,aa,s⟩;have J:=LH aa;have C:=LH (Zz d.out s);have ah:=LH (E.out.below s);have ai:=LH (G.out.below s);clear y0 y1 y2 y3 y5 z0 z1 z2 z3 z5 aa s P E G d;have⟨y5,y0,y1,y2,y3⟩:=ah.out;simp only[] at y0 y1 y2 y3;have⟨z5,z0,z1,z2,z3⟩:=ai.out;simp only[] at z0 z1 z2 z3;cases q3
 case false =>
  have a:Hid (eqG A B=false):=LH (g.out λe=>by have:=J.out.2 (by rw[e]);cases this);go_wp2_with fail;go_ret;exact⟨by rw[a.out];rfl,C.out⟩
 have H3:Hid (A.rules=B.rules):=J.out.1 rfl;clear J;by_cases b:A.start=B.start
 case neg =>
  have i4:(A.start==B.start)=false:=by rw[AP];exact b
  have a:Hid (eqG A B=false):=g.out λe=>b (by rw[e]);clear b;go_wp2_with fail;go_ret;exact⟨by rw[a.out];rfl,C.out⟩
 have i4:(A.start==B.start)=true:=by rw[BP];exact b
 have a:Hid (eqG A B=true):=eqG_yes H1.out H2.out H3.out b;clear b;go_wp2_with fail;go_ret;exact⟨by rw[a.out];rfl,C.out⟩
section
open Go.Maps (Keyed IsMap Tidy)
theorem Zu0(j:Option Addr)(n c1:Nat)(xs:List Nat)(l:Option Addr)(m c2:Nat)(ys:List Nat)(w:World)(h1:Zq .u32 w j n c1 xs)(c:Zq .u32 w l m c2 ys)(d:Lim xs)(f:Lim ys):
 Calls prog 59 #[.slice j n c1,.slice l m c2] w (Xr w (Mu xs ys)):=by
 by_cases g:Zm xs=true
 case neg =>
  have R:Zm xs=false:=by simpa using g
  have a:Mu xs ys=([],1):=by simp[Mu,R]
  rw[a];clear a g;go_enter func59,ntmps59;go_wp2_with (first
   | (go_at_call 78;(with_reducible refine (Z4 _ _ _ _ _ h1).mono ?_);rintro e w'⟨rfl,rfl⟩)
   | (go_at_call 78;(with_reducible refine (Z4 _ _ _ _ _ c).mono ?_);rintro e w'⟨rfl,rfl⟩))
  go_ret2;exact⟨none,0,rfl,Zq.nil _ _ _ _ AE,AK _ _⟩
 by_cases h:Zm ys=true
 case neg =>
  have S:Zm ys=false:=by simpa using h
  have a:Mu xs ys=([],1):=by simp[Mu,S]
  rw[a];clear a h;go_enter func59,ntmps59;go_wp2_with (first
   | (go_at_call 78;(with_reducible refine (Z4 _ _ _ _ _ h1).mono ?_);rintro e w'⟨rfl,rfl⟩)
   | (go_at_call 78;(with_reducible refine (Z4 _ _ _ _ _ c).mono ?_);rintro e w'⟨rfl,rfl⟩))
  go_ret2;exact⟨none,0,rfl,Zq.nil _ _ _ _ AE,AK _ _⟩
 have L:=Ut xs g;have J:=Ut ys h;have a:Mu xs ys=Xm (val xs+val ys):=by simp[Mu,g,h]
 rw[a];clear a;go_enter func59,ntmps59;go_wp2_with (first
  | (go_at_call 78;(with_reducible refine (Z4 _ _ _ _ _ h1).mono ?_);rintro e w'⟨rfl,rfl⟩)
  | (go_at_call 78;(with_reducible refine (Z4 _ _ _ _ _ c).mono ?_);rintro e w'⟨rfl,rfl⟩))
 go_loopw [6,7,8] (RAddRel w xs ys) (λ_ _ i _=>(33-intOf i).toNat)
 case atStart=>exact⟨0,none,0,AU _,rfl,rfl,rfl,BJ _ _ _ _,AK _ _⟩
 obtain⟨k,A,E,U,rfl,rfl,rfl,r,b⟩:=hrel;have T:=Lg xs ys d f k;have H:=b.size;by_cases V:k<33
 ·have O:=d.getD k;have P:=f.getD k;obtain⟨x,Hx⟩:∃x,Hid (xs.getD k 0=x):=⟨_,LH rfl⟩;obtain⟨y,o⟩:∃y,Hid (ys.getD k 0=y):=⟨_,LH rfl⟩;have p:=Ww j n c1 xs k wr (h1.below b) d;have q:=Ww l m c2 ys k wr (c.below b) f;rw[Hx.out] at p O;rw[o.out] at q P;have v:=LH p;have z:=LH q;clear p q;go_wp2_with (first
   | (go_at_call 79;(with_reducible refine v.out.mono ?_);rintro e w'⟨rfl,rfl⟩)
   | (go_at_call 79;(with_reducible refine z.out.mono ?_);rintro e w'⟨rfl,rfl⟩)
   | (at_builtin;refine Vc (w:=wr) rfl _ _ 31 rfl w 49 (.int .u32 0) 4 underlying31 Tryz.info34 rfl _ k _ _ rfl r (.int .u32 (((x:Int)+(y:Int)+((V4 xs ys k).2:Int)) % 4294967296)) rfl rfl AA AA AA ?_;intro u D W N I))
  go_roundw
  case rel =>
   refine⟨k+1,u,D,AA,AF,?_,rfl,?_,X6 b I r H⟩
   ·simp only[V4,Hx.out,o.out];go_num
   simp only[V4,Hx.out,o.out,Mi];simpa using N
  simp[intOf];omega
 obtain rfl:k=33:=AA
 have s:=addP_full xs ys d f 32 L J;have B:=LH s;clear s;have M:Zq .u32 wr A 33 E (V4 xs ys 33).1:=Yl r;go_wp2_with (go_at_call 112;(with_reducible refine (As _ _ _ _ _ M (Zxn xs ys 33)).mono ?_);rintro e w'⟨t,C,rfl,G,F⟩);go_ret2;rw[<-B.out];exact⟨t,C,rfl,G,Zz b F⟩
end
theorem Zuc(a:Option Addr)(n1 c1:Nat)(b:Bool)(x:Nat)(f:Option Addr)(n2 c2:Nat)(g:Bool)(y:Nat)(w:World)(h1:Z1 w a n1 c1 b x)(v:Z1 w f n2 c2 g y):
 Calls prog 25 #[.agg #[.slice a n1 c1,.bool b],.agg #[.slice f n2 c2,.bool g]] w (RetV w (x+y)):=by
 have k1:=h1.cases;have k2:=v.cases;have z1:=h1.none_iff;have z2:=v.none_iff;have T:=LH h1.2;have U:=LH v.2;clear h1 v;have N:=Zy w (.cells #[.slice a n1 c1,.bool b] 46);have E:=Zy (w.alloc (.cells #[.slice a n1 c1,.bool b] 46)) (.cells #[.slice f n2 c2,.bool g] 46);have h:=Zy ((w.alloc (.cells #[.slice a n1 c1,.bool b] 46)).alloc (.cells #[.slice f n2 c2,.bool g] 46)) (.cells #[.slice none 0 0,.bool false] 46);have R:=(Blk.new w 46 #[.slice a n1 c1,.bool b]);have S:=(Blk.new (w.alloc (.cells #[.slice a n1 c1,.bool b] 46)) 46 #[.slice f n2 c2,.bool g]);have A:=(Blk.new ((w.alloc (.cells #[.slice a n1 c1,.bool b] 46)).alloc (.cells #[.slice f n2 c2,.bool g] 46)) 46 #[.slice none 0 0,.bool false]);have D:(w.alloc (.cells #[.slice a n1 c1,.bool b] 46)).heap.size=w.heap.size+1:=Zl _ _;have M:((w.alloc (.cells #[.slice a n1 c1,.bool b] 46)).alloc (.cells #[.slice f n2 c2,.bool g] 46)).heap.size=w.heap.size+2:=by rw[Zl,D]
 have q:=Blk.ext (Blk.ext R E) h;have o:=Blk.ext S h;have z:=Zz (Zz N E) h;rw[D] at o;rw[M] at A;go_enter func25,ntmps25;go_upto_region 1 with fail;generalize ((w.alloc (.cells #[.slice a n1 c1,.bool b] 46)).alloc (.cells #[.slice f n2 c2,.bool g] 46)).alloc (.cells #[.slice none 0 0,.bool false] 46)=W at *;clear R S D M N E h;have l1:=q.lt;have l2:=o.lt;have l3:=A.lt;have ad:W.cell? ⟨w.heap.size,0,none⟩=some (.slice a n1 c1):=q.cell 0;have J:W.cell? ⟨w.heap.size,1,none⟩=some (.bool b):=q.cell 1;have ae:W.cell? ⟨w.heap.size+1,0,none⟩=some (.slice f n2 c2):=o.cell 0;have L:W.cell? ⟨w.heap.size+1,1,none⟩=some (.bool g):=o.cell 1;have CA:=LH (Zu0 a n1 c1 (Vk x).1 f n2 c2 (Vk y).1 W (T.out.below z) (U.out.below z) (Wx x) (Wx y));have Y:=LH q;have Z:=LH o;have aa:=LH A;have V:=LH z;clear q o A z z1 z2;go_wp2_with fail;(with_reducible refine CA.out.mono ?_);rintro e t⟨H,c3,rfl,O,h⟩;clear ad J ae L CA;have B:=Y.out.ext h;have C:=Z.out.ext h;have n:=aa.out.ext h;have X:=LH (Zz V.out h);have J:t.cell? ⟨w.heap.size,1,none⟩=some (.bool b):=B.cell 1;have L:t.cell? ⟨w.heap.size+1,1,none⟩=some (.bool g):=C.cell 1;have al:t.cell? ⟨w.heap.size+2,0,none⟩=some (.slice none 0 0):=n.cell 0;have am:t.cell? ⟨w.heap.size+2,1,none⟩=some (.bool false):=n.cell 1;have an:=n.frozen 0;have ao:=n.frozen 1;have m1:=B.lt;have m2:=C.lt;have m3:=n.lt;have I:=LH O;have s:=LH (Vb n X.out (DB _ _));clear B C n O h;generalize P:Mu (Vk x).1 (Vk y).1=p at *;obtain⟨zs,er⟩:=p;simp only[] at I;have Hp:=LH P;clear P;rcases k1 with ⟨F,rfl,ex⟩ | ⟨F,rfl,ex⟩;rcases k2 with ⟨G,rfl,u⟩ | ⟨G,rfl,u⟩
 ·have k:Xm (x+y)=(zs,er):=by rw[<-Hp.out,ex,u,Nz x y F G]
  by_cases r:x+y<big
  ·unfold Xm at k;rw[if_pos r] at k;obtain⟨rfl,rfl⟩:=Prod.mk.inj k;obtain⟨c,d⟩:=s.out H (limbs (x+y)).length c3 false;have l:=LH c;have j:=LH d;have m:=LH r;clear c d k ex u r F G;go_wp2_with fail;refine AV (By (p:=4) AB _ _ (w.heap.size+2) 46 #[.slice H (limbs (x+y)).length c3,.bool false] (0,0) _ rfl j.out.1 underlying46 rfl AB) rfl ?_;refine⟨l.out,_,_,_,_,rfl,?_⟩;unfold Z1;rw[Z7 m.out];exact⟨rfl,I.out.kept j.out.2⟩
  unfold Xm at k;rw[if_neg r] at k;obtain⟨rfl,rfl⟩:=Prod.mk.inj k;clear k ex u;obtain⟨c,d⟩:=s.out none 0 0 true;have l:=LH c;have j:=LH d;have m:Hid (¬x+y<big):=LH (by exact r);clear c d;go_wp2_with fail;refine AV (By (p:=4) AB _ _ (w.heap.size+2) 46 #[.slice none 0 0,.bool true] (0,0) _ rfl j.out.1 underlying46 rfl AB) rfl ?_;exact⟨l.out,_,_,_,_,rfl,Z1.over _ m.out⟩
 ·obtain⟨c,d⟩:=s.out none 0 0 true;have l:=LH c;have j:=LH d;have m:Hid (¬x+y<big):=LH AA;clear c d;go_wp2_with fail;refine AV (By (p:=4) AB _ _ (w.heap.size+2) 46 #[.slice none 0 0,.bool true] (0,0) _ rfl j.out.1 underlying46 rfl AB) rfl ?_;exact⟨l.out,_,_,_,_,rfl,Z1.over _ m.out⟩
 obtain⟨c,d⟩:=s.out none 0 0 true;have l:=LH c;have j:=LH d;have m:Hid (¬x+y<big):=LH AA;clear c d;go_wp2_with fail;refine AV (By (p:=4) AB _ _ (w.heap.size+2) 46 #[.slice none 0 0,.bool true] (0,0) _ rfl j.out.1 underlying46 rfl AB) rfl ?_;exact⟨l.out,_,_,_,_,rfl,Z1.over _ m.out⟩
section
open Go.Maps (Keyed IsMap Tidy)
open Go.Maps (Keyed IsMap Tidy)
theorem Gt(d:Option Addr)(n1 c1:Nat)(b:Bool)(x:Nat)(g:Option Addr)(n2 c2:Nat)(k:Bool)(y:Nat)(w:World)(h1:Z1 w d n1 c1 b x)(E:Z1 w g n2 c2 k y):
 Calls prog 26 #[.agg #[.slice d n1 c1,.bool b],.agg #[.slice g n2 c2,.bool k]] w (RetV w (x*y)):=by
 have U:=h1.cases;have V:=E.cases;have v:=h1.none_iff;have B:=E.none_iff;have H1:=LH h1.2;have H2:=LH E.2;clear h1 E;have ae:=Zy w (.cells #[.slice d n1 c1,.bool b] 46);have P:=Zy (w.alloc (.cells #[.slice d n1 c1,.bool b] 46)) (.cells #[.slice g n2 c2,.bool k] 46);have l:=Zy ((w.alloc (.cells #[.slice d n1 c1,.bool b] 46)).alloc (.cells #[.slice g n2 c2,.bool k] 46)) (.cells #[.slice none 0 0,.bool false] 46);have ak:=(Blk.new w 46 #[.slice d n1 c1,.bool b]);have al:=(Blk.new (w.alloc (.cells #[.slice d n1 c1,.bool b] 46)) 46 #[.slice g n2 c2,.bool k]);have q:=(Blk.new ((w.alloc (.cells #[.slice d n1 c1,.bool b] 46)).alloc (.cells #[.slice g n2 c2,.bool k] 46)) 46 #[.slice none 0 0,.bool false]);have N:(w.alloc (.cells #[.slice d n1 c1,.bool b] 46)).heap.size=w.heap.size+1:=Zl _ _;have e2:((w.alloc (.cells #[.slice d n1 c1,.bool b] 46)).alloc (.cells #[.slice g n2 c2,.bool k] 46)).heap.size=w.heap.size+2:=by rw[Zl,N]
 have A:=Blk.ext (Blk.ext ak P) l;have t:=Blk.ext al l;have z:=Zz (Zz ae P) l;rw[N] at t;rw[e2] at q;go_enter func26,ntmps26;go_upto_region 1 with fail;generalize ((w.alloc (.cells #[.slice d n1 c1,.bool b] 46)).alloc (.cells #[.slice g n2 c2,.bool k] 46)).alloc (.cells #[.slice none 0 0,.bool false] 46)=W at *;clear ak al N e2 ae P l;have l1:=A.lt;have l2:=t.lt;have l3:=q.lt;have ba:W.cell? ⟨w.heap.size,0,none⟩=some (.slice d n1 c1):=A.cell 0;have az:W.cell? ⟨w.heap.size,1,none⟩=some (.bool b):=A.cell 1;have bb:W.cell? ⟨w.heap.size+1,0,none⟩=some (.slice g n2 c2):=t.cell 0;have a0:W.cell? ⟨w.heap.size+1,1,none⟩=some (.bool k):=t.cell 1;have a1:W.cell? ⟨w.heap.size+2,0,none⟩=some (.slice none 0 0):=q.cell 0;have a2:W.cell? ⟨w.heap.size+2,1,none⟩=some (.bool false):=q.cell 1;have a3:=q.frozen 0;have a4:=q.frozen 1;have J:=LH (Vb q z (DB _ _));have CM:=LH (ref_mul d n1 c1 (Vk x).1 g n2 c2 (Vk y).1 W (H1.out.below z) (H2.out.below z) (Wx x) (Wx y));have au:=LH A;have av:=LH t;have aw:=LH q;have HB:=LH z;clear A t q z;by_cases F:x=0
 ·obtain⟨rfl,rfl⟩:=v.2 F;clear U V v B;obtain⟨a,c⟩:=J.out none 0 0 false;have m:=LH a;have j:=LH c;have n:Hid (x*y=0):=LH (by rw[F,Nat.zero_mul]);clear a c;go_wp2_with fail;refine AV (By (p:=4) AB _ _ (w.heap.size+2) 46 #[.slice none 0 0,.bool false] (0,0) _ rfl j.out.1 underlying46 rfl AB) rfl ?_;refine⟨m.out,_,_,_,_,rfl,?_⟩;rw[n.out];exact Z1.zero _ _ _ AA
 by_cases T:y=0
 ·obtain⟨rfl,rfl⟩:=B.2 T;have u:b=false->((n1:Int)==0)=false:=λa=>by rw[AP];intro h;exact F (v.1 ⟨a,AA⟩)
  clear U V v B;rcases b with _ | _;all_goals
   first
    | (have a6:=u rfl
       clear u)
    | clear u
   obtain⟨a,c⟩:=J.out none 0 0 false;have m:=LH a;have j:=LH c;have n:Hid (x*y=0):=LH (by rw[T,Nat.mul_zero]);clear a c;go_wp2_with fail;refine AV (By (p:=4) AB _ _ (w.heap.size+2) 46 #[.slice none 0 0,.bool false] (0,0) _ rfl j.out.1 underlying46 rfl AB) rfl ?_;refine⟨m.out,_,_,_,_,rfl,?_⟩;rw[n.out];exact Z1.zero _ _ _ AA
 have u:b=false->((n1:Int)==0)=false:=λa=>by rw[AP];intro h;exact F (v.1 ⟨a,AA⟩)
 have ai:k=false->((n2:Int)==0)=false:=λa=>by rw[AP];intro h;exact T (B.1 ⟨a,AA⟩)
 have ag:x<=x*y:=Nat.le_mul_of_pos_right x AA;have ah:y<=x*y:=Nat.le_mul_of_pos_left y AA;have ax:=LH ag;have ay:=LH ah;clear v B J ag ah;rcases U with ⟨R,rfl,ex⟩ | ⟨R,rfl,ex⟩;all_goals
  rcases V with ⟨S,rfl,O⟩ | ⟨S,rfl,O⟩;all_goals
   try (have a6:=u rfl)
   try (have bc:=ai rfl)
   have aa:=LH R;have ab:=LH S;have Ex:=LH ex;have Ey:=LH O;clear u ai R S ex O;go_upto_region 4 with (first
    | (go_at_call 60;(with_reducible refine CM.out.mono ?_);rintro e C⟨X,c3,rfl,af,l⟩))
   have L:=au.out.ext l;have M:=av.out.ext l;have r:=aw.out.ext l;have ar:=LH (Zz HB.out l);have az:C.cell? ⟨w.heap.size,1,none⟩=_:=L.cell 1;have a0:C.cell? ⟨w.heap.size+1,1,none⟩=_:=M.cell 1;have a1:C.cell? ⟨w.heap.size+2,0,none⟩=some (.slice none 0 0):=r.cell 0;have a2:C.cell? ⟨w.heap.size+2,1,none⟩=some (.bool false):=r.cell 1;have a3:=r.frozen 0;have a4:=r.frozen 1;have m1:=L.lt;have m2:=M.lt;have m3:=r.lt;have Y:=LH af;have I:=LH (Vb r ar.out (DB _ _));clear L M r af l;generalize hp:N9 (Vk x).1 (Vk y).1=p at *;obtain⟨zs,D⟩:=p;simp only[] at Y;have Z:=LH hp;clear hp;have a7:(¬x*y<big)\/(x*y<big/\x<big/\y<big):=by
    by_cases f:x*y<big
    ·exact .inr ⟨f,by have:=ax.out;omega,by have:=ay.out;omega⟩
    exact .inl f
   rcases a7 with f | ⟨f,G,H⟩
   ·have a5:(λ(_:Unit)=>D) ()=D:=rfl;clear a5;by_cases s:x<big/\y<big
    ·have o:Xm (x*y)=(zs,D):=by rw[<-Z.out,<-Nw x y s.1 s.2,Z7 s.1,Z7 s.2]
     unfold Xm at o;rw[if_neg f] at o;obtain⟨rfl,rfl⟩:=Prod.mk.inj o;clear o;obtain⟨a,c⟩:=I.out none 0 0 true;have m:=LH a;have j:=LH c;have n:=LH f;clear a c f s;go_wp2_with fail;refine AV (By (p:=4) AB _ _ (w.heap.size+2) 46 #[.slice none 0 0,.bool true] (0,0) _ rfl j.out.1 underlying46 rfl AB) rfl ?_;exact⟨m.out,_,_,_,_,rfl,Z1.over _ n.out⟩
    first
     | exact absurd (And.intro aa.out ab.out) s
     | (obtain⟨a,c⟩:=I.out none 0 0 true
        have m:=LH a;have j:=LH c;have n:=LH f;clear a c f s;go_wp2_with fail;refine AV (By (p:=4) AB _ _ (w.heap.size+2) 46 #[.slice none 0 0,.bool true] (0,0) _ rfl j.out.1 underlying46 rfl AB) rfl ?_;exact⟨m.out,_,_,_,_,rfl,Z1.over _ n.out⟩)
   first
    | exact absurd G aa.out
    | exact absurd H ab.out
    | (have o:Xm (x*y)=(zs,D):=by rw[<-Z.out,<-Nw x y G H,Z7 G,Z7 H]
       unfold Xm at o;rw[if_pos f] at o;obtain⟨rfl,rfl⟩:=Prod.mk.inj o;obtain⟨a,c⟩:=I.out X (limbs (x*y)).length c3 false;have m:=LH a;have j:=LH c;have n:=LH f;clear a c o f G H;go_wp2_with fail;refine AV (By (p:=4) AB _ _ (w.heap.size+2) 46 #[.slice X (limbs (x*y)).length c3,.bool false] (0,0) _ rfl j.out.1 underlying46 rfl AB) rfl ?_;refine⟨m.out,_,_,_,_,rfl,?_⟩;unfold Z1;rw[Z7 n.out];exact⟨rfl,Y.out.kept j.out.2⟩)
end
end Go.Proofs.YtggbjdmpjidhgaaGreatDoor
