/- the program's one, those, reach: walked. -/
import Derived.Test.YtggbjdmpjidhgaaGreatDoorY08
import Derived.Test.YtggbjdmpjidhgaaGreatDoorY09
import Derived.Test.YtggbjdmpjidhgaaGreatDoorY10
set_option linter.all false
set_option maxHeartbeats 1500000
set_option maxRecDepth 100000
namespace Go.Proofs.YtggbjdmpjidhgaaGreatDoor
open Go.RowKit Go.Proofs.Tryz
variable{d g n:Nat}{c:List ((Nat × Nat × Nat) × Nat)}{G:Gr}{w w' m:World}{j A:Option Addr}{p xs:List Nat}{t:TypeId}{r:List (Value × Nat)}{S:Nat->Prop}{ts:List ((Int × Nat) × Nat)}{tab:Nat->Nat->Nat}
section
open Go.Maps (Keyed IsMap Tidy)
theorem Dm.below{l:World}{c:Nat}{q:Value}{g:Option Addr}{m:Nat}{o:List Nat}(r:Dm l d c q G w g m j n o p)(a:Below w w w'):Dm l d c q G w' g m j n o p :=
 ⟨r.off.trans (Off.of_below (S:=λk=>k=c\/k=d) a) λ_ _ h=>h,r.num.block (a.block c r.num.lt),Blk.ext r.out a,Wv r.kept λb _ f=>a.block b f,Wv r.nons λb _ f=>a.block b f⟩
theorem Zvs.below{c:Nat}{s:Value}{g:Option Addr}{o:Nat}{q:List Nat}{l:Nat}(r:Zvs m d c s G w g n j o p q l)(a:Below w w w'):Zvs m d c s G w' g n j o p q l :=
 ⟨r.off.trans (Off.of_below (S:=λk=>k=c\/k=d) a) λ_ _ h=>h,r.num.block (a.block c r.num.lt),Blk.ext r.out a,Wv r.kept λb _ f=>a.block b f,Wv r.nons λb _ f=>a.block b f⟩
theorem Z1.below{c:Nat}{b:Bool}{x:Nat}(h:Z1 w A n c b x)(a:Below w w w'):Z1 w' A n c b x:=⟨h.1,h.2.below a⟩
theorem Vp.below(h:Vp w g t xs)(a:Below w w w'):Vp w' g t xs:=h.kept (.of_below a) (a.block g h.lt)
theorem Vp.new(w:World)(t:TypeId)(n:Nat):Vp (w.alloc (.cells (zeroCells n) t)) w t (List.replicate n 0):=by
 refine⟨zeroCells n,Blk.new w t _,by rw[Fy,Ef],λj x a=>?_⟩;have b:j<n:=by have:=(AO.1 a).1;simpa using this
 obtain rfl:0=x:=by rw[List.getElem?_replicate,if_pos b] at a;exact BI a
 obtain⟨h1,c⟩:=Cl n j b;exact⟨none,0,0,false,h1,c,Z1.zero _ _ _ AA⟩
theorem nat_of(x:Nat)(w:World)(j:x<18446744073709551616):
 Calls prog 153 #[.int .u64 (x:Int)] w (Bq w (limbs x)):=by
 have h:Lim [x % 4294967296,x / 4294967296]:=Lim.mk AA (Lim.mk AA Lim.nil);have f:val [x % 4294967296,x / 4294967296]=x:=by simp[val];omega
 have a:=Vg _ h;rw[f] at a;have g:=LH a;clear a f;have d:=(Own.new w 49 .u32 [x % 4294967296,x / 4294967296]).nums (n:=2) (c:=2) rfl (AJ _) AA;have e:(nums .u32 [x % 4294967296,x / 4294967296]).toArray=#[.int .u32 ((x:Int) % 4294967296),.int .u32 ((x:Int) / 4294967296)]:=by simp[nums]
 rw[e] at d;clear e;go_enter func153,ntmps153;go_wp2_with (go_at_call 199;refine (Q3 _ _ _ _ _ d).mono ?_;rintro e w'⟨rfl,b,rfl⟩);go_ret;rw[g.out] at b ⊢;exact⟨_,_,rfl,b,(AL _ _).alloc (AJ _) _⟩
theorem nat_add_ge(l:Option Addr)(n c1:Nat)(xs:List Nat)(o:Option Addr)(m c2:Nat)(ys:List Nat)(w:World)(h1:Zq .u32 w l n c1 xs)(g:Zq .u32 w o m c2 ys)(G:Lim xs)(H:Lim ys)(I:Zm xs=true)(X:Zm ys=true)(ah:m<=n):
 Calls prog 178 #[.slice l n c1,.slice o m c2] w (Xr w (Mu xs ys)):=by
 have E:=h1.len;have F:=g.len;have ai:n<=32:=by simp[Zm] at I;omega
 have t:¬(n<m):=AA
 have u:=Wm (P:=prog) 31 49 .u32 4 underlying31 Tryz.info34 (n+1) AA AA;have ag:∀w:World,(Instr.makeSlice 31 (.int .i64 ((n:Int)+1)) (.int .i64 ((n:Int)+1))).run prog w = .ok (.slice (some ⟨w,0,none⟩) (n+1) (n+1)) (w.alloc (.cells (nums .u32 (List.replicate (n+1) 0)).toArray 49)):=u;clear u;have L:=LH E;have p:=LH F;clear E F;go_enter func178,ntmps178;go_wp2_with (first
  | (go_at_call 75;(with_reducible refine (Zb _ _ _ _ _ h1).mono ?_);rintro e w'⟨rfl,rfl⟩)
  | (go_at_call 75;(with_reducible refine (Zb _ _ _ _ _ g).mono ?_);rintro e w'⟨rfl,rfl⟩))
 go_loopw [7,31] (AddRel w xs ys n w) (λ_ i _=>n-(intOf i).toNat)
 case atStart=>exact⟨0,AV _,rfl,rfl,Own.new _ _ _ _,(AL _ _).alloc (AJ _) _⟩
 obtain⟨k,hk,rfl,rfl,a,d⟩:=hrel;have r:=Lg xs ys G H k;have v:=Mq xs ys k;have b:=LH v;clear v;by_cases t:k<n
 ·obtain⟨Y,o1,x,rfl,aa,Hx,ad⟩:=(h1.below d).get (j:=k) t;have C:=G.of_get Hx.out;have T:=a.frozen k;obtain⟨z,N,S⟩:=a.cell (i:=k) (by simp[b.out];omega);by_cases U:k<m
  ·obtain⟨Z,o2,y,rfl,ab,f,ae⟩:=(g.below d).get (j:=k) U;have W:=H.of_get f.out;go_wp2_with (go_at_call 208;(with_reducible refine (Dg x y _ _ C W r).mono ?_);rintro e w'⟨rfl,rfl⟩);go_roundw
   case rel =>
    refine⟨k+1,AA,AF,?_,?_,d.setCell AE _⟩
    ·simp only[V4,Yg Hx.out,Yg f.out];go_num
    have:=a.set_ k ((x+y+(V4 xs ys k).2) % 4294967296);rw[M8 _ k (n+1) _ b.out AA] at this;simpa [V4,Hx.out,f.out] using this
   simp[intOf];omega
  have q:=LH (K8 (xs:=ys) (j:=k) (by have:=p.out;omega));go_wp2_with (go_at_call 208;(with_reducible refine (L5 x _ _ C r).mono ?_);rintro e w'⟨rfl,rfl⟩);go_roundw
  case rel =>
   refine⟨k+1,AA,AF,?_,?_,d.setCell AE _⟩
   ·simp only[V4,Yg Hx.out,q.out];go_num
   have:=a.set_ k ((x+0+(V4 xs ys k).2) % 4294967296);rw[M8 _ k (n+1) _ b.out AA] at this;have D:=q.out;rw[AP] at D;simpa [V4,Hx.out,D] using this
  simp[intOf];omega
 obtain rfl:k=n:=AA
 have T:=a.frozen k;obtain⟨z,N,S⟩:=a.cell (i:=k) (by simp[b.out]);have h:=a.set_ k (V4 xs ys k).2;rw[M8 _ k (k+1) _ b.out AA,Nat.sub_self,List.replicate_zero,DH] at h;have V:=h.nums (n:=k+1) (c:=k+1) (by simp[b.out]) (AJ _) AA;have B:=Zx4 xs ys k (by have:=L.out;omega) (by have:=p.out;omega);have M:=LH B;have s:Mu xs ys=Xm (val xs+val ys):=by simp[Mu,I,X]
 have J:=LH s;clear B s h;go_wp2_with (go_at_call 207;(with_reducible refine (Ztv _ _ _ _ _ V ((Zxn xs ys k).append (Lim.mk AA Lim.nil))).mono ?_);rintro e w'⟨A,c,rfl,R,O⟩);go_ret2;rw[J.out,<-M.out];exact⟨A,c,rfl,R,Zz (d.setCell AE _) O⟩
theorem nat_add_lt(l:Option Addr)(n c1:Nat)(xs:List Nat)(o:Option Addr)(m c2:Nat)(ys:List Nat)(w:World)(h1:Zq .u32 w l n c1 xs)(g:Zq .u32 w o m c2 ys)(G:Lim xs)(H:Lim ys)(I:Zm xs=true)(Y:Zm ys=true)(V:m<n):
 Calls prog 178 #[.slice o m c2,.slice l n c1] w (Xr w (Mu ys xs)):=by
 have E:=h1.len;have F:=g.len;have ai:n<=32:=by simp[Zm] at I;omega
 have t:m<n:=V;have u:=Wm (P:=prog) 31 49 .u32 4 underlying31 Tryz.info34 (n+1) AA AA;have ah:∀w:World,(Instr.makeSlice 31 (.int .i64 ((n:Int)+1)) (.int .i64 ((n:Int)+1))).run prog w = .ok (.slice (some ⟨w,0,none⟩) (n+1) (n+1)) (w.alloc (.cells (nums .u32 (List.replicate (n+1) 0)).toArray 49)):=u;clear u;have L:=LH E;have p:=LH F;clear E F;go_enter func178,ntmps178;go_wp2_with (first
  | (go_at_call 75;(with_reducible refine (Zb _ _ _ _ _ g).mono ?_);rintro e w'⟨rfl,rfl⟩)
  | (go_at_call 75;(with_reducible refine (Zb _ _ _ _ _ h1).mono ?_);rintro e w'⟨rfl,rfl⟩))
 go_loopw [7,31] (AddRel w xs ys n w) (λ_ i _=>n-(intOf i).toNat)
 case atStart=>exact⟨0,AV _,rfl,rfl,Own.new _ _ _ _,(AL _ _).alloc (AJ _) _⟩
 obtain⟨k,hk,rfl,rfl,a,d⟩:=hrel;have r:=Lg xs ys G H k;have v:=Mq xs ys k;have b:=LH v;clear v;by_cases t:k<n
 ·obtain⟨Z,o1,x,rfl,ab,Hx,ae⟩:=(h1.below d).get (j:=k) t;have C:=G.of_get Hx.out;have T:=a.frozen k;obtain⟨z,N,S⟩:=a.cell (i:=k) (by simp[b.out];omega);by_cases U:k<m
  ·obtain⟨b2,o2,y,rfl,ad,f,af⟩:=(g.below d).get (j:=k) U;have X:=H.of_get f.out;go_wp2_with (go_at_call 208;(with_reducible refine (Dg x y _ _ C X r).mono ?_);rintro e w'⟨rfl,rfl⟩);go_roundw
   case rel =>
    refine⟨k+1,AA,AF,?_,?_,d.setCell AE _⟩
    ·simp only[V4,Yg Hx.out,Yg f.out];go_num
    have:=a.set_ k ((x+y+(V4 xs ys k).2) % 4294967296);rw[M8 _ k (n+1) _ b.out AA] at this;simpa [V4,Hx.out,f.out] using this
   simp[intOf];omega
  have q:=LH (K8 (xs:=ys) (j:=k) (by have:=p.out;omega));go_wp2_with (go_at_call 208;(with_reducible refine (L5 x _ _ C r).mono ?_);rintro e w'⟨rfl,rfl⟩);go_roundw
  case rel =>
   refine⟨k+1,AA,AF,?_,?_,d.setCell AE _⟩
   ·simp only[V4,Yg Hx.out,q.out];go_num
   have:=a.set_ k ((x+0+(V4 xs ys k).2) % 4294967296);rw[M8 _ k (n+1) _ b.out AA] at this;have D:=q.out;rw[AP] at D;simpa [V4,Hx.out,D] using this
  simp[intOf];omega
 obtain rfl:k=n:=AA
 have T:=a.frozen k;obtain⟨z,N,S⟩:=a.cell (i:=k) (by simp[b.out]);have h:=a.set_ k (V4 xs ys k).2;rw[M8 _ k (k+1) _ b.out AA,Nat.sub_self,List.replicate_zero,DH] at h;have W:=h.nums (n:=k+1) (c:=k+1) (by simp[b.out]) (AJ _) AA;have B:=Zx4 xs ys k (by have:=L.out;omega) (by have:=p.out;omega);have M:=LH B;have s:Mu ys xs=Xm (val xs+val ys):=by simp[Mu,I,Y,Eo]
 have J:=LH s;clear B s h;go_wp2_with (go_at_call 207;(with_reducible refine (Ztv _ _ _ _ _ W ((Zxn xs ys k).append (Lim.mk AA Lim.nil))).mono ?_);rintro e w'⟨A,c,rfl,R,O⟩);go_ret2;rw[J.out,<-M.out];exact⟨A,c,rfl,R,Zz (d.setCell AE _) O⟩
theorem nat_add(b:Option Addr)(n c1:Nat)(xs:List Nat)(c:Option Addr)(m c2:Nat)(ys:List Nat)(w:World)(h1:Zq .u32 w b n c1 xs)(d:Zq .u32 w c m c2 ys)(h:Lim xs)(j:Lim ys):
 Calls prog 178 #[.slice b n c1,.slice c m c2] w (Xr w (Mu xs ys)):=by
 by_cases f:Zm xs=true
 ·by_cases g:Zm ys=true
  ·by_cases k:m<=n
   ·exact nat_add_ge b n c1 xs c m c2 ys w h1 d h j f g k
   exact nat_add_lt c m c2 ys b n c1 xs w d h1 j h g f AA
  have o:Zm ys=false:=by simpa using g
  have a:Mu xs ys=([],1):=by simp[Mu,o]
  rw[a];clear a g;go_enter func178,ntmps178;go_wp2_with (first
   | (go_at_call 75;(with_reducible refine (Zb _ _ _ _ _ h1).mono ?_);rintro e w'⟨rfl,rfl⟩)
   | (go_at_call 75;(with_reducible refine (Zb _ _ _ _ _ d).mono ?_);rintro e w'⟨rfl,rfl⟩))
  go_ret2;exact⟨none,0,rfl,Zq.nil _ _ _ _ AE,AL _ _⟩
 have l:Zm xs=false:=by simpa using f
 have a:Mu xs ys=([],1):=by simp[Mu,l]
 rw[a];clear a f;go_enter func178,ntmps178;go_wp2_with (first
  | (go_at_call 75;(with_reducible refine (Zb _ _ _ _ _ h1).mono ?_);rintro e w'⟨rfl,rfl⟩)
  | (go_at_call 75;(with_reducible refine (Zb _ _ _ _ _ d).mono ?_);rintro e w'⟨rfl,rfl⟩))
 go_ret2;exact⟨none,0,rfl,Zq.nil _ _ _ _ AE,AL _ _⟩
theorem Zu0(j:Option Addr)(n c1:Nat)(xs:List Nat)(l:Option Addr)(m c2:Nat)(ys:List Nat)(w:World)(h1:Zq .u32 w j n c1 xs)(c:Zq .u32 w l m c2 ys)(d:Lim xs)(f:Lim ys):
 Calls prog 59 #[.slice j n c1,.slice l m c2] w (Xr w (Mu xs ys)):=by
 by_cases g:Zm xs=true
 case neg =>
  have R:Zm xs=false:=by simpa using g
  have a:Mu xs ys=([],1):=by simp[Mu,R]
  rw[a];clear a g;go_enter func59,ntmps59;go_wp2_with (first
   | (go_at_call 78;(with_reducible refine (Z4 _ _ _ _ _ h1).mono ?_);rintro e w'⟨rfl,rfl⟩)
   | (go_at_call 78;(with_reducible refine (Z4 _ _ _ _ _ c).mono ?_);rintro e w'⟨rfl,rfl⟩))
  go_ret2;exact⟨none,0,rfl,Zq.nil _ _ _ _ AE,AL _ _⟩
 by_cases h:Zm ys=true
 case neg =>
  have S:Zm ys=false:=by simpa using h
  have a:Mu xs ys=([],1):=by simp[Mu,S]
  rw[a];clear a h;go_enter func59,ntmps59;go_wp2_with (first
   | (go_at_call 78;(with_reducible refine (Z4 _ _ _ _ _ h1).mono ?_);rintro e w'⟨rfl,rfl⟩)
   | (go_at_call 78;(with_reducible refine (Z4 _ _ _ _ _ c).mono ?_);rintro e w'⟨rfl,rfl⟩))
  go_ret2;exact⟨none,0,rfl,Zq.nil _ _ _ _ AE,AL _ _⟩
 have L:=Ut xs g;have J:=Ut ys h;have a:Mu xs ys=Xm (val xs+val ys):=by simp[Mu,g,h]
 rw[a];clear a;go_enter func59,ntmps59;go_wp2_with (first
  | (go_at_call 78;(with_reducible refine (Z4 _ _ _ _ _ h1).mono ?_);rintro e w'⟨rfl,rfl⟩)
  | (go_at_call 78;(with_reducible refine (Z4 _ _ _ _ _ c).mono ?_);rintro e w'⟨rfl,rfl⟩))
 go_loopw [6,7,8] (RAddRel w xs ys) (λ_ _ i _=>(33-intOf i).toNat)
 case atStart=>exact⟨0,none,0,AV _,rfl,rfl,rfl,BJ _ _ _ _,AL _ _⟩
 obtain⟨k,A,E,U,rfl,rfl,rfl,r,b⟩:=hrel;have T:=Lg xs ys d f k;have H:=b.size;by_cases V:k<33
 ·have O:=d.getD k;have P:=f.getD k;obtain⟨x,Hx⟩:∃x,Hid (xs.getD k 0=x):=⟨_,LH rfl⟩;obtain⟨y,o⟩:∃y,Hid (ys.getD k 0=y):=⟨_,LH rfl⟩;have p:=Ww j n c1 xs k wr (h1.below b) d;have q:=Ww l m c2 ys k wr (c.below b) f;rw[Hx.out] at p O;rw[o.out] at q P;have v:=LH p;have z:=LH q;clear p q;go_wp2_with (first
   | (go_at_call 79;(with_reducible refine v.out.mono ?_);rintro e w'⟨rfl,rfl⟩)
   | (go_at_call 79;(with_reducible refine z.out.mono ?_);rintro e w'⟨rfl,rfl⟩)
   | (at_builtin;refine Vc (w:=wr) rfl _ _ 31 rfl w 49 (.int .u32 0) 4 underlying31 Tryz.info34 rfl _ k _ _ rfl r (.int .u32 (((x:Int)+(y:Int)+((V4 xs ys k).2:Int)) % 4294967296)) rfl rfl AA AA AA ?_;intro u D W N I))
  go_roundw
  case rel =>
   refine⟨k+1,u,D,AA,AF,?_,rfl,?_,X6 b I r H⟩
   ·simp only[V4,Hx.out,o.out];go_num
   simp only[V4,Hx.out,o.out,Mi];simpa using N
  simp[intOf];omega
 obtain rfl:k=33:=AA
 have s:=addP_full xs ys d f 32 L J;have B:=LH s;clear s;have M:Zq .u32 wr A 33 E (V4 xs ys 33).1:=Yl r;go_wp2_with (go_at_call 112;(with_reducible refine (As _ _ _ _ _ M (Zxn xs ys 33)).mono ?_);rintro e w'⟨t,C,rfl,G,F⟩);go_ret2;rw[<-B.out];exact⟨t,C,rfl,G,Zz b F⟩
end
theorem ref_mul(I:Option Addr)(n c1:Nat)(xs:List Nat)(l:Option Addr)(m c2:Nat)(ys:List Nat)(w:World)(h1:Zq .u32 w I n c1 xs)(h:Zq .u32 w l m c2 ys)(U:Lim xs)(s:Lim ys):
 Calls prog 60 #[.slice I n c1,.slice l m c2] w (Xr w (N9 xs ys)):=by
 by_cases t:Zm xs=true
 case neg =>
  have ar:Zm xs=false:=by simpa using t
  have f:N9 xs ys=([],1):=by simp[N9,ar]
  rw[f];clear f t;go_enter func60,ntmps60;go_wp2_with (first
   | (go_at_call 78;(with_reducible refine (Z4 _ _ _ _ _ h1).mono ?_);rintro e w'⟨rfl,rfl⟩)
   | (go_at_call 78;(with_reducible refine (Z4 _ _ _ _ _ h).mono ?_);rintro e w'⟨rfl,rfl⟩))
  go_ret2;exact⟨none,0,rfl,Zq.nil _ _ _ _ AE,AL _ _⟩
 by_cases u:Zm ys=true
 case neg =>
  have au:Zm ys=false:=by simpa using u
  have f:N9 xs ys=([],1):=by simp[N9,au]
  rw[f];clear f u;go_enter func60,ntmps60;go_wp2_with (first
   | (go_at_call 78;(with_reducible refine (Z4 _ _ _ _ _ h1).mono ?_);rintro e w'⟨rfl,rfl⟩)
   | (go_at_call 78;(with_reducible refine (Z4 _ _ _ _ _ h).mono ?_);rintro e w'⟨rfl,rfl⟩))
  go_ret2;exact⟨none,0,rfl,Zq.nil _ _ _ _ AE,AL _ _⟩
 have an:=Ut xs t;have am:=Ut ys u;obtain rfl:=h1.len;obtain rfl:=h.len;have N:=Wm (P:=prog) 31 49 .u32 4 underlying31 Tryz.info34 64 AA AA;have O:∀w:World,(Instr.makeSlice 31 (.int .i64 64) (.int .i64 64)).run prog w = .ok (.slice (some ⟨w,0,none⟩) 64 64) (w.alloc (.cells (nums .u32 (List.replicate 64 0)).toArray 49)):=N;clear N;obtain⟨aw,p⟩:∃zs,Hid (List.replicate 64 0=zs):=⟨_,LH rfl⟩;rw[p.out] at O;have f:N9 xs ys=Xm (val xs*val ys):=by simp[N9,t,u]
 rw[f];clear f;go_enter func60,ntmps60;go_wp2_with (first
  | (go_at_call 78;(with_reducible refine (Z4 _ _ _ _ _ h1).mono ?_);rintro e w'⟨rfl,rfl⟩)
  | (go_at_call 78;(with_reducible refine (Z4 _ _ _ _ _ h).mono ?_);rintro e w'⟨rfl,rfl⟩))
 go_loopw [7] (RMulRel w xs ys) (λi _=>xs.length-(intOf i).toNat)
 case atStart =>
  refine⟨0,aw,AV _,rfl,?_,?_,?_,Own.new _ _ _ _,(AL _ _).alloc (AJ _) _⟩
  ·rw[<-p.out];rfl
  ·rw[<-p.out];exact zeros_lim 64
  rw[<-p.out,zeros_val];simp[val]
 obtain⟨i,a,hi,rfl,J,r,L,g,d⟩:=hrel;have b:=LH J;have v:=LH L;clear J L O;by_cases F:i<xs.length
 ·obtain⟨x,Hx⟩:∃x,Hid (xs[i]? = some x):=⟨_,LH (AN F)⟩;have S:=U.of_get Hx.out;have E:=mul_fits xs ys U s an am i F;rw[Yg Hx.out] at E;have W:=LH E;clear E;go_wp2;obtain⟨V,rfl⟩:∃V:World,V=wr:=⟨_,rfl⟩;go_loopw [8,9] (RMulRel2 w x ys a i) (λ_ q _=>(64-intOf q).toNat)
  case atStart=>exact⟨0,AA,rfl,rfl,by rw[Zz7];exact g,d⟩
  clear g d;obtain⟨k,hk,rfl,rfl,g,d⟩:=hrel;have al:=Zy8 x ys (a.drop i) S s (r.drop _) k;by_cases a5:i+k<64
  ·obtain⟨b1,o1,x',rfl,az,ad,a0⟩:=(h1.below d).get (j:=i) F;obtain rfl:x=x':=by have h1:=Hx.out;rw[ad.out] at h1;injection h1 with h1;exact h1.symm
   have T:=s.getD k;obtain⟨y,o⟩:∃y,Hid (ys.getD k 0=y):=⟨_,LH rfl⟩;have Y:=LH (Nq x ys a i k (by rw[b.out];omega));obtain⟨z,Hz,a1⟩:=g.cell (i:=i+k) (by rw[Y.out,b.out];omega);have a2:=g.frozen (i+k);have B:Hid (a[i+k]? = some z):=LH (by rw[<-Zwa x ys a i k (by rw[b.out];omega)];exact Hz.out);have aq:=r.of_get B.out;rw[o.out] at T;have hb:=Ag S T aq al;have a6:(0:Int)<=(x:Int)*(y:Int):=by rw[<-Int.natCast_mul];omega
   have a7:(x:Int)*(y:Int)+(z:Int)+((Vn x ys (a.drop i) k).2:Int)<18446744073709551616:=by rw[<-Int.natCast_mul];omega
   have a8:(z:Int)+(x:Int)*(y:Int)+((Vn x ys (a.drop i) k).2:Int)<18446744073709551616:=AA
   have aa:=LH (Zze x ys a i k (by rw[b.out];omega));have M:∀q,Calls prog 79 #[.slice l ys.length c2,.int .i64 (k:Int)] (wr.drewN q) λe w'=>e = .returned (.int .u64 (y:Int))/\wr.drewN q=w':=λq=>by
    have:=Ww l ys.length c2 ys k (wr.drewN q) ((h.below d).drewN q) s;rw[o.out] at this;exact this
   have X:=LH M;clear hb M;have j1:(0:Int)<=(i:Int)+(k:Int):=AA
   have j2:(i:Int)+(k:Int)<64:=AA
   have j3:(0:Int)<=(i:Int):=AA
   have j4:(i:Int)<(xs.length:Int):=AA
   have C:IntKind.i64.wrap ((i:Int)+(k:Int))=(i:Int)+(k:Int):=i64w AA AA;have D:((i:Int)+(k:Int)).toNat=i+k:=AA
   have e3:IntKind.u64.wrap ((x:Int)*(y:Int))=(x:Int)*(y:Int):=u64w AA AA;have e4:IntKind.u64.wrap ((z:Int)+(x:Int)*(y:Int))=(z:Int)+(x:Int)*(y:Int):=u64w AA AA;have e5:IntKind.u64.wrap ((z:Int)+(x:Int)*(y:Int)+((Vn x ys (a.drop i) k).2:Int))=(z:Int)+(x:Int)*(y:Int)+((Vn x ys (a.drop i) k).2:Int):=u64w AA AA;go_wp2;go_quiet ((go_at_call 79;exact Lk (X.out _)))
   clear C D e3 e4 e5;go_wp2;go_roundw
   case rel =>
    refine⟨k+1,AA,AF,?_,?_,(Fp d _).setCell AE _⟩
    ·have ap:=B.out;simp only[Vn,o.out];rw[show (a.drop i).getD k 0=z from by simp[DY,ap]];go_num
    have:=(g.drewN nq).set_ (i+k) ((x*y+z+(Vn x ys (a.drop i) k).2) % 4294967296);have R:=aa.out;rw[o.out,Yg B.out] at R;rw[R] at this;rw[show ((z:Int)+(x:Int)*(y:Int)+((Vn x ys (a.drop i) k).2:Int))=(x:Int)*(y:Int)+(z:Int)+((Vn x ys (a.drop i) k).2:Int) from by omega];simpa using this
   simp[intOf] <;> omega
  obtain rfl:k=64-i:=AA
  have G:=mul_row_full x ys a i (by rw[b.out];omega) (by rw[v.out,b.out];exact W.out) (by rw[b.out];omega);rw[b.out] at G;have Z:=LH G;have a3:¬(i:Int)+((64-i:Nat):Int)<64:=AA
  clear G;go_wp2;go_roundw
  case rel =>
   obtain⟨C,D⟩:=Z.out;refine⟨i+1,_,AA,AF,D,Zx0 x ys a i _ r,?_,g,d⟩;rw[C,v.out,Y5,Yg Hx.out,Nat.add_mul,DU]
  simp[intOf] <;> omega
 obtain rfl:i=xs.length:=AA
 have H:=v.out;rw[List.take_length] at H;have ao:=g.nums (n:=64) (c:=64) b.out (AJ _) AA;have ab:=LH H;clear H;go_wp2_with (go_at_call 112;(with_reducible refine (As _ _ _ _ _ ao r).mono ?_);rintro e w'⟨A,c,rfl,hN,hB⟩);go_ret2;rw[<-ab.out];exact⟨A,c,rfl,hN,Zz d hB⟩
theorem Zuc(a:Option Addr)(n1 c1:Nat)(b:Bool)(x:Nat)(f:Option Addr)(n2 c2:Nat)(g:Bool)(y:Nat)(w:World)(h1:Z1 w a n1 c1 b x)(v:Z1 w f n2 c2 g y):
 Calls prog 25 #[.agg #[.slice a n1 c1,.bool b],.agg #[.slice f n2 c2,.bool g]] w (RetV w (x+y)):=by
 have k1:=h1.cases;have k2:=v.cases;have z1:=h1.none_iff;have z2:=v.none_iff;have T:=LH h1.2;have U:=LH v.2;clear h1 v;have N:=Zy w (.cells #[.slice a n1 c1,.bool b] 46);have E:=Zy (w.alloc (.cells #[.slice a n1 c1,.bool b] 46)) (.cells #[.slice f n2 c2,.bool g] 46);have h:=Zy ((w.alloc (.cells #[.slice a n1 c1,.bool b] 46)).alloc (.cells #[.slice f n2 c2,.bool g] 46)) (.cells #[.slice none 0 0,.bool false] 46);have R:=(Blk.new w 46 #[.slice a n1 c1,.bool b]);have S:=(Blk.new (w.alloc (.cells #[.slice a n1 c1,.bool b] 46)) 46 #[.slice f n2 c2,.bool g]);have A:=(Blk.new ((w.alloc (.cells #[.slice a n1 c1,.bool b] 46)).alloc (.cells #[.slice f n2 c2,.bool g] 46)) 46 #[.slice none 0 0,.bool false]);have D:(w.alloc (.cells #[.slice a n1 c1,.bool b] 46)).heap.size=w.heap.size+1:=Zl _ _;have M:((w.alloc (.cells #[.slice a n1 c1,.bool b] 46)).alloc (.cells #[.slice f n2 c2,.bool g] 46)).heap.size=w.heap.size+2:=by rw[Zl,D]
 have q:=Blk.ext (Blk.ext R E) h;have o:=Blk.ext S h;have z:=Zz (Zz N E) h;rw[D] at o;rw[M] at A;go_enter func25,ntmps25;go_upto_region 1 with fail;generalize ((w.alloc (.cells #[.slice a n1 c1,.bool b] 46)).alloc (.cells #[.slice f n2 c2,.bool g] 46)).alloc (.cells #[.slice none 0 0,.bool false] 46)=W at *;clear R S D M N E h;have l1:=q.lt;have l2:=o.lt;have l3:=A.lt;have ad:W.cell? ⟨w.heap.size,0,none⟩=some (.slice a n1 c1):=q.cell 0;have J:W.cell? ⟨w.heap.size,1,none⟩=some (.bool b):=q.cell 1;have ae:W.cell? ⟨w.heap.size+1,0,none⟩=some (.slice f n2 c2):=o.cell 0;have L:W.cell? ⟨w.heap.size+1,1,none⟩=some (.bool g):=o.cell 1;have CA:=LH (Zu0 a n1 c1 (Vk x).1 f n2 c2 (Vk y).1 W (T.out.below z) (U.out.below z) (Wx x) (Wx y));have Y:=LH q;have Z:=LH o;have aa:=LH A;have V:=LH z;clear q o A z z1 z2;go_wp2_with fail;(with_reducible refine CA.out.mono ?_);rintro e t⟨H,c3,rfl,O,h⟩;clear ad J ae L CA;have B:=Y.out.ext h;have C:=Z.out.ext h;have n:=aa.out.ext h;have X:=LH (Zz V.out h);have J:t.cell? ⟨w.heap.size,1,none⟩=some (.bool b):=B.cell 1;have L:t.cell? ⟨w.heap.size+1,1,none⟩=some (.bool g):=C.cell 1;have al:t.cell? ⟨w.heap.size+2,0,none⟩=some (.slice none 0 0):=n.cell 0;have am:t.cell? ⟨w.heap.size+2,1,none⟩=some (.bool false):=n.cell 1;have an:=n.frozen 0;have ao:=n.frozen 1;have m1:=B.lt;have m2:=C.lt;have m3:=n.lt;have I:=LH O;have s:=LH (Vb n X.out (CZ _ _));clear B C n O h;generalize P:Mu (Vk x).1 (Vk y).1=p at *;obtain⟨zs,er⟩:=p;simp only[] at I;have Hp:=LH P;clear P;rcases k1 with ⟨F,rfl,ex⟩ | ⟨F,rfl,ex⟩;rcases k2 with ⟨G,rfl,u⟩ | ⟨G,rfl,u⟩
 ·have k:Xm (x+y)=(zs,er):=by rw[<-Hp.out,ex,u,Nz x y F G]
  by_cases r:x+y<big
  ·unfold Xm at k;rw[if_pos r] at k;obtain⟨rfl,rfl⟩:=Prod.mk.inj k;obtain⟨c,d⟩:=s.out H (limbs (x+y)).length c3 false;have l:=LH c;have j:=LH d;have m:=LH r;clear c d k ex u r F G;go_wp2_with fail;refine AW (AY (p:=4) AB _ _ (w.heap.size+2) 46 #[.slice H (limbs (x+y)).length c3,.bool false] (0,0) _ rfl j.out.1 underlying46 rfl AB) rfl ?_;refine⟨l.out,_,_,_,_,rfl,?_⟩;unfold Z1;rw[Z7 m.out];exact⟨rfl,I.out.kept j.out.2⟩
  unfold Xm at k;rw[if_neg r] at k;obtain⟨rfl,rfl⟩:=Prod.mk.inj k;clear k ex u;obtain⟨c,d⟩:=s.out none 0 0 true;have l:=LH c;have j:=LH d;have m:Hid (¬x+y<big):=LH (by exact r);clear c d;go_wp2_with fail;refine AW (AY (p:=4) AB _ _ (w.heap.size+2) 46 #[.slice none 0 0,.bool true] (0,0) _ rfl j.out.1 underlying46 rfl AB) rfl ?_;exact⟨l.out,_,_,_,_,rfl,Z1.over _ m.out⟩
 ·obtain⟨c,d⟩:=s.out none 0 0 true;have l:=LH c;have j:=LH d;have m:Hid (¬x+y<big):=LH AA;clear c d;go_wp2_with fail;refine AW (AY (p:=4) AB _ _ (w.heap.size+2) 46 #[.slice none 0 0,.bool true] (0,0) _ rfl j.out.1 underlying46 rfl AB) rfl ?_;exact⟨l.out,_,_,_,_,rfl,Z1.over _ m.out⟩
 obtain⟨c,d⟩:=s.out none 0 0 true;have l:=LH c;have j:=LH d;have m:Hid (¬x+y<big):=LH AA;clear c d;go_wp2_with fail;refine AW (AY (p:=4) AB _ _ (w.heap.size+2) 46 #[.slice none 0 0,.bool true] (0,0) _ rfl j.out.1 underlying46 rfl AB) rfl ?_;exact⟨l.out,_,_,_,_,rfl,Z1.over _ m.out⟩
theorem Zsl(w:World):Calls prog 94 #[] w (RetV w 1):=by
 have g:=Zy w (.cells #[.slice none 0 0,.bool false] 46);have a:=Blk.new w 46 #[.slice none 0 0,.bool false];have m:(w.alloc (.cells #[.slice none 0 0,.bool false] 46)).heap.size=w.heap.size+1:=Zl _ _;go_enter func94,ntmps94;go_upto_region 1 with fail;generalize w.alloc (.cells #[.slice none 0 0,.bool false] 46)=W at *;obtain⟨d,f,n⟩:=Vb a g (AJ _) (some ⟨w+1,0,none⟩) 1 1 false;have h:((W.setCell ⟨w,0,none⟩ (.slice (some ⟨w+1,0,none⟩) 1 1)).setCell ⟨w,1,none⟩ (.bool false)).heap.size=w.heap.size+1:=by rw[<-m];simp
 have b:=Zy ((W.setCell ⟨w,0,none⟩ (.slice (some ⟨w+1,0,none⟩) 1 1)).setCell ⟨w,1,none⟩ (.bool false)) (.cells #[.int .u32 1] 49);have c:Zq .u32 (((W.setCell ⟨w,0,none⟩ (.slice (some ⟨w+1,0,none⟩) 1 1)).setCell ⟨w,1,none⟩ (.bool false)).alloc (.cells #[.int .u32 1] 49)) (some ⟨((W.setCell ⟨w,0,none⟩ (.slice (some ⟨w+1,0,none⟩) 1 1)).setCell ⟨w,1,none⟩ (.bool false)).heap.size,0,none⟩) 1 1 [1]:=N6 ((W.setCell ⟨w,0,none⟩ (.slice (some ⟨w+1,0,none⟩) 1 1)).setCell ⟨w,1,none⟩ (.bool false)) 49 (nums .u32 [1]) 1 _ rfl rfl AC;rw[h] at c;have j:=LH (Zz d b);have k:=LH (Blk.ext f b);have c0:W.cell? ⟨w,0,none⟩=some (.slice none 0 0):=a.cell 0;have c1:W.cell? ⟨w,1,none⟩=some (.bool false):=a.cell 1;have o:=a.frozen 0;have q:=a.frozen 1;have r:=a.lt;have l:=LH c;clear a g b c d f n h;go_wp2_with fail;refine AW (AY (p:=0) AB _ _ w 46 #[.slice (some ⟨w+1,0,none⟩) 1 1,.bool false] (0,0) _ rfl k.out underlying46 rfl AB) rfl ?_;refine⟨j.out,_,_,_,_,rfl,?_⟩;unfold Z1;rw[Zw2];exact⟨rfl,l.out⟩
theorem tr_cof(A:Option Addr)(n c:Nat)(d:Int)(w:World):
 Calls prog 202 #[.slice A n c,.int .i64 d] w λe w'=>e = .returned (.agg #[.slice A n c,.bool (d==2)])/\Below w w w':=by
 have h:=Zy w (.cells #[.slice none 0 0,.bool false] 77);have a:=Blk.new w 77 #[.slice none 0 0,.bool false];go_enter func202,ntmps202;go_upto_region 1 with fail;generalize w.alloc (.cells #[.slice none 0 0,.bool false] 77)=W at *;have c0:W.cell? ⟨w,0,none⟩=some (.slice none 0 0):=a.cell 0;have c1:W.cell? ⟨w,1,none⟩=some (.bool false):=a.cell 1;have k:=a.frozen 0;have l:=a.frozen 1;have o:=a.lt;obtain⟨b,f⟩:∃b,b=(d==2):=⟨_,rfl⟩;have g:=LH (Uc a h (AJ _) A n c b);have j:=LH f;have m:(d==2)=b:=f.symm;clear a h f;go_wp2_with fail;refine AW (AY (p:=4) AB _ _ w 77 #[.slice A n c,.bool b] (0,0) _ rfl g.out.2.1 underlying77 rfl AB) rfl ?_;exact⟨by rw[j.out],g.out.1⟩
theorem Zy1(w:World)(t:TypeId)(a b c:Array Value):Below w w (((w.alloc (.cells a t)).alloc (.cells b t)).alloc (.cells c t))/\Blk (((w.alloc (.cells a t)).alloc (.cells b t)).alloc (.cells c t)) w t a /\
 Blk (((w.alloc (.cells a t)).alloc (.cells b t)).alloc (.cells c t)) (w.heap.size+1) t b/\Blk (((w.alloc (.cells a t)).alloc (.cells b t)).alloc (.cells c t)) (w.heap.size+2) t c:=by
 have m:=Zy w (.cells a t);have j:=Zy (w.alloc (.cells a t)) (.cells b t);have d:=Zy ((w.alloc (.cells a t)).alloc (.cells b t)) (.cells c t);have h1:=Blk.new w t a;have l:=Blk.new (w.alloc (.cells a t)) t b;have h:=Blk.new ((w.alloc (.cells a t)).alloc (.cells b t)) t c;have f:(w.alloc (.cells a t)).heap.size=w.heap.size+1:=Zl _ _;have k:((w.alloc (.cells a t)).alloc (.cells b t)).heap.size=w.heap.size+2:=by rw[Zl,f]
 have g:=Blk.ext l d;rw[f] at g;rw[k] at h;exact⟨Zz (Zz m j) d,Blk.ext (Blk.ext h1 j) d,g,h⟩
theorem tr_exactly(n:Nat)(w:World)(J:n<=1000):Calls prog 200 #[.int .i64 (n:Int)] w (RetV w (K0 n)):=by
 have h:=Zy w (.cells #[.slice none 0 0,.bool false] 77);have b:=Blk.new w 77 #[.slice none 0 0,.bool false];go_enter func200,ntmps200;go_upto_region 1 with fail;generalize w.alloc (.cells #[.slice none 0 0,.bool false] 77)=W at *;have c0:W.cell? ⟨w,0,none⟩=some (.slice none 0 0):=b.cell 0;have c1:W.cell? ⟨w,1,none⟩=some (.bool false):=b.cell 1;have z:=b.frozen 0;have A:=b.frozen 1;have C:=b.lt;by_cases m:n=1
 ·subst m;have k:Hid (K0 1=1):=rfl;have y:=LH b;have t:=LH h;clear b h;have s:Calls prog 153 #[.int .u64 1] W (Bq W (limbs 1)):=nat_of 1 W AA;go_wp2_with fail;(with_reducible refine s.mono ?_);rintro e c⟨a,c3,rfl,j,l⟩;have r:limbs 1=[1]:=rfl;rw[r] at j;simp only[r,CU] at j ⊢;have d:=y.out.ext l;have o:=LH (Zz t.out l);have x:=LH j;have D:c.cell? ⟨w,0,none⟩=some (.slice none 0 0):=d.cell 0;have E:c.cell? ⟨w,1,none⟩=some (.bool false):=d.cell 1;have g0:=d.frozen 0;have H:=d.frozen 1;have N:=d.lt;have g:=d.set 0 (.slice a 1 c3);have u:=LH (o.out.trans (Zn (Zd c w 0 (.slice a 1 c3)) o.out.size (AJ _)));have F:((c.setCell ⟨w,0,none⟩ (.slice a 1 c3)).cell? ⟨w,0,none⟩)=some (.slice a 1 c3):=g.cell 0;have G:((c.setCell ⟨w,0,none⟩ (.slice a 1 c3)).cell? ⟨w,1,none⟩)=some (.bool false):=g.cell 1;have v:Hid (Zf c (c.setCell ⟨w,0,none⟩ (.slice a 1 c3))):=LH (Zf.of_off (Off.of_set c w 0 (.slice a 1 c3)) λq B=>by rw[B];exact Jk d);have f:=LH (Uc (A0:=a) (n0:=1) (c0:=c3) (b0:=false) g u.out (AJ _) a 1 c3 false);have L:=g.frozen 0;have M:=g.frozen 1;have O:=g.lt;clear c0 c1 z A C j l d;go_wp2_with fail;refine AW (AY (p:=2) AB _ _ w 77 #[.slice a 1 c3,.bool false] (0,0) _ rfl f.out.2.1 underlying77 rfl AB) rfl ?_;refine⟨f.out.1,_,_,_,_,rfl,?_⟩;rw[k.out];unfold Z1;rw[Zw2];exact⟨rfl,(x.out.kept v.out).kept f.out.2.2⟩
 have I:((n:Int)==1)=false:=by rw[AQ];omega
 have k:Hid (K0 n=0):=LH (by unfold K0;rw[if_neg m]);have f:=LH (Uc b h (AJ _) none 0 0 false);clear b h m;go_wp2_with fail;refine AW (AY (p:=2) AB _ _ w 77 #[.slice none 0 0,.bool false] (0,0) _ rfl f.out.2.1 underlying77 rfl AB) rfl ?_;refine⟨f.out.1,_,_,_,_,rfl,?_⟩;rw[k.out];exact Z1.zero _ _ _ AA
section
open Go.Maps (Keyed IsMap Tidy)
variable {P:Program} {k:TypeId}
theorem Vv.below(h:Vv P k w g r)(a:Below w w w'):Vv P k w' g r:=h.block (a.block g h.lt)
end
section
open Go.Maps (Keyed IsMap Tidy)
open Go.Maps (Keyed IsMap Tidy)
theorem Yo.below{c:World}{k:CH}{h:GH}(C:Yo c k h G S w)(a:Below w w w'):Yo c k h G S w' :=
 C.move (P:=λ_=>False) (Off.of_below a) (.of_below a) λb a=>a.elim
theorem Yo.more{k:CH}{h:GH}(C:Yo m k h G S w)(a:Below w w w')(r:w.heap.size<=g):Yo m k h G (λb=>S b\/b=g) w':=by
 have f:=C.below a;refine⟨f.base,f.box,f.nul,f.low,f.ne,?_,?_⟩
 ·obtain⟨ts,d⟩:=C.trees;obtain⟨s,t⟩:=C.map_lt;refine⟨ts,d.map.below a,d.key,λp c=>⟨(d.val p c).1.kept (.of_below a) (a.block _ (d.val p c).1.lt),?_⟩⟩;rintro (h1 | h1)
  ·exact (d.val p c).2 h1
  have:=(d.val p c).1.lt;omega
 obtain⟨n,j⟩:=C.forts;refine⟨n,j.map.below a,j.key,λp c=>?_⟩;obtain⟨x,q,l,o⟩:=j.val p c;refine⟨x,q,l.kept (.of_below a) (a.block _ l.lt),?_⟩;rintro (h1 | h1)
 ·exact o h1
 have:=l.lt;omega
theorem Zzo.look(h:Zzo w g G S ts)(s:Int)(n:Nat)(v:s<0)(t:Zp s<100)(u:n<=100):
 (∃b,(∀x:Ext w,(Instr.lookup 138 (.map (some g)) (kT s n) false).run prog (bl w x) = .ok (.pointer (some ⟨b,0,none⟩)) (bl w x))/\H8 w b (Zv G s n)) \/
 (∀x:Ext w,(Instr.lookup 138 (.map (some g)) (kT s n) false).run prog (bl w x) = .ok (.pointer none) (bl w x)):=by
 have j:∀w,(zeroValue 248).run prog w = .ok (.pointer none) w:=λw=>AB
 have q:U4 prog 247 (kT s n):=Zww (by unfold Zp at t;omega) AA AA;by_cases d:kT s n∈(ts.map λp=>(kT p.1.1 p.1.2,p.2)).map (·.1)
 ·left;obtain⟨b,c,o⟩:=h.map.look Tryz.keyKT d;obtain⟨p,r,a⟩:=CV.1 c;injection a with a hpb;obtain⟨l,m⟩:=kT_inj a;have f:=(h.val p r).1;rw[l,m,hpb] at f;exact⟨b,λx=>(h.map.below (Zr w x)).look_at Tryz.keyKT underlying138 (j _) c o,f⟩
 exact .inr λx=>(h.map.below (Zr w x)).look_none Tryz.keyKT underlying138 (j _) q d
theorem Zue.look(h:Zue w g G S c){i:Nat}{x:Rul}(A:G.rules[i]? = some x)(hi:i<=100)(hd:d<=100)(B:n<=100):
 (∃b,(∀y:Ext w,(Instr.lookup 139 (.map (some g)) (kF i d n) false).run prog (bl w y) = .ok (.pointer (some ⟨b,0,none⟩)) (bl w y))/\H8 w b (Zx (Zv G) (x.right.drop d) n)) \/
 (∀y:Ext w,(Instr.lookup 139 (.map (some g)) (kF i d n) false).run prog (bl w y) = .ok (.pointer none) (bl w y)):=by
 have o:∀w,(zeroValue 248).run prog w = .ok (.pointer none) w:=λw=>AB
 have u:U4 prog 251 (kF i d n):=Zsn AA AA AA;by_cases j:kF i d n∈(c.map λp=>(kF p.1.1 p.1.2.1 p.1.2.2,p.2)).map (·.1)
 ·left;obtain⟨b,f,t⟩:=h.map.look Tryz.keyKF j;obtain⟨p,v,a⟩:=CV.1 f;injection a with a hpb;obtain⟨q,r,s⟩:=kF_inj a;obtain⟨y,m,l,_⟩:=h.val p v;rw[q,A] at m;obtain rfl:=BI m;rw[r,s,hpb] at l;exact⟨b,λz=>(h.map.below (Zr w z)).look_at Tryz.keyKF underlying139 (o _) f t,l⟩
 exact .inr λz=>(h.map.below (Zr w z)).look_none Tryz.keyKF underlying139 (o _) u j
theorem Gt(d:Option Addr)(n1 c1:Nat)(b:Bool)(x:Nat)(g:Option Addr)(n2 c2:Nat)(k:Bool)(y:Nat)(w:World)(h1:Z1 w d n1 c1 b x)(E:Z1 w g n2 c2 k y):
 Calls prog 26 #[.agg #[.slice d n1 c1,.bool b],.agg #[.slice g n2 c2,.bool k]] w (RetV w (x*y)):=by
 have U:=h1.cases;have V:=E.cases;have v:=h1.none_iff;have B:=E.none_iff;have H1:=LH h1.2;have H2:=LH E.2;clear h1 E;have ae:=Zy w (.cells #[.slice d n1 c1,.bool b] 46);have P:=Zy (w.alloc (.cells #[.slice d n1 c1,.bool b] 46)) (.cells #[.slice g n2 c2,.bool k] 46);have l:=Zy ((w.alloc (.cells #[.slice d n1 c1,.bool b] 46)).alloc (.cells #[.slice g n2 c2,.bool k] 46)) (.cells #[.slice none 0 0,.bool false] 46);have ak:=(Blk.new w 46 #[.slice d n1 c1,.bool b]);have al:=(Blk.new (w.alloc (.cells #[.slice d n1 c1,.bool b] 46)) 46 #[.slice g n2 c2,.bool k]);have q:=(Blk.new ((w.alloc (.cells #[.slice d n1 c1,.bool b] 46)).alloc (.cells #[.slice g n2 c2,.bool k] 46)) 46 #[.slice none 0 0,.bool false]);have N:(w.alloc (.cells #[.slice d n1 c1,.bool b] 46)).heap.size=w.heap.size+1:=Zl _ _;have e2:((w.alloc (.cells #[.slice d n1 c1,.bool b] 46)).alloc (.cells #[.slice g n2 c2,.bool k] 46)).heap.size=w.heap.size+2:=by rw[Zl,N]
 have A:=Blk.ext (Blk.ext ak P) l;have t:=Blk.ext al l;have z:=Zz (Zz ae P) l;rw[N] at t;rw[e2] at q;go_enter func26,ntmps26;go_upto_region 1 with fail;generalize ((w.alloc (.cells #[.slice d n1 c1,.bool b] 46)).alloc (.cells #[.slice g n2 c2,.bool k] 46)).alloc (.cells #[.slice none 0 0,.bool false] 46)=W at *;clear ak al N e2 ae P l;have l1:=A.lt;have l2:=t.lt;have l3:=q.lt;have ba:W.cell? ⟨w.heap.size,0,none⟩=some (.slice d n1 c1):=A.cell 0;have az:W.cell? ⟨w.heap.size,1,none⟩=some (.bool b):=A.cell 1;have bb:W.cell? ⟨w.heap.size+1,0,none⟩=some (.slice g n2 c2):=t.cell 0;have a0:W.cell? ⟨w.heap.size+1,1,none⟩=some (.bool k):=t.cell 1;have a1:W.cell? ⟨w.heap.size+2,0,none⟩=some (.slice none 0 0):=q.cell 0;have a2:W.cell? ⟨w.heap.size+2,1,none⟩=some (.bool false):=q.cell 1;have a3:=q.frozen 0;have a4:=q.frozen 1;have J:=LH (Vb q z (CZ _ _));have CM:=LH (ref_mul d n1 c1 (Vk x).1 g n2 c2 (Vk y).1 W (H1.out.below z) (H2.out.below z) (Wx x) (Wx y));have au:=LH A;have av:=LH t;have aw:=LH q;have HB:=LH z;clear A t q z;by_cases F:x=0
 ·obtain⟨rfl,rfl⟩:=v.2 F;clear U V v B;obtain⟨a,c⟩:=J.out none 0 0 false;have m:=LH a;have j:=LH c;have n:Hid (x*y=0):=LH (by rw[F,Nat.zero_mul]);clear a c;go_wp2_with fail;refine AW (AY (p:=4) AB _ _ (w.heap.size+2) 46 #[.slice none 0 0,.bool false] (0,0) _ rfl j.out.1 underlying46 rfl AB) rfl ?_;refine⟨m.out,_,_,_,_,rfl,?_⟩;rw[n.out];exact Z1.zero _ _ _ AA
 by_cases T:y=0
 ·obtain⟨rfl,rfl⟩:=B.2 T;have u:b=false->((n1:Int)==0)=false:=λa=>by rw[AQ];intro h;exact F (v.1 ⟨a,AA⟩)
  clear U V v B;rcases b with _ | _;all_goals
   first
    | (have a6:=u rfl
       clear u)
    | clear u
   obtain⟨a,c⟩:=J.out none 0 0 false;have m:=LH a;have j:=LH c;have n:Hid (x*y=0):=LH (by rw[T,Nat.mul_zero]);clear a c;go_wp2_with fail;refine AW (AY (p:=4) AB _ _ (w.heap.size+2) 46 #[.slice none 0 0,.bool false] (0,0) _ rfl j.out.1 underlying46 rfl AB) rfl ?_;refine⟨m.out,_,_,_,_,rfl,?_⟩;rw[n.out];exact Z1.zero _ _ _ AA
 have u:b=false->((n1:Int)==0)=false:=λa=>by rw[AQ];intro h;exact F (v.1 ⟨a,AA⟩)
 have ai:k=false->((n2:Int)==0)=false:=λa=>by rw[AQ];intro h;exact T (B.1 ⟨a,AA⟩)
 have ag:x<=x*y:=Nat.le_mul_of_pos_right x AA;have ah:y<=x*y:=Nat.le_mul_of_pos_left y AA;have ax:=LH ag;have ay:=LH ah;clear v B J ag ah;rcases U with ⟨R,rfl,ex⟩ | ⟨R,rfl,ex⟩;all_goals
  rcases V with ⟨S,rfl,O⟩ | ⟨S,rfl,O⟩;all_goals
   try (have a6:=u rfl)
   try (have bc:=ai rfl)
   have aa:=LH R;have ab:=LH S;have Ex:=LH ex;have Ey:=LH O;clear u ai R S ex O;go_upto_region 4 with (first
    | (go_at_call 60;(with_reducible refine CM.out.mono ?_);rintro e C⟨X,c3,rfl,af,l⟩))
   have L:=au.out.ext l;have M:=av.out.ext l;have r:=aw.out.ext l;have ar:=LH (Zz HB.out l);have az:C.cell? ⟨w.heap.size,1,none⟩=_:=L.cell 1;have a0:C.cell? ⟨w.heap.size+1,1,none⟩=_:=M.cell 1;have a1:C.cell? ⟨w.heap.size+2,0,none⟩=some (.slice none 0 0):=r.cell 0;have a2:C.cell? ⟨w.heap.size+2,1,none⟩=some (.bool false):=r.cell 1;have a3:=r.frozen 0;have a4:=r.frozen 1;have m1:=L.lt;have m2:=M.lt;have m3:=r.lt;have Y:=LH af;have I:=LH (Vb r ar.out (CZ _ _));clear L M r af l;generalize hp:N9 (Vk x).1 (Vk y).1=p at *;obtain⟨zs,D⟩:=p;simp only[] at Y;have Z:=LH hp;clear hp;have a7:(¬x*y<big)\/(x*y<big/\x<big/\y<big):=by
    by_cases f:x*y<big
    ·exact .inr ⟨f,by have:=ax.out;omega,by have:=ay.out;omega⟩
    exact .inl f
   rcases a7 with f | ⟨f,G,H⟩
   ·have a5:(λ(_:Unit)=>D) ()=D:=rfl;clear a5;by_cases s:x<big/\y<big
    ·have o:Xm (x*y)=(zs,D):=by rw[<-Z.out,<-Nw x y s.1 s.2,Z7 s.1,Z7 s.2]
     unfold Xm at o;rw[if_neg f] at o;obtain⟨rfl,rfl⟩:=Prod.mk.inj o;clear o;obtain⟨a,c⟩:=I.out none 0 0 true;have m:=LH a;have j:=LH c;have n:=LH f;clear a c f s;go_wp2_with fail;refine AW (AY (p:=4) AB _ _ (w.heap.size+2) 46 #[.slice none 0 0,.bool true] (0,0) _ rfl j.out.1 underlying46 rfl AB) rfl ?_;exact⟨m.out,_,_,_,_,rfl,Z1.over _ n.out⟩
    first
     | exact absurd (And.intro aa.out ab.out) s
     | (obtain⟨a,c⟩:=I.out none 0 0 true
        have m:=LH a;have j:=LH c;have n:=LH f;clear a c f s;go_wp2_with fail;refine AW (AY (p:=4) AB _ _ (w.heap.size+2) 46 #[.slice none 0 0,.bool true] (0,0) _ rfl j.out.1 underlying46 rfl AB) rfl ?_;exact⟨m.out,_,_,_,_,rfl,Z1.over _ n.out⟩)
   first
    | exact absurd G aa.out
    | exact absurd H ab.out
    | (have o:Xm (x*y)=(zs,D):=by rw[<-Z.out,<-Nw x y G H,Z7 G,Z7 H]
       unfold Xm at o;rw[if_pos f] at o;obtain⟨rfl,rfl⟩:=Prod.mk.inj o;obtain⟨a,c⟩:=I.out X (limbs (x*y)).length c3 false;have m:=LH a;have j:=LH c;have n:=LH f;clear a c o f G H;go_wp2_with fail;refine AW (AY (p:=4) AB _ _ (w.heap.size+2) 46 #[.slice X (limbs (x*y)).length c3,.bool false] (0,0) _ rfl j.out.1 underlying46 rfl AB) rfl ?_;refine⟨m.out,_,_,_,_,rfl,?_⟩;unfold Z1;rw[Z7 n.out];exact⟨rfl,Y.out.kept j.out.2⟩)
end
theorem Zyq.below{c N:Nat}(h:Zyq w A n c N tab)(a:Below w w w'):Zyq w' A n c N tab:=by
 refine⟨h.1,h.2.1,λl=>?_⟩;obtain⟨b,f,e,d,o⟩:=h.2.2 l;refine⟨b,f,e,AK d a.size,λm k=>?_⟩;obtain⟨g,h1,j⟩:=o m k;exact⟨g,(a.cell (p:=⟨b,f+m,none⟩) d).trans h1,j.below a⟩
theorem nat_mul_ok(t:Option Addr)(n c1:Nat)(xs:List Nat)(u:Option Addr)(m c2:Nat)(ys:List Nat)(w:World)(h1:Zq .u32 w t n c1 xs)(r:Zq .u32 w u m c2 ys)(lx:Lim xs)(M:Lim ys)(N:Zm xs=true)(O:Zm ys=true):
 Calls prog 177 #[.slice t n c1,.slice u m c2] w (Xr w (N9 xs ys)):=by
 obtain rfl:=h1.len;obtain rfl:=r.len;have a0:xs.length<=32:=by simp[Zm] at N;omega
 have ay:ys.length<=32:=by simp[Zm] at O;omega
 have H:=Wm (P:=prog) 31 49 .u32 4 underlying31 Tryz.info34 (xs.length+ys.length) AA AA;have az:∀w:World,(Instr.makeSlice 31 (.int .i64 ((xs.length:Int)+(ys.length:Int))) (.int .i64 ((xs.length:Int)+(ys.length:Int)))).run prog w = .ok (.slice (some ⟨w,0,none⟩) (xs.length+ys.length) (xs.length+ys.length)) (w.alloc (.cells (nums .u32 (List.replicate (xs.length+ys.length) 0)).toArray 49)):=H;clear H;have G:N9 xs ys=Xm (val xs*val ys):=by simp[N9,N,O]
 rw[G];clear G;go_enter func177,ntmps177;go_wp2_with (first
  | (go_at_call 75;(with_reducible refine (Zb _ _ _ _ _ h1).mono ?_);rintro e w'⟨rfl,rfl⟩)
  | (go_at_call 75;(with_reducible refine (Zb _ _ _ _ _ r).mono ?_);rintro e w'⟨rfl,rfl⟩))
 go_loopw [29] (MulRel w xs ys) (λi _=>xs.length-(intOf i).toNat)
 case atStart =>
  refine⟨0,List.replicate (xs.length+ys.length) 0,AV _,rfl,AE,?_,?_,?_,Own.new _ _ _ _,(AL _ _).alloc (AJ _) _⟩
  ·intro y hy;have:=List.eq_of_mem_replicate hy;omega
  ·have:=Ns (List.replicate (xs.length+ys.length) 0) 0 (λi _=>by simp[List.getElem?_replicate];split <;> rfl);simpa [val] using this
  intro j _;simp[List.getElem?_replicate];split <;> rfl
 obtain⟨i,a,hi,rfl,D,g,E,F,b,f⟩:=hrel;have d:=LH D;have B:=LH E;have S:=LH F;clear D E F;by_cases ah:i<xs.length
 ·obtain⟨b1,o1,x,rfl,au,Hx,ad⟩:=(h1.below f).get (j:=i) ah;have L:=lx.of_get Hx.out;go_wp2;obtain⟨R,rfl⟩:∃R:World,R=wr:=⟨_,rfl⟩;go_loopw [9,36] (MulRel2 w x ys a i) (λ_ q _=>ys.length-(intOf q).toNat)
  case atStart=>exact⟨0,AV _,rfl,rfl,by rw[Zz7];exact b,f⟩
  clear b f ad;obtain⟨k,hk,rfl,rfl,b,f⟩:=hrel;have ae:=Zy8 x ys (a.drop i) L M (g.drop _) k;by_cases ai:k<ys.length
  ·obtain⟨b2,o2,y,rfl,av,o,aw⟩:=(r.below f).get (j:=k) ai;have am:=M.of_get o.out;have l:=LH (Nq x ys a i k (by rw[d.out];omega));obtain⟨z,C,af⟩:=b.cell (i:=i+k) (by rw[l.out,d.out];omega);have ag:=b.frozen (i+k);have p:Hid (a[i+k]? = some z):=LH (by rw[<-Zwa x ys a i k (by rw[d.out];omega)];exact C.out);have ao:=g.of_get p.out;have hb:=Ag L am ao ae;have a1:(0:Int)<=(x:Int)*(y:Int):=by rw[<-Int.natCast_mul];omega
   have a2:(x:Int)*(y:Int)+(z:Int)+((Vn x ys (a.drop i) k).2:Int)<18446744073709551616:=by rw[<-Int.natCast_mul];omega
   have U:=LH (Zze x ys a i k (by rw[d.out];omega));clear hb;go_wp2;go_roundw
   case rel =>
    refine⟨k+1,AA,AF,?_,?_,f.setCell AE _⟩
    ·have an:=p.out;simp only[Vn,Yg o.out];rw[show (a.drop i).getD k 0=z from by simp[DY,an]];go_num
    have:=b.set_ (i+k) ((x*y+z+(Vn x ys (a.drop i) k).2) % 4294967296);have J:=U.out;rw[Yg o.out,Yg p.out] at J;rw[J] at this;simpa using this
   simp[intOf];omega
  obtain rfl:k=ys.length:=AA
  have I:=mul_row x ys a i (by rw[d.out];omega) S.out;have T:=LH I;clear I;have l:=LH (Nq x ys a i ys.length (by rw[d.out];omega));obtain⟨z,C,af⟩:=b.cell (i:=i+ys.length) (by rw[l.out,d.out];omega);have ag:=b.frozen (i+ys.length);go_wp2;go_roundw
  case rel =>
   obtain⟨W,X,Y⟩:=T.out;refine⟨i+1,_,AA,AF,?_,?_,?_,Y,?_,f.setCell AE _⟩
   ·rw[X,d.out]
   ·intro v hv;rcases List.mem_or_eq_of_mem_set hv with h | h
    ·exact Zx0 x ys a i ys.length g v h
    omega
   ·rw[W,B.out,Y5,Yg Hx.out,Nat.add_mul,DU]
   have:=b.set_ (i+ys.length) (Vn x ys (a.drop i) ys.length).2;simpa using this
  simp[intOf];omega
 obtain rfl:i=xs.length:=AA
 have s:=B.out;rw[List.take_length] at s;have aj:=b.nums (n:=xs.length+ys.length) (c:=xs.length+ys.length) d.out (AJ _) AA;have V:=LH s;clear s;go_wp2_with (go_at_call 207;(with_reducible refine (Ztv _ _ _ _ _ aj g).mono ?_);rintro e w'⟨A,c,rfl,hN,Z⟩);go_ret2;rw[<-V.out];exact⟨A,c,rfl,hN,Zz f Z⟩
theorem F2(b:Option Addr)(n c1:Nat)(xs:List Nat)(c:Option Addr)(m c2:Nat)(ys:List Nat)(w:World)(h1:Zq .u32 w b n c1 xs)(d:Zq .u32 w c m c2 ys)(h:Lim xs)(j:Lim ys):
 Calls prog 177 #[.slice b n c1,.slice c m c2] w (Xr w (N9 xs ys)):=by
 by_cases f:Zm xs=true
 case neg =>
  have k:Zm xs=false:=by simpa using f
  have a:N9 xs ys=([],1):=by simp[N9,k]
  rw[a];clear a f;go_enter func177,ntmps177;go_wp2_with (first
   | (go_at_call 75;(with_reducible refine (Zb _ _ _ _ _ h1).mono ?_);rintro e w'⟨rfl,rfl⟩)
   | (go_at_call 75;(with_reducible refine (Zb _ _ _ _ _ d).mono ?_);rintro e w'⟨rfl,rfl⟩))
  go_ret2;exact⟨none,0,rfl,Zq.nil _ _ _ _ AE,AL _ _⟩
 by_cases g:Zm ys=true
 case neg =>
  have l:Zm ys=false:=by simpa using g
  have a:N9 xs ys=([],1):=by simp[N9,l]
  rw[a];clear a g;go_enter func177,ntmps177;go_wp2_with (first
   | (go_at_call 75;(with_reducible refine (Zb _ _ _ _ _ h1).mono ?_);rintro e w'⟨rfl,rfl⟩)
   | (go_at_call 75;(with_reducible refine (Zb _ _ _ _ _ d).mono ?_);rintro e w'⟨rfl,rfl⟩))
  go_ret2;exact⟨none,0,rfl,Zq.nil _ _ _ _ AE,AL _ _⟩
 exact nat_mul_ok b n c1 xs c m c2 ys w h1 d h j f g
theorem Zu2(f:Option Addr)(n1 c1:Nat)(a:Bool)(x:Nat)(g:Option Addr)(n2 c2:Nat)(b:Bool)(y:Nat)(w:World)(h1:Z1 w f n1 c1 a x)(D:Z1 w g n2 c2 b y):
 Calls prog 157 #[.agg #[.slice f n1 c1,.bool a],.agg #[.slice g n2 c2,.bool b]] w (RetV w (x+y)):=by
 have z:=h1.cases;have A:=D.cases;have U:=LH h1.2;have V:=LH D.2;clear h1 D;obtain⟨h,q,r,c⟩:=Zy1 w 77 #[.slice f n1 c1,.bool a] #[.slice g n2 c2,.bool b] #[.slice none 0 0,.bool false];go_enter func157,ntmps157;go_upto_region 1 with fail;generalize ((w.alloc (.cells #[.slice f n1 c1,.bool a] 77)).alloc (.cells #[.slice g n2 c2,.bool b] 77)).alloc (.cells #[.slice none 0 0,.bool false] 77)=W at *;have l1:=q.lt;have l2:=r.lt;have T:=c.lt;have ah:W.cell? ⟨w,0,none⟩=some (.slice f n1 c1):=q.cell 0;have ai:W.cell? ⟨w,1,none⟩=some (.bool a):=q.cell 1;have aj:W.cell? ⟨w+1,0,none⟩=some (.slice g n2 c2):=r.cell 0;have ak:W.cell? ⟨w+1,1,none⟩=some (.bool b):=r.cell 1;have H:W.cell? ⟨w+2,0,none⟩=some (.slice none 0 0):=c.cell 0;have I:W.cell? ⟨w+2,1,none⟩=some (.bool false):=c.cell 1;have N:=c.frozen 0;have O:=c.frozen 1;have ab:=LH c;have X:=LH h;have B:=LH (Uc c h (CZ _ _) none 0 0 true);by_cases j:a=true\/b=true
 case pos =>
  have Hz:Hid (¬x+y<big):=LH (by
   rcases z with ⟨k,J,_⟩ | ⟨k,J,_⟩
   ·rcases A with ⟨l,L,_⟩ | ⟨l,L,_⟩
    ·rw[J,L] at j;simp at j
    omega
   omega)
  clear q r c h z A;rcases (by cases a <;> cases b <;> simp at j <;> simp:a=true\/(a=false/\b=true)) with rfl | ⟨rfl,rfl⟩;all_goals
   clear j;go_wp2_with fail;refine AW (AY (p:=4) AB _ _ (w.heap.size+2) 77 #[.slice none 0 0,.bool true] (0,0) _ rfl B.out.2.1 underlying77 rfl AB) rfl ?_;exact⟨B.out.1,_,_,_,_,rfl,Z1.over _ Hz.out⟩
 obtain⟨rfl,rfl⟩:a=false/\b=false:=by cases a <;> cases b <;> simp at j <;> simp
 obtain⟨k,ex⟩:x<big/\(Vk x).1=limbs x:=by
  rcases z with ⟨k,_,ex⟩ | ⟨_,e,_⟩
  ·exact⟨k,ex⟩
  cases e
 obtain⟨l,t⟩:y<big/\(Vk y).1=limbs y:=by
  rcases A with ⟨l,_,t⟩ | ⟨_,e,_⟩
  ·exact⟨l,t⟩
  cases e
 have CA:=nat_add f n1 c1 (Vk x).1 g n2 c2 (Vk y).1 W (U.out.below h) (V.out.below h) (Wx x) (Wx y);rw[ex,t,Nz x y k l] at CA;have CA:=LH CA;clear q r c h z A j ex t k l B;go_wp2_with fail;(with_reducible refine CA.out.mono ?_);rintro e W2⟨n,c3,rfl,F,E⟩;generalize R:Xm (x+y)=p at *;obtain⟨m,M⟩:=p;simp only[] at F;have Hp:=LH R;have Z:=LH F;have G:=ab.out.ext E;have Y:=LH (Zz X.out E);clear ah ai aj ak H I N O l1 l2 T R F E CA;go_wp2_with fail;(with_reducible refine (tr_cof n m.length c3 (M:Int) W2).mono ?_);rintro e W3⟨rfl,u⟩;have d:=G.ext u;have H:W3.cell? ⟨w+2,0,none⟩=some (.slice none 0 0):=d.cell 0;have I:W3.cell? ⟨w+2,1,none⟩=some (.bool false):=d.cell 1;have N:=d.frozen 0;have O:=d.frozen 1;have T:=d.lt;have aa:=LH (Z.out.below u);obtain⟨o,v⟩:∃o,o=((M:Int)==2):=⟨_,rfl⟩;have C:=LH (Uc d (Zz Y.out u) (CZ _ _) n m.length c3 o);rw[<-v];have ae:Hid (∀(w':World),Zq .u32 w' n m.length c3 m->Z1 w' n m.length c3 o (x+y)):=LH λw' P=>by
  have s:=Hp.out;unfold Xm at s;unfold Z1 Vk;by_cases S:x+y<big
  ·rw[if_pos S] at s ⊢;obtain⟨rfl,rfl⟩:=Prod.mk.inj s;exact⟨by rw[v];rfl,P⟩
  rw[if_neg S] at s ⊢;obtain⟨rfl,rfl⟩:=Prod.mk.inj s;exact⟨by rw[v];rfl,P⟩
 clear G d u v;go_wp2_with fail;refine AW (AY (p:=4) AB _ _ (w.heap.size+2) 77 #[.slice n m.length c3,.bool o] (0,0) _ rfl C.out.2.1 underlying77 rfl AB) rfl ?_;exact⟨C.out.1,_,_,_,_,rfl,ae.out _ (aa.out.kept C.out.2.2)⟩
theorem tr_times(g:Option Addr)(n1 c1:Nat)(b:Bool)(x:Nat)(h:Option Addr)(n2 c2:Nat)(c:Bool)(y:Nat)(w:World)(h1:Z1 w g n1 c1 b x)(h2:Z1 w h n2 c2 c y):
 Calls prog 158 #[.agg #[.slice g n1 c1,.bool b],.agg #[.slice h n2 c2,.bool c]] w (RetV w (x*y)):=by
 have r:=h1.cases;have s:=h2.cases;have H1:=LH h1;have H2:=LH h2;clear h1 h2;obtain⟨hB,E,F,ap⟩:=Zy1 w 77 #[.slice g n1 c1,.bool b] #[.slice h n2 c2,.bool c] #[.slice none 0 0,.bool false];go_enter func158,ntmps158;go_upto_region 1 with fail;generalize ((w.alloc (.cells #[.slice g n1 c1,.bool b] 77)).alloc (.cells #[.slice h n2 c2,.bool c] 77)).alloc (.cells #[.slice none 0 0,.bool false] 77)=W at *;have L:=E.lt;have M:=F.lt;have A:W.cell? ⟨w,0,none⟩=some (.slice g n1 c1):=E.cell 0;have B:W.cell? ⟨w,1,none⟩=some (.bool b):=E.cell 1;have C:W.cell? ⟨w+1,0,none⟩=some (.slice h n2 c2):=F.cell 0;have D:W.cell? ⟨w+1,1,none⟩=some (.bool c):=F.cell 1;have d:=LH E;have f:=LH F;have a:=LH ap;have HB:=LH hB;have C1:=LH (Ztk g n1 c1 b x W (H1.out.below hB));clear E F ap hB;go_wp2_with fail;(with_reducible refine C1.out.mono ?_);rintro e k⟨rfl,G⟩;have N:=LH (Zz HB.out G);have d:=LH (d.out.ext G);have f:=LH (f.out.ext G);have a:=LH (a.out.ext G);clear G C1 HB A B C D L M;have L:=d.out.lt;have M:=f.out.lt;have Y:=a.out.lt;have A:k.cell? ⟨w,0,none⟩=some (.slice g n1 c1):=d.out.cell 0;have B:k.cell? ⟨w,1,none⟩=some (.bool b):=d.out.cell 1;have C:k.cell? ⟨w+1,0,none⟩=some (.slice h n2 c2):=f.out.cell 0;have D:k.cell? ⟨w+1,1,none⟩=some (.bool c):=f.out.cell 1;have O:k.cell? ⟨w+2,0,none⟩=some (.slice none 0 0):=a.out.cell 0;have P:k.cell? ⟨w+2,1,none⟩=some (.bool false):=a.out.cell 1;have S:=a.out.frozen 0;have T:=a.out.frozen 1;by_cases J:x=0
 case pos =>
  subst J;have hd:decide ((0:Nat)=0)=true:=rfl;have j:=LH (Uc a.out N.out (CZ _ _) none 0 0 false);clear r s;go_wp2_with fail;refine AW (AY (p:=4) AB _ _ (w.heap.size+2) 77 #[.slice none 0 0,.bool false] (0,0) _ rfl j.out.2.1 underlying77 rfl AB) rfl ?_;exact⟨j.out.1,_,_,_,_,rfl,by rw[Nat.zero_mul];exact Z1.zero _ _ _ AA⟩
 have hd:decide (x=0)=false:=by rw[BA];exact J
 have C2:=LH (Ztk h n2 c2 c y k (H2.out.below N.out));have a0:=LH J;clear J;rw[hd];go_wp2_with fail;(with_reducible refine C2.out.mono ?_);rintro e l⟨rfl,H⟩;have v:=LH (Zz N.out H);have d:=LH (d.out.ext H);have f:=LH (f.out.ext H);have a:=LH (a.out.ext H);clear H C2 N A B C D L M Y O P S T hd;have L:=d.out.lt;have M:=f.out.lt;have Y:=a.out.lt;have A:l.cell? ⟨w,0,none⟩=some (.slice g n1 c1):=d.out.cell 0;have B:l.cell? ⟨w,1,none⟩=some (.bool b):=d.out.cell 1;have C:l.cell? ⟨w+1,0,none⟩=some (.slice h n2 c2):=f.out.cell 0;have D:l.cell? ⟨w+1,1,none⟩=some (.bool c):=f.out.cell 1;have O:l.cell? ⟨w+2,0,none⟩=some (.slice none 0 0):=a.out.cell 0;have P:l.cell? ⟨w+2,1,none⟩=some (.bool false):=a.out.cell 1;have S:=a.out.frozen 0;have T:=a.out.frozen 1;by_cases X:y=0
 case pos =>
  subst X;have hd:decide ((0:Nat)=0)=true:=rfl;have j:=LH (Uc a.out v.out (CZ _ _) none 0 0 false);clear r s;go_wp2_with fail;refine AW (AY (p:=4) AB _ _ (w.heap.size+2) 77 #[.slice none 0 0,.bool false] (0,0) _ rfl j.out.2.1 underlying77 rfl AB) rfl ?_;exact⟨j.out.1,_,_,_,_,rfl,by rw[Nat.mul_zero];exact Z1.zero _ _ _ AA⟩
 have hd:decide (y=0)=false:=by rw[BA];exact X
 rw[hd];have Z:=LH (Uc a.out v.out (CZ _ _) none 0 0 true);by_cases n:b=true\/c=true
 case pos =>
  have Hz:Hid (¬x*y<big):=LH (by
   have a2:x<=x*y:=Nat.le_mul_of_pos_right x AA;have J:=a0.out;have a3:y<=x*y:=Nat.le_mul_of_pos_left y AA;rcases r with ⟨o,e1,_⟩ | ⟨o,e1,_⟩
   ·rcases s with ⟨q,e2,_⟩ | ⟨q,e2,_⟩
    ·rw[e1,e2] at n;simp at n
    omega
   omega)
  clear r s X hd;rcases (by cases b <;> cases c <;> simp at n <;> simp:b=true\/(b=false/\c=true)) with rfl | ⟨rfl,rfl⟩;all_goals
   clear n;go_wp2_with fail;refine AW (AY (p:=4) AB _ _ (w.heap.size+2) 77 #[.slice none 0 0,.bool true] (0,0) _ rfl Z.out.2.1 underlying77 rfl AB) rfl ?_;exact⟨Z.out.1,_,_,_,_,rfl,Z1.over _ Hz.out⟩
 obtain⟨rfl,rfl⟩:b=false/\c=false:=by cases b <;> cases c <;> simp at n <;> simp
 obtain⟨o,ex⟩:x<big/\(Vk x).1=limbs x:=by
  rcases r with ⟨o,_,ex⟩ | ⟨_,e,_⟩
  ·exact⟨o,ex⟩
  cases e
 obtain⟨q,R⟩:y<big/\(Vk y).1=limbs y:=by
  rcases s with ⟨q,_,R⟩ | ⟨_,e,_⟩
  ·exact⟨q,R⟩
  cases e
 have CA:=F2 g n1 c1 (Vk x).1 h n2 c2 (Vk y).1 l (H1.out.2.below v.out) (H2.out.2.below v.out) (Wx x) (Wx y);rw[ex,R,Nw x y o q] at CA;have CA:=LH CA;clear r s n ex R o q Z X hd;go_wp2_with fail;(with_reducible refine CA.out.mono ?_);rintro e W3⟨u,c3,rfl,ae,ad⟩;generalize hp:Xm (x*y)=p at *;obtain⟨t,er⟩:=p;simp only[] at ae;have Hp:=LH hp;have HN:=LH ae;have X3:=a.out.ext ad;have av:=LH (Zz v.out ad);clear A B C D O P S T L M Y hp ae ad CA;go_wp2_with fail;(with_reducible refine (tr_cof u t.length c3 (er:Int) W3).mono ?_);rintro e W4⟨rfl,U⟩;have m:=X3.ext U;have O:W4.cell? ⟨w+2,0,none⟩=some (.slice none 0 0):=m.cell 0;have P:W4.cell? ⟨w+2,1,none⟩=some (.bool false):=m.cell 1;have S:=m.frozen 0;have T:=m.frozen 1;have Y:=m.lt;have ax:=LH (HN.out.below U);obtain⟨z,V⟩:∃z,z=((er:Int)==2):=⟨_,rfl⟩;have j:=LH (Uc m (Zz av.out U) (CZ _ _) u t.length c3 z);rw[<-V];have az:Hid (∀(w':World),Zq .u32 w' u t.length c3 t->Z1 w' u t.length c3 z (x*y)):=LH λw' hn=>by
  have I:=Hp.out;unfold Xm at I;unfold Z1 Vk;by_cases hz:x*y<big
  ·rw[if_pos hz] at I ⊢;obtain⟨rfl,rfl⟩:=Prod.mk.inj I;exact⟨by rw[V];rfl,hn⟩
  rw[if_neg hz] at I ⊢;obtain⟨rfl,rfl⟩:=Prod.mk.inj I;exact⟨by rw[V];rfl,hn⟩
 clear X3 m U V;go_wp2_with fail;refine AW (AY (p:=4) AB _ _ (w.heap.size+2) 77 #[.slice u t.length c3,.bool z] (0,0) _ rfl j.out.2.1 underlying77 rfl AB) rfl ?_;exact⟨j.out.1,_,_,_,_,rfl,az.out _ (ax.out.kept j.out.2.2)⟩
theorem tr_told(A:Option Addr)(n c:Nat)(b:Bool)(x:Nat)(w:World)(h:Z1 w A n c b x):
 Calls prog 48 #[.agg #[.slice A n c,.bool b]] w (Xr w (Xm x)):=by
 have o:=Zy w (.cells #[.slice A n c,.bool b] 77);have p:=(h.2.below o);have f:=h.2.len;have k:=h.cases;have l:=LH p;have j:=LH o;clear h p;go_enter func48,ntmps48;rcases k with ⟨d,rfl,ex⟩ | ⟨d,rfl,ex⟩
 ·have a:Xm x=(limbs x,0):=by unfold Xm;rw[if_pos d]
  rw[ex] at f l;have g:=LH a;have m:=LH f;clear a ex d f;go_wp2_with fail;go_ret2;unfold Xr;rw[g.out];exact⟨A,c,by rw[<-m.out];rfl,by rw[m.out];exact l.out,j.out⟩
 have a:Xm x=([],2):=by unfold Xm;rw[if_neg d]
 have g:=LH a;clear a ex d f;go_wp2_with fail;go_ret2;unfold Xr;rw[g.out];exact⟨none,0,rfl,Zq.nil _ _ _ _ AA,j.out⟩
theorem tr_EqualT(k:Option Addr)(n c1:Nat)(xs:List (Trm))(l:Option Addr)(m c2:Nat)(ys:List (Trm))(w:World)(h1:N8 w k n c1 xs)(c:N8 w l m c2 ys):
 Calls prog 142 #[.slice k n c1,.slice l m c2] w λe w'=>∃b,e = .returned (.bool b)/\(b=true↔xs=ys)/\Below w w w':=by
 have g:=h1.len;have j:=c.len;have N:=h1.cap;have O:=c.cap;have z:=LH h1;have A:=LH c;clear h1 c;by_cases s:n=m
 case neg =>
  have hi:((n:Int) != (m:Int))=true:=by rw[BM];omega
  have v:xs≠ys:=by rintro rfl;omega
  have D:=LH v;clear v s g j;go_enter func142,ntmps142;go_wp2_with fail;go_ret;exact⟨false,rfl,⟨λh=>(by cases h),λh=>absurd h D.out⟩,AL _ _⟩
 have hi:((n:Int) != (m:Int))=false:=by rw[BQ];omega
 obtain rfl:n=m:=s;have E:=LH g;have F:=LH j;clear g j;go_enter func142,ntmps142;go_wp2_with fail;clear hi;go_loopw [13] (λi wr=>∃q:Nat,q<=n/\i = .int .i64 (q:Int)/\Hid (xs.take q=ys.take q)/\Hid (Below w w wr)) (λi _=>n-(intOf i).toNat)
 case atStart=>exact⟨0,AV _,rfl,LH rfl,LH (AL _ _)⟩
 obtain⟨q,J,rfl,o,a⟩:=hrel;by_cases y:q<n
 case pos =>
  obtain⟨V,W,t,rfl,L,p,p0,P,R⟩:=(z.out.below a.out).get y;obtain⟨X,Y,u,rfl,M,r,S,T,U⟩:=(A.out.below a.out).get y;have I:=Yt wr;by_cases d:t=u
  case neg =>
   have C:Hid (xs≠ys):=LH (λe=>by
    have h1:=p.out;rw[e,r.out] at h1;exact d (by simpa using h1.symm))
   have f:=eq_trm t u;have H:trmB t u=false:=by
    cases h:trmB t u
    ·rfl
    exact absurd (Bf.1 h) d
   rw[H] at f;have G:=Tryz.guardTerm;clear d;go_wp2_with fail;refine Zs AB AB ?_;repeat (go_big_quiet_step (fail))
   refine BK ?_;rintro _⟨x,rfl⟩;go_wp2_with fail;go_ret;exact⟨false,rfl,⟨λh=>(by cases h),λh=>absurd h C.out⟩,Zz a.out (Zr wr x)⟩
  subst d;have f:=eq_trm t t;rw[Bf.2 rfl] at f;have G:=Tryz.guardTerm;go_wp2_with fail;refine Zs AB AB ?_;repeat (go_big_quiet_step (fail))
  refine BK ?_;rintro _⟨x,rfl⟩;go_wp2_with fail;go_roundw
  case rel=>exact⟨q+1,AA,AF,LH (Qc o.out p.out r.out),LH (Zz a.out (Zr wr x))⟩
  simp[intOf];omega
 obtain rfl:q=n:=AA
 have B:Hid (xs=ys):=LH (by have:=o.out;rwa [AR (by rw[E.out];exact AJ _),AR (by rw[F.out];exact AJ _)] at this);go_wp2_with fail;go_ret;exact⟨true,rfl,⟨λ_=>B.out,λ_=>rfl⟩,a.out⟩
theorem tr_EqualS(k:Option Addr)(n c1:Nat)(xs:List (ByteArray))(l:Option Addr)(m c2:Nat)(ys:List (ByteArray))(w:World)(h1:Js w k n c1 xs)(c:Js w l m c2 ys):
 Calls prog 143 #[.slice k n c1,.slice l m c2] w λe w'=>∃b,e = .returned (.bool b)/\(b=true↔xs=ys)/\Below w w w':=by
 have g:=h1.len;have j:=c.len;have M:=h1.cap;have N:=c.cap;have z:=LH h1;have A:=LH c;clear h1 c;by_cases s:n=m
 case neg =>
  have hi:((n:Int) != (m:Int))=true:=by rw[BM];omega
  have v:xs≠ys:=by rintro rfl;omega
  have D:=LH v;clear v s g j;go_enter func143,ntmps143;go_wp2_with fail;go_ret;exact⟨false,rfl,⟨λh=>(by cases h),λh=>absurd h D.out⟩,AL _ _⟩
 have hi:((n:Int) != (m:Int))=false:=by rw[BQ];omega
 obtain rfl:n=m:=s;have E:=LH g;have F:=LH j;clear g j;go_enter func143,ntmps143;go_wp2_with fail;clear hi;go_loopw [13] (λi wr=>∃q:Nat,q<=n/\i = .int .i64 (q:Int)/\Hid (xs.take q=ys.take q)/\Hid (Below w w wr)) (λi _=>n-(intOf i).toNat)
 case atStart=>exact⟨0,AV _,rfl,LH rfl,LH (AL _ _)⟩
 obtain⟨q,I,rfl,o,a⟩:=hrel;by_cases y:q<n
 case pos =>
  obtain⟨P,R,t,rfl,J,p,p0⟩:=(z.out.below a.out).get y;obtain⟨S,T,u,rfl,L,r,O⟩:=(A.out.below a.out).get y;have H:=Yt wr;by_cases d:t=u
  case neg =>
   have C:Hid (xs≠ys):=LH (λe=>by
    have h1:=p.out;rw[e,r.out] at h1;exact d (by simpa using h1.symm))
   have f:(t==u)=false:=by
    cases h:t==u
    ·rfl
    exact absurd (Zx5.1 h) d
   have G:(t.toList==u.toList)=false:=by rw[<-beq_toListBytes];exact f
   clear d;go_wp2_with fail;refine Zs AB AB ?_;repeat (go_big_quiet_step (fail))
   refine BK ?_;rintro _⟨x,rfl⟩;go_wp2_with fail;go_ret;exact⟨false,rfl,⟨λh=>(by cases h),λh=>absurd h C.out⟩,Zz a.out (Zr wr x)⟩
  subst d;have f:(t==t)=true:=Zx5.2 rfl;have G:(t.toList==t.toList)=true:=by rw[<-beq_toListBytes];exact f
  go_wp2_with fail;refine Zs AB AB ?_;repeat (go_big_quiet_step (fail))
  refine BK ?_;rintro _⟨x,rfl⟩;go_wp2_with fail;go_roundw
  case rel=>exact⟨q+1,AA,AF,LH (Qc o.out p.out r.out),LH (Zz a.out (Zr wr x))⟩
  simp[intOf];omega
 obtain rfl:q=n:=AA
 have B:Hid (xs=ys):=LH (by have:=o.out;rwa [AR (by rw[E.out];exact AJ _),AR (by rw[F.out];exact AJ _)] at this);go_wp2_with fail;go_ret;exact⟨true,rfl,⟨λ_=>B.out,λ_=>rfl⟩,a.out⟩
theorem tr_EqualI(j:Option Addr)(n c1:Nat)(xs:List (Int))(k:Option Addr)(m c2:Nat)(ys:List (Int))(w:World)(h1:Za .i64 w j n c1 xs)(c:Za .i64 w k m c2 ys):
 Calls prog 195 #[.slice j n c1,.slice k m c2] w λe w'=>∃b,e = .returned (.bool b)/\(b=true↔xs=ys)/\Below w w w':=by
 have f:=h1.len;have g:=c.len;have L:=h1.cap;have M:=c.cap;have y:=LH h1;have z:=LH c;clear h1 c;by_cases r:n=m
 case neg =>
  have hi:((n:Int) != (m:Int))=true:=by rw[BM];omega
  have s:xs≠ys:=by rintro rfl;omega
  have C:=LH s;clear s r f g;go_enter func195,ntmps195;go_wp2_with fail;go_ret;exact⟨false,rfl,⟨λh=>(by cases h),λh=>absurd h C.out⟩,AL _ _⟩
 have hi:((n:Int) != (m:Int))=false:=by rw[BQ];omega
 obtain rfl:n=m:=r;have D:=LH f;have E:=LH g;clear f g;go_enter func195,ntmps195;go_wp2_with fail;clear hi;go_loopw [13] (λi wr=>∃q:Nat,q<=n/\i = .int .i64 (q:Int)/\Hid (xs.take q=ys.take q)/\Hid (Below w w wr)) (λi _=>n-(intOf i).toNat)
 case atStart=>exact⟨0,AV _,rfl,LH rfl,LH (AL _ _)⟩
 obtain⟨q,H,rfl,l,a⟩:=hrel;by_cases v:q<n
 case pos =>
  obtain⟨O,P,t,rfl,I,o,p0⟩:=(y.out.below a.out).get v;obtain⟨R,S,u,rfl,J,p,N⟩:=(z.out.below a.out).get v;have G:=Yt wr;by_cases d:t=u
  case neg =>
   have B:Hid (xs≠ys):=LH (λe=>by
    have h1:=o.out;rw[e,p.out] at h1;exact d (by simpa using h1.symm))
   have F:(t != u)=true:=by rw[BM];exact d
   clear d;go_wp2_with fail;refine Zs AB AB ?_;repeat (go_big_quiet_step (fail))
   refine BK ?_;rintro _⟨x,rfl⟩;go_wp2_with fail;go_ret;exact⟨false,rfl,⟨λh=>(by cases h),λh=>absurd h B.out⟩,Zz a.out (Zr wr x)⟩
  subst d;have F:(t != t)=false:=AE
  go_wp2_with fail;refine Zs AB AB ?_;repeat (go_big_quiet_step (fail))
  refine BK ?_;rintro _⟨x,rfl⟩;go_wp2_with fail;go_roundw
  case rel=>exact⟨q+1,AA,AF,LH (Qc l.out o.out p.out),LH (Zz a.out (Zr wr x))⟩
  simp[intOf];omega
 obtain rfl:q=n:=AA
 have A:Hid (xs=ys):=LH (by have:=l.out;rwa [AR (by rw[D.out];exact AJ _),AR (by rw[E.out];exact AJ _)] at this);go_wp2_with fail;go_ret;exact⟨true,rfl,⟨λ_=>A.out,λ_=>rfl⟩,a.out⟩
theorem Jc.below{B:Nat}{c N:Nat}{d:List Nat}(h:Jc w B A n c N d tab)(b:Below w w w'):Jc w' B A n c N d tab :=
 ⟨B7 h.own b,λg a=>(h.noInt g a).same (b.block g (h.own.lt g a).2),h.nodup,λm g a=>⟨(h.row m g a).1,(h.row m g a).2.below b⟩⟩
theorem Own.below{B:Nat}{k:IntKind}{a:List Nat}(h:Own w g t k a)(b:Below B w w')(c:g<B):Own w' g t k a:=(b.block g c).trans h
section
open Go.Maps (Keyed IsMap Tidy)
theorem NumM.look{b:List Nat}{i:Nat}(h:NumM w g b)(f:b.Nodup)(hi:i∈b)(d:i<=1000):(Instr.lookup 154 (.map (some g)) (.int .i64 (i:Int)) false).run prog w = .ok (.int .i64 (toI b i)) w:=by
 obtain⟨c,j,a,_⟩:=World.ownsMap.lookup_int h keyInt underlying154 underlying3 (zeroInt w) (key_num i d);rw[at_numD _ i b f hi] at a;injection a with a;injection a with _ a;rw[j,a]
end
