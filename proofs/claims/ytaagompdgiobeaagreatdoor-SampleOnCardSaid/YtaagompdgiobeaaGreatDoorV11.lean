/- a grammar that is reduced is right, plainly (no program in sight). -/
import Derived.Test.YtaagompdgiobeaaGreatDoorV08
import Derived.Test.YtaagompdgiobeaaGreatDoorV09
import Derived.Test.YtaagompdgiobeaaGreatDoorV10
set_option linter.all false
set_option maxHeartbeats 1500000
set_option maxRecDepth 100000
namespace Go.Proofs.YtaagompdgiobeaaGreatDoor
open Go.RowKit Go.Proofs.Tryz
variable{n b x c g B:Nat}{a w w':World}{A:Option Addr}{xs:List Nat}{r:List (Value × Nat)}{G:Gr}{S:Nat->Prop}{ts:List ((Int × Nat) × Nat)}{d:List ((Nat × Nat × Nat) × Nat)}{h:GH}{tab:Nat->Nat->Nat}{cs:Array Value}{e:TypeId}
theorem Yd(n:Nat):val (limbs n)=n:=(Ga _ n (Zth n)).1
theorem Z9(n:Nat):Lim (limbs n):=(Ga _ n (Zth n)).2
theorem limbsF_tight(f:Nat):∀n,n<4294967296 ^ f->Mo (Ft f n):=by
 induction f with
 | zero=>intro n _ ys x h;simp[Ft] at h
 | succ f d =>
   intro n h ys x a;unfold Ft at a;by_cases h0:n=0
   ·simp[h0] at a
   rw[if_neg h0] at a;have hd:n / 4294967296<4294967296 ^ f:=by
    rw[Nat.pow_succ] at h;exact Nat.div_lt_of_lt_mul (by rw[Ef];exact h)
   cases ys with
   | nil =>
     simp only[DA,List.cons.injEq] at a;obtain⟨h1,c⟩:=a;have b:=(Ga f _ hd).1;rw[c] at b;simp[val] at b;omega
   | cons y ys =>
     simp only[DM,List.cons.injEq] at a;exact d _ hd ys x a.2
theorem Fk(n:Nat):Mo (limbs n):=limbsF_tight _ n (Zth n)
theorem Mf(xs:List Nat)(h:Lim xs)(a:Mo xs):limbs (val xs)=xs :=
 val_inj _ _ (Z9 _) h (Fk _) a (Yd _)
theorem Vg(xs:List Nat)(h:Lim xs):Xx xs=limbs (val xs):=by
 obtain⟨h1,a,_⟩:=Zx3 _ xs rfl;rw[<-h1,Mf _ (neatL_lim xs h) a]
theorem Vt(n k:Nat):(limbs n).length<=k↔n<4294967296 ^ k:=by
 constructor
 ·intro h;have h1:=Ui _ (Z9 n);rw[Yd] at h1;exact AK h1 (CV AC h)
 intro h;rcases BD k (limbs n).length with a | a
 ·exfalso;rcases List.eq_nil_or_concat (limbs n) with h0 | ⟨ys,x,b⟩
  ·simp[h0] at a
  rw[List.concat_eq_append] at b;have h0:=Fk n ys x b;have c:=Yd n;rw[b,Wf] at c;rw[b] at a;simp at a;have d:(4294967296:Nat) ^ k<=4294967296 ^ ys.length:=CV AC AA;have f:4294967296 ^ ys.length*1<=4294967296 ^ ys.length*x:=Ei _ AA;omega
 exact a
theorem Ym(n:Nat)(h:n<big):Zm (limbs n)=true:=by
 have h1:(limbs n).length<=32:=(Vt n 32).2 (by rw[<-Zwf];exact h);simp only[Zm,h1,decide_true,Bool.true_and,CJ,decide_eq_true_eq,BK,ne_eq];rcases List.eq_nil_or_concat (limbs n) with h0 | ⟨ys,x,a⟩
 ·simp[h0]
 rw[List.concat_eq_append] at a;right;rw[a];simpa using Fk n ys x a
theorem Nw(a b:Nat)(c:a<big)(d:b<big):N9 (limbs a) (limbs b)=Xm (a*b):=by
 simp[N9,Ym a c,Ym b d,Yd]
theorem Nz(a b:Nat)(c:a<big)(d:b<big):Mu (limbs a) (limbs b)=Xm (a+b):=by
 simp[Mu,Ym a c,Ym b d,Yd]
theorem Zs4(a:List Nat)(h:Lim a):(if (Xx a).length<=32 then (Xx a,0) else (([]:List Nat),2))=Xm (val a):=by
 rw[Vg a h];unfold Xm;by_cases b:val a<big
 ·rw[if_pos b,if_pos ((Vt _ 32).2 (by rw[<-Zwf];exact b))]
 rw[if_neg b,if_neg (λc=>b (by rw[Zwf];exact (Vt _ 32).1 c))]
theorem Lq:(limbs n).length=0↔n=0:=by
 constructor
 ·intro h;have h1:limbs n=[]:=BJ h;have a:=Yd n;rw[h1] at a;exact a.symm
 rintro rfl;rfl
theorem Wx(x:Nat):Lim (Vk x).1:=by
 unfold Vk;split
 ·exact Z9 x
 exact λy a=>by cases a
theorem Va:limbs 0=[]:=by
 have:=(Vt 0 0).2 AC;exact BJ AA
theorem Ul(xs:List Nat)(h:Lim xs)(a:Zm xs=true):xs=limbs (val xs)/\val xs<big:=by
 refine⟨(Mf xs h (X8 xs a)).symm,?_⟩;have h1:=Ui xs h;simp[Zm] at a;rw[Zwf];exact AK h1 (CV AC a.1)
theorem Zvu{a:Nat}(c:a<big)(d:b<big):Vq (limbs a) (limbs b)=Vm a b:=by
 simp[Vq,Ym a c,Ym b d,Yd]
theorem Zw6{a:Nat}(c:a<big)(d:b<=a):Mw (limbs a) (limbs b)=(limbs (a-b),0):=by
 have h:¬a<b:=AA
 simp[Mw,Ym a c,Ym b (En d c),Yd,h]
theorem Zv2{a:Nat}(c:a<big)(d:b<big)(h0:0<b):M2 (limbs a) (limbs b)=(limbs (a / b),limbs (a % b),0):=by
 have f:limbs b≠[]:=λe=>by have:=Lq.1 (by rw[e];rfl:(limbs b).length=0);omega
 simp[M2,Ym a c,Ym b d,Yd,f]
theorem Bk{y:Nat}(m:x≠0)(o:y≠0):∃d g,N9 (Vk x).1 (Vk y).1=(d,g)/\∀(w:World) (A:Option Addr) (c:Nat),Zq .u32 w A d.length c d->Z1 w A d.length c ((Vk x).2 || ((Vk y).2 || ((g:Int) != 0))) (x*y):=by
 have n:x<=x*y:=Nat.le_mul_of_pos_right x AA;have p:y<=x*y:=Nat.le_mul_of_pos_left y AA;have f:Zm ([]:List Nat)=true:=AC
 have k:val ([]:List Nat)=0:=rfl;have l:0<big:=Zsx;have j:Xm 0=([],0):=by unfold Xm;rw[if_pos l,BJ (Lq.2 rfl)]
 by_cases h1:x<big
 ·by_cases b:y<big
  ·rw[Z7 h1,Z7 b,Nw x y h1 b];rcases F8 (x*y) with ⟨a,e⟩ | ⟨a,e⟩
   ·exact⟨_,_,e,λw A c h=>⟨by rw[Z7 a];rfl,by rw[Z7 a];exact h⟩⟩
   exact⟨_,_,e,λw A c h=>⟨by rw[Wl a];rfl,by rw[Wl a];exact h⟩⟩
  have a:¬x*y<big:=AA
  rw[Z7 h1,Wl b];refine⟨[],0,by simp[N9,f,k,j,Ym x h1],λw A c h=>⟨by rw[Wl a];rfl,by rw[Wl a];exact h⟩⟩
 have a:¬x*y<big:=AA
 rw[Wl h1];refine⟨[],0,?_,λw A c h=>⟨by rw[Wl a];rfl,by rw[Wl a];exact h⟩⟩;have:Zm (Vk y).1=true:=by
  by_cases b:y<big
  ·rw[Z7 b];exact Ym y b
  rw[Wl b];exact f
 simp[N9,f,k,j,this]
theorem bitLen_big(v:Nat)(h:v<big):bitLen v<=1024:=by
 rcases BD 1024 (bitLen v) with h1 | h1
 ·have a:=bit_in (limbs v) (Z9 v) 1024 (by rw[Yd];exact h1);have b:(limbs v).length<=32:=Ut _ (Ym v h);omega
 exact h1
theorem Zr5(xs:List Nat)(a:Lim xs):Zrs xs<=1024:=by
 unfold Zrs Zz9;split
 ·unfold Mw;split
  ·rename_i h;split
   ·decide
   rw[Yd];simp at h;have:=(Ul xs a h.1).2;exact bitLen_big _ AA
  decide
 omega
theorem one_cmp(xs:List Nat)(r:Zm xs=true)(t:Nat)(a:t<big):decide (Vq (limbs t) xs<0)=decide (t<val xs):=by
 rw[decide_eq_decide];simp only[Vq,r,Ym t a,Bool.and_self,if_true,Yd,Vm];split
 ·simp[*]
 split <;> simp[*]
section
open Go.Maps (Keyed IsMap Tidy)
theorem Z1.zero(w:World)(A:Option Addr)(c:Nat)(d:c<=9223372036854775807):Z1 w A 0 c false 0:=by
 have b:0<big:=by unfold big;generalize 1024=k;exact Nat.two_pow_pos k
 have a:Vk 0=([],false):=by rw[Z7 b];rfl
 unfold Z1;rw[a];exact⟨rfl,Zq.nil _ _ _ _ d⟩
theorem Z1.none_iff{b:Bool}(h:Z1 w A n c b x):(b=false/\n=0)↔x=0:=by
 obtain⟨rfl,f⟩:=h;have a:=f.len;by_cases d:x<big
 ·rw[Z7 d] at a ⊢;simp only[true_and] at a ⊢;rw[<-a];exact Lq
 rw[Wl d];have g:0<big:=by unfold big;generalize 1024=k;exact Nat.two_pow_pos k
 constructor
 ·rintro⟨h,_⟩;cases h
 rintro rfl;exact absurd g d
theorem Vp.below{t:TypeId}(h:Vp w g t xs)(a:Below w w w'):Vp w' g t xs:=h.kept (.of_below a) (a.block g h.lt)
theorem Vp.new(w:World)(t:TypeId)(n:Nat):Vp (w.alloc (.cells (zeroCells n) t)) w t (List.replicate n 0):=by
 refine⟨zeroCells n,Blk.new w t _,by rw[Fy,Eg],λj x a=>?_⟩;have b:j<n:=by have:=(AO.1 a).1;simpa using this
 obtain rfl:0=x:=by rw[List.getElem?_replicate,if_pos b] at a;exact BH a
 obtain⟨h1,c⟩:=Cl n j b;exact⟨none,0,0,false,h1,c,Z1.zero _ _ _ AA⟩
theorem Tryz.info34:(prog.info? 41).map (λi=>(i.zero,i.size,i.bytes))=some (some (.int .u32 0),1,4):=AB
theorem Q3(A:Option Addr)(n c:Nat)(xs:List Nat)(w:World)(h:Zq .u32 w A n c xs):
 Calls prog 162 #[.slice A n c] w λe w'=>e = .returned (.slice A (Xx xs).length (Xx xs).length)/\Zq .u32 w A (Xx xs).length (Xx xs).length (Xx xs)/\w=w':=by
 have r:=h.len;have q:=h.cap;go_enter func162,ntmps162;go_wp2;go_loop [3] (λi=>∃k:Nat,k<=n/\i = .int .i64 k/\Xx xs=Xx (xs.take k)) (λi=>(intOf i).toNat)
 case atStart=>exact⟨n,AJ _,rfl,by rw[AR AA]⟩
 obtain⟨k,m,rfl,hrel⟩:=hrel;have f:=LH hrel;clear hrel;by_cases s:0<k
 ·obtain⟨b,u,x,rfl,o,Hx,p⟩:=h.get (j:=k-1) AA;by_cases h0:x=0
  ·subst h0;go_wp2;go_round
   case rel =>
    refine⟨k-1,AA,AF,?_⟩;rw[f];have:=Zws xs (k-1) AA (by simp[Hx.out]);rw[<-this,show k-1+1=k from by omega]
   simp[intOf];omega
  have t:((x:Int)==0)=false:=by simp[h0]
  have a:=Zxp xs (k-1) AA (by simpa [Hx.out] using h0);rw[show k-1+1=k from by omega,<-f] at a;have g:(Xx xs).length=k:=by rw[a];simp;omega
  have d:=LH a;have l:=LH g;clear a g;go_wp2;go_ret;rw[l];refine⟨rfl,?_,rfl⟩;rw[d];exact h.take k k m (AJ _) AA
 have a:Xx xs=[]:=by rw[f,show k=0 from by omega];simp[Xx]
 have d:=LH a;clear a;obtain rfl:k=0:=AA
 go_wp2;go_ret;rw[d];exact⟨rfl,Zq.nil _ _ _ _ AE,rfl⟩
theorem Ztv(A:Option Addr)(n c:Nat)(xs:List Nat)(w:World)(h:Zq .u32 w A n c xs)(g:Lim xs):
 Calls prog 225 #[.slice A n c] w (Xr w (Xm (val xs))):=by
 have a:=Zs4 xs g;by_cases d:(Xx xs).length<=32
 ·rw[if_pos d] at a;have b:=LH a;clear a;go_enter func225,ntmps225;go_wp2_with (go_at_call 162;refine (Q3 _ _ _ _ _ h).mono ?_;rintro e w'⟨rfl,f,rfl⟩);go_ret2;rw[<-b];exact⟨_,_,rfl,AH,AL _ _⟩
 rw[if_neg d] at a;have b:=LH a;clear a;go_enter func225,ntmps225;go_wp2_with (go_at_call 162;refine (Q3 _ _ _ _ _ h).mono ?_;rintro e w'⟨rfl,f,rfl⟩);go_ret2;rw[<-b];exact⟨none,0,rfl,Zq.nil _ _ _ _ AE,AL _ _⟩
theorem nat_of(x:Nat)(w:World)(j:x<18446744073709551616):
 Calls prog 104 #[.int .u64 (x:Int)] w (Bq w (limbs x)):=by
 have h:Lim [x % 4294967296,x / 4294967296]:=Lim.mk AA (Lim.mk AA Lim.nil);have f:val [x % 4294967296,x / 4294967296]=x:=by simp[val];omega
 have a:=Vg _ h;rw[f] at a;have g:=LH a;clear a f;have d:=(Own.new w 41 .u32 [x % 4294967296,x / 4294967296]).nums (n:=2) (c:=2) rfl (AJ _) AA;have e:(nums .u32 [x % 4294967296,x / 4294967296]).toArray=#[.int .u32 ((x:Int) % 4294967296),.int .u32 ((x:Int) / 4294967296)]:=by simp[nums]
 rw[e] at d;clear e;go_enter func104,ntmps104;go_wp2_with (go_at_call 162;refine (Q3 _ _ _ _ _ d).mono ?_;rintro e w'⟨rfl,b,rfl⟩);go_ret;rw[g.out] at b ⊢;exact⟨_,_,rfl,b,(AL _ _).alloc (AJ _) _⟩
end
section
open Go.Maps (Keyed IsMap Tidy)
variable {P:Program} {k:TypeId}
theorem Vv.lt(h:Vv P k w g r):g<w.heap.size:=h.own.lt
theorem Vv.block(h:Vv P k w g r)(b:w'.heap[g]? = w.heap[g]?):Vv P k w' g r:=by
 refine⟨?_,h.good⟩;obtain⟨a,clock,c,q⟩:=h.own;exact⟨a,clock,b.trans c,q⟩
theorem Vv.below(h:Vv P k w g r)(a:Below w w w'):Vv P k w' g r:=h.block (a.block g h.lt)
theorem Vv.no_cell(h:Vv P k w g r)(o:Nat):w.cell? ⟨g,o,none⟩=none:=by
 obtain⟨b,clock,a,_⟩:=h.own;simp[World.cell?,a]
theorem Vv.noInt(h:Vv P k w g r):Qf w g:=λo k z a=>by rw[h.no_cell] at a;cases a
end
section
open Go.Maps (Keyed IsMap Tidy)
open Go.Maps (Keyed IsMap Tidy)
theorem H8.lt(h:H8 w b x):b<w.heap.size:=by
 obtain⟨A,n,c,d,h1,_⟩:=h;exact h1.lt
structure Zzo (w:World) (g:Nat) (G:Gr) (S:Nat->Prop) (ts:List ((Int × Nat) × Nat)):Prop where
 map:Vv Tryz.prog 257 w g (ts.map λp=>(kT p.1.1 p.1.2,p.2))
 key:∀p∈ts,p.1.1<0/\Zp p.1.1<100/\p.1.2<=100
 val:∀p∈ts,H8 w p.2 (Zv G p.1.1 p.1.2)/\¬S p.2
structure Zue (w:World) (g:Nat) (G:Gr) (S:Nat->Prop) (fs:List ((Nat × Nat × Nat) × Nat)):Prop where
 map:Vv Tryz.prog 261 w g (fs.map λp=>(kF p.1.1 p.1.2.1 p.1.2.2,p.2))
 key:∀p∈fs,p.1.1<=100/\p.1.2.1<=100/\p.1.2.2<=100
 val:∀p∈fs,∃x,G.rules[p.1.1]? = some x/\H8 w p.2 (Zx (Zv G) (x.right.drop p.1.2.1) p.1.2.2)/\¬S p.2
theorem Zzo.few(h:Zzo w g G S ts):Maps.size (Np prog 257 (ts.map λp=>(kT p.1.1 p.1.2,p.2)))<maxLen:=by
 obtain⟨L,h1,n,o⟩:=F1 Tryz.keyKT _ h.map.good;have d:∀v∈L,∃p∈ts,v=kT p.1.1 p.1.2:=λv r=>by
  obtain⟨q,f,e⟩:=CW.1 (n v r);obtain⟨p,c,rfl⟩:=CW.1 f;exact⟨p,c,e.symm⟩
 have:=Gq codeT 1000000 h1 (λx j y s e=>by
  obtain⟨p,c,rfl⟩:=d x j;obtain⟨q,f,rfl⟩:=d y s;have a:=h.key p c;have b:=h.key q f;rw[Zx1,Zx1] at e;unfold Zp at e a b;have l:p.1.1=q.1.1:=AA
  have m:p.1.2=q.1.2:=AA
  rw[l,m]) (λx j=>by
  obtain⟨p,c,rfl⟩:=d x j;have a:=h.key p c;rw[Zx1];omega)
 rw[o];unfold maxLen;omega
theorem Zue.few(h:Zue w g G S d):Maps.size (Np prog 261 (d.map λp=>(kF p.1.1 p.1.2.1 p.1.2.2,p.2)))<maxLen:=by
 obtain⟨L,h1,r,s⟩:=F1 Tryz.keyKF _ h.map.good;have f:∀v∈L,∃p∈d,v=kF p.1.1 p.1.2.1 p.1.2.2:=λv t=>by
  obtain⟨q,j,e⟩:=CW.1 (r v t);obtain⟨p,c,rfl⟩:=CW.1 j;exact⟨p,c,e.symm⟩
 have:=Gq codeF 1000000000 h1 (λx l y u e=>by
  obtain⟨p,c,rfl⟩:=f x l;obtain⟨q,j,rfl⟩:=f y u;have a:=h.key p c;have b:=h.key q j;rw[Zy2,Zy2] at e;have m:p.1.1=q.1.1:=AA
  have n:p.1.2.1=q.1.2.1:=AA
  have o:p.1.2.2=q.1.2.2:=AA
  rw[m,n,o]) (λx l=>by
  obtain⟨p,c,rfl⟩:=f x l;have a:=h.key p c;rw[Zy2];omega)
 rw[s];unfold maxLen;omega
structure Yo (W0:World) (k:CH) (h:GH) (G:Gr) (S:Nat->Prop) (w:World):Prop where
 base:Below W0.heap.size W0 w
 box:Blk w k.c 211 #[.slice h.a1 h.n1 h.c1,.slice h.a2 h.n2 h.c2,.slice h.a3 h.n3 h.c3,.int .i64 G.start,.slice (some ⟨k.n,0,none⟩) h.n2 h.n2,.map (some k.t),.map (some k.f)]
 nul:Z8 w k.n (Zj G)
 low:W0.heap.size<=k.t/\W0.heap.size<=k.f
 ne:k.t≠k.f
 trees:∃ts,Zzo w k.t G S ts
 forts:∃fs,Zue w k.f G S fs
theorem Yo.maps_noInt{k:CH}(C:Yo a k h G S w):∀g,k.maps g->Qf w g:=by
 obtain⟨ts,c⟩:=C.trees;obtain⟨d,b⟩:=C.forts;rintro g (rfl | rfl)
 ·exact c.map.noInt
 exact b.map.noInt
theorem Yo.keep{k:CH}(C:Yo a k h G S w)(b:Off k.maps w w'):Zf w w':=Zf.of_off b C.maps_noInt
theorem Yo.map_lt{k:CH}(C:Yo a k h G S w):k.t<w.heap.size/\k.f<w.heap.size:=by
 obtain⟨ts,c⟩:=C.trees;obtain⟨d,b⟩:=C.forts;exact⟨c.map.lt,b.map.lt⟩
theorem Yo.move{l:World}{k:CH}{P:Nat->Prop}(C:Yo l k h G S w)(d:Off P w w')(o:Zf w w')(h1:∀b,P b->S b/\l.heap.size<=b/\b≠k.c/\b≠k.n/\b≠k.t/\b≠k.f):Yo l k h G S w':=by
 obtain⟨v,y⟩:=C.map_lt;refine⟨C.base.trans (d.is_below C.base.size λb j=>(h1 b j).2.1),d.blk C.box λa=>(h1 _ a).2.2.1 rfl,d.blk C.nul λa=>(h1 _ a).2.2.2.1 rfl,C.low,C.ne,?_,?_⟩
 ·obtain⟨ts,g⟩:=C.trees;exact⟨ts,g.map.block (d.keep _ v λa=>(h1 _ a).2.2.2.2.1 rfl),g.key,λp a=>⟨(g.val p a).1.kept o (d.keep _ (g.val p a).1.lt λj=>(g.val p a).2 (h1 _ j).1),(g.val p a).2⟩⟩
 obtain⟨s,m⟩:=C.forts;refine⟨s,m.map.block (d.keep _ y λa=>(h1 _ a).2.2.2.2.2 rfl),m.key,λp a=>?_⟩;obtain⟨x,u,r,q⟩:=m.val p a;exact⟨x,u,r.kept o (d.keep _ r.lt λj=>q (h1 _ j).1),q⟩
theorem Yo.below{c:World}{k:CH}(C:Yo c k h G S w)(a:Below w w w'):Yo c k h G S w' :=
 C.move (P:=λ_=>False) (Off.of_below a) (.of_below a) λb a=>a.elim
theorem Yo.more{m:World}{k:CH}(C:Yo m k h G S w)(a:Below w w w')(r:w.heap.size<=g):Yo m k h G (λb=>S b\/b=g) w':=by
 have f:=C.below a;refine⟨f.base,f.box,f.nul,f.low,f.ne,?_,?_⟩
 ·obtain⟨ts,d⟩:=C.trees;obtain⟨s,t⟩:=C.map_lt;refine⟨ts,d.map.below a,d.key,λp c=>⟨(d.val p c).1.kept (.of_below a) (a.block _ (d.val p c).1.lt),?_⟩⟩;rintro (h1 | h1)
  ·exact (d.val p c).2 h1
  have:=(d.val p c).1.lt;omega
 obtain⟨n,j⟩:=C.forts;refine⟨n,j.map.below a,j.key,λp c=>?_⟩;obtain⟨x,q,l,o⟩:=j.val p c;refine⟨x,q,l.kept (.of_below a) (a.block _ l.lt),?_⟩;rintro (h1 | h1)
 ·exact o h1
 have:=l.lt;omega
theorem Yo.less{f:World}{k:CH}{S':Nat->Prop}(C:Yo f k h G S w)(g:∀b,S' b->S b):Yo f k h G S' w:=by
 refine⟨C.base,C.box,C.nul,C.low,C.ne,?_,?_⟩
 ·obtain⟨ts,c⟩:=C.trees;exact⟨ts,c.map,c.key,λp a=>⟨(c.val p a).1,λh1=>(c.val p a).2 (g _ h1)⟩⟩
 obtain⟨j,d⟩:=C.forts;refine⟨j,d.map,d.key,λp a=>?_⟩;obtain⟨x,n,m,h1⟩:=d.val p a;exact⟨x,n,m,λl=>h1 (g _ l)⟩
end
theorem Zyq.below{N:Nat}(h:Zyq w A n c N tab)(a:Below w w w'):Zyq w' A n c N tab:=by
 refine⟨h.1,h.2.1,λl=>?_⟩;obtain⟨b,f,e,d,o⟩:=h.2.2 l;refine⟨b,f,e,AK d a.size,λm k=>?_⟩;obtain⟨g,h1,j⟩:=o m k;exact⟨g,(a.cell (p:=⟨b,f+m,none⟩) d).trans h1,j.below a⟩
theorem Zsl(w:World):Calls prog 122 #[] w (RetV w 1):=by
 have g:=Zy w (.cells #[.slice none 0 0,.bool false] 110);have a:=Blk.new w 110 #[.slice none 0 0,.bool false];have m:(w.alloc (.cells #[.slice none 0 0,.bool false] 110)).heap.size=w.heap.size+1:=Zl _ _;go_enter func122,ntmps122;go_upto_region 1 with fail;generalize w.alloc (.cells #[.slice none 0 0,.bool false] 110)=W at *;obtain⟨d,f,n⟩:=Vb a g (AJ _) (some ⟨w+1,0,none⟩) 1 1 false;have h:((W.setCell ⟨w,0,none⟩ (.slice (some ⟨w+1,0,none⟩) 1 1)).setCell ⟨w,1,none⟩ (.bool false)).heap.size=w.heap.size+1:=by rw[<-m];simp
 have b:=Zy ((W.setCell ⟨w,0,none⟩ (.slice (some ⟨w+1,0,none⟩) 1 1)).setCell ⟨w,1,none⟩ (.bool false)) (.cells #[.int .u32 1] 41);have c:Zq .u32 (((W.setCell ⟨w,0,none⟩ (.slice (some ⟨w+1,0,none⟩) 1 1)).setCell ⟨w,1,none⟩ (.bool false)).alloc (.cells #[.int .u32 1] 41)) (some ⟨((W.setCell ⟨w,0,none⟩ (.slice (some ⟨w+1,0,none⟩) 1 1)).setCell ⟨w,1,none⟩ (.bool false)).heap.size,0,none⟩) 1 1 [1]:=N6 ((W.setCell ⟨w,0,none⟩ (.slice (some ⟨w+1,0,none⟩) 1 1)).setCell ⟨w,1,none⟩ (.bool false)) 41 (nums .u32 [1]) 1 _ rfl rfl AC;rw[h] at c;have j:=LH (Zz d b);have k:=LH (Blk.ext f b);have c0:W.cell? ⟨w,0,none⟩=some (.slice none 0 0):=a.cell 0;have c1:W.cell? ⟨w,1,none⟩=some (.bool false):=a.cell 1;have o:=a.frozen 0;have q:=a.frozen 1;have r:=a.lt;have l:=LH c;clear a g b c d f n h;go_wp2_with fail;refine AW (AX (p:=0) AB _ _ w 110 #[.slice (some ⟨w+1,0,none⟩) 1 1,.bool false] (0,0) _ rfl k.out underlying110 rfl AB) rfl ?_;refine⟨j.out,_,_,_,_,rfl,?_⟩;unfold Z1;rw[Zw2];exact⟨rfl,l.out⟩
theorem Ztn(A:Option Addr)(n c N:Nat)(tab:Nat->Nat->Nat)(b:Int)(k:Nat)(w:World)(C:Zyq w A n c N tab)(T:k<n)(S:N<=1000)(af:k<=1000)(z:b<0->-(N:Int)<=b):
 Calls prog 123 #[.slice A n c,.int .i64 b,.int .i64 (k:Int)] w (RetV w (Yk tab b k)):=by
 have h:=Zy w (.cells #[.slice none 0 0,.bool false] 110);have a:=Blk.new w 110 #[.slice none 0 0,.bool false];have D:=C.below h;clear C;go_enter func123,ntmps123;go_upto_region 1 with fail;generalize w.alloc (.cells #[.slice none 0 0,.bool false] 110)=W at *;have c0:W.cell? ⟨w,0,none⟩=some (.slice none 0 0):=a.cell 0;have c1:W.cell? ⟨w,1,none⟩=some (.bool false):=a.cell 1;have P:=a.frozen 0;have R:=a.frozen 1;have V:=a.lt;by_cases h0:0<=b
 ·have U:¬(b<0):=AA
  have l:Yk tab b k=K0 k:=by unfold Yk;rw[if_pos h0]
  have t:=LH l;clear l D z;by_cases x:k=1
  ·subst x;have M:=LH a;have L:=LH h;clear a h;go_wp2_with fail;(with_reducible refine (Zsl W).mono ?_);rintro e B⟨v,o,r,c3,q,rfl,m⟩;have f:=M.out.ext v;have d:=LH (Vb f (Zz L.out v) (AJ _) o r c3 q);have X:B.cell? ⟨w,0,none⟩=some (.slice none 0 0):=f.cell 0;have Y:B.cell? ⟨w,1,none⟩=some (.bool false):=f.cell 1;have Z:=f.frozen 0;have aa:=f.frozen 1;have ai:=f.lt;have u:=LH m;clear c0 c1 P R V f m v;go_wp2_with fail;refine AW (AX (p:=6) AB _ _ w 110 #[.slice o r c3,.bool q] (0,0) _ rfl d.out.2.1 underlying110 rfl AB) rfl ?_;refine⟨d.out.1,_,_,_,_,rfl,?_⟩;rw[t.out];exact u.out.kept d.out.2.2
  have ae:((k:Int)==1)=false:=by rw[AQ];omega
  have J:K0 k=0:=by unfold K0;rw[if_neg x]
  have O:=LH J;have d:=LH (Vb a h (AJ _) none 0 0 false);clear a h J x;go_wp2_with fail;refine AW (AX (p:=6) AB _ _ w 110 #[.slice none 0 0,.bool false] (0,0) _ rfl d.out.2.1 underlying110 rfl AB) rfl ?_;refine⟨d.out.1,_,_,_,_,rfl,?_⟩;rw[t.out,O.out];exact Z1.zero _ _ _ AA
 have l:Yk tab b k=tab k (Zp b):=by unfold Yk;rw[if_neg h0]
 obtain⟨j,F,G,hw⟩:=Vy (s:=b) (n:=N) AA (z AA) S;rw[G] at l;obtain⟨_,_,E⟩:=D;obtain⟨tb,am,rfl,ag,H⟩:=E AA;obtain⟨g,ab,y⟩:=H k T;obtain⟨o,r,c3,q,q0,q1,m⟩:=y.get (j:=j) (by simp;exact F);have ad:=y.lt;have I:((List.range N).map (tab k)).getD j 0=tab k j:=by rw[AP,BB,List.getElem?_range F];rfl
 rw[I] at m;have t:=LH l;have u:=LH m;have d:=LH (Vb a h (AJ _) o r c3 q);have U:b<0:=AA
 clear l m I H E y a h z G;go_wp2_with fail;refine AW (AX (p:=6) AB _ _ w 110 #[.slice o r c3,.bool q] (0,0) _ rfl d.out.2.1 underlying110 rfl AB) rfl ?_;refine⟨d.out.1,_,_,_,_,rfl,?_⟩;rw[t.out];exact u.out.kept d.out.2.2
theorem tr_cof(A:Option Addr)(n c:Nat)(d:Int)(w:World):
 Calls prog 223 #[.slice A n c,.int .i64 d] w λe w'=>e = .returned (.agg #[.slice A n c,.bool (d==2)])/\Below w w w':=by
 have h:=Zy w (.cells #[.slice none 0 0,.bool false] 154);have a:=Blk.new w 154 #[.slice none 0 0,.bool false];go_enter func223,ntmps223;go_upto_region 1 with fail;generalize w.alloc (.cells #[.slice none 0 0,.bool false] 154)=W at *;have c0:W.cell? ⟨w,0,none⟩=some (.slice none 0 0):=a.cell 0;have c1:W.cell? ⟨w,1,none⟩=some (.bool false):=a.cell 1;have k:=a.frozen 0;have l:=a.frozen 1;have o:=a.lt;obtain⟨b,f⟩:∃b,b=(d==2):=⟨_,rfl⟩;have g:=LH (Uc a h (AJ _) A n c b);have j:=LH f;have m:(d==2)=b:=f.symm;clear a h f;go_wp2_with fail;refine AW (AX (p:=4) AB _ _ w 154 #[.slice A n c,.bool b] (0,0) _ rfl g.out.2.1 underlying154 rfl AB) rfl ?_;exact⟨by rw[j.out],g.out.1⟩
theorem Ztk(A:Option Addr)(n c:Nat)(b:Bool)(x:Nat)(w:World)(h:Z1 w A n c b x):
 Calls prog 206 #[.agg #[.slice A n c,.bool b]] w λe w'=>e = .returned (.bool (decide (x=0)))/\Below w w w':=by
 have f:=Zy w (.cells #[.slice A n c,.bool b] 154);have d:=h.none_iff;have j:=h.2.cap;go_enter func206,ntmps206;clear h;cases b
 case true =>
  have a:decide (x=0)=false:=by rw[AZ];intro e;have:=d.2 e;cases this.1
  have Hx:=LH a;clear d a;go_wp2_with fail;go_ret;exact⟨by rw[Hx];rfl,f⟩
 by_cases g:n=0
 ·subst g;have a:decide (x=0)=true:=by rw[BA];exact d.1 ⟨rfl,rfl⟩
  have Hx:=LH a;clear d a;go_wp2_with fail;go_ret;exact⟨by rw[Hx];rfl,f⟩
 have a:decide (x=0)=false:=by rw[AZ];intro e;exact g (d.2 e).2
 have k:((n:Int)==0)=false:=by rw[AQ];omega
 have Hx:=LH a;clear d a g;go_wp2_with fail;go_ret;exact⟨by rw[Hx];rfl,f⟩
theorem Zy1(w:World)(t:TypeId)(a b c:Array Value):Below w w (((w.alloc (.cells a t)).alloc (.cells b t)).alloc (.cells c t))/\Blk (((w.alloc (.cells a t)).alloc (.cells b t)).alloc (.cells c t)) w t a /\
 Blk (((w.alloc (.cells a t)).alloc (.cells b t)).alloc (.cells c t)) (w.heap.size+1) t b/\Blk (((w.alloc (.cells a t)).alloc (.cells b t)).alloc (.cells c t)) (w.heap.size+2) t c:=by
 have m:=Zy w (.cells a t);have j:=Zy (w.alloc (.cells a t)) (.cells b t);have d:=Zy ((w.alloc (.cells a t)).alloc (.cells b t)) (.cells c t);have h1:=Blk.new w t a;have l:=Blk.new (w.alloc (.cells a t)) t b;have h:=Blk.new ((w.alloc (.cells a t)).alloc (.cells b t)) t c;have f:(w.alloc (.cells a t)).heap.size=w.heap.size+1:=Zl _ _;have k:((w.alloc (.cells a t)).alloc (.cells b t)).heap.size=w.heap.size+2:=by rw[Zl,f]
 have g:=Blk.ext l d;rw[f] at g;rw[k] at h;exact⟨Zz (Zz m j) d,Blk.ext (Blk.ext h1 j) d,g,h⟩
theorem tr_exactly(n:Nat)(w:World)(J:n<=1000):Calls prog 221 #[.int .i64 (n:Int)] w (RetV w (K0 n)):=by
 have h:=Zy w (.cells #[.slice none 0 0,.bool false] 154);have b:=Blk.new w 154 #[.slice none 0 0,.bool false];go_enter func221,ntmps221;go_upto_region 1 with fail;generalize w.alloc (.cells #[.slice none 0 0,.bool false] 154)=W at *;have c0:W.cell? ⟨w,0,none⟩=some (.slice none 0 0):=b.cell 0;have c1:W.cell? ⟨w,1,none⟩=some (.bool false):=b.cell 1;have z:=b.frozen 0;have A:=b.frozen 1;have C:=b.lt;by_cases m:n=1
 ·subst m;have k:Hid (K0 1=1):=rfl;have y:=LH b;have t:=LH h;clear b h;have s:Calls prog 104 #[.int .u64 1] W (Bq W (limbs 1)):=nat_of 1 W AA;go_wp2_with fail;(with_reducible refine s.mono ?_);rintro e c⟨a,c3,rfl,j,l⟩;have r:limbs 1=[1]:=rfl;rw[r] at j;simp only[r,CX] at j ⊢;have d:=y.out.ext l;have o:=LH (Zz t.out l);have x:=LH j;have D:c.cell? ⟨w,0,none⟩=some (.slice none 0 0):=d.cell 0;have E:c.cell? ⟨w,1,none⟩=some (.bool false):=d.cell 1;have g0:=d.frozen 0;have H:=d.frozen 1;have N:=d.lt;have g:=d.set 0 (.slice a 1 c3);have u:=LH (o.out.trans (Zn (Zd c w 0 (.slice a 1 c3)) o.out.size (AJ _)));have F:((c.setCell ⟨w,0,none⟩ (.slice a 1 c3)).cell? ⟨w,0,none⟩)=some (.slice a 1 c3):=g.cell 0;have G:((c.setCell ⟨w,0,none⟩ (.slice a 1 c3)).cell? ⟨w,1,none⟩)=some (.bool false):=g.cell 1;have v:Hid (Zf c (c.setCell ⟨w,0,none⟩ (.slice a 1 c3))):=LH (Zf.of_off (Off.of_set c w 0 (.slice a 1 c3)) λq B=>by rw[B];exact Jk d);have f:=LH (Uc (A0:=a) (n0:=1) (c0:=c3) (b0:=false) g u.out (AJ _) a 1 c3 false);have L:=g.frozen 0;have M:=g.frozen 1;have O:=g.lt;clear c0 c1 z A C j l d;go_wp2_with fail;refine AW (AX (p:=2) AB _ _ w 154 #[.slice a 1 c3,.bool false] (0,0) _ rfl f.out.2.1 underlying154 rfl AB) rfl ?_;refine⟨f.out.1,_,_,_,_,rfl,?_⟩;rw[k.out];unfold Z1;rw[Zw2];exact⟨rfl,(x.out.kept v.out).kept f.out.2.2⟩
 have I:((n:Int)==1)=false:=by rw[AQ];omega
 have k:Hid (K0 n=0):=LH (by unfold K0;rw[if_neg m]);have f:=LH (Uc b h (AJ _) none 0 0 false);clear b h m;go_wp2_with fail;refine AW (AX (p:=2) AB _ _ w 154 #[.slice none 0 0,.bool false] (0,0) _ rfl f.out.2.1 underlying154 rfl AB) rfl ?_;refine⟨f.out.1,_,_,_,_,rfl,?_⟩;rw[k.out];exact Z1.zero _ _ _ AA
theorem tr_told(A:Option Addr)(n c:Nat)(b:Bool)(x:Nat)(w:World)(h:Z1 w A n c b x):
 Calls prog 98 #[.agg #[.slice A n c,.bool b]] w (Xr w (Xm x)):=by
 have o:=Zy w (.cells #[.slice A n c,.bool b] 154);have p:=(h.2.below o);have f:=h.2.len;have k:=h.cases;have l:=LH p;have j:=LH o;clear h p;go_enter func98,ntmps98;rcases k with ⟨d,rfl,ex⟩ | ⟨d,rfl,ex⟩
 ·have a:Xm x=(limbs x,0):=by unfold Xm;rw[if_pos d]
  rw[ex] at f l;have g:=LH a;have m:=LH f;clear a ex d f;go_wp2_with fail;go_ret2;unfold Xr;rw[g.out];exact⟨A,c,by rw[<-m.out];rfl,by rw[m.out];exact l.out,j.out⟩
 have a:Xm x=([],2):=by unfold Xm;rw[if_neg d]
 have g:=LH a;clear a ex d f;go_wp2_with fail;go_ret2;unfold Xr;rw[g.out];exact⟨none,0,rfl,Zq.nil _ _ _ _ AA,j.out⟩
def CRet(a:World)(k:CH)(h:GH)(G:Gr)(S:Nat->Prop)(w:World)(x:Nat)(e:Ending)(w':World):Prop :=
 Yo a k h G S w'/\Off k.maps w w'/\∃A n c d,e = .returned (.agg #[.slice A n c,.bool d])/\Z1 w' A n c d x
def Zw5(a:World)(k:CH)(h:GH)(G:Gr)(s:Int)(n:Nat):Prop:=∀(S:Nat->Prop) (w:World),Yo a k h G S w->(∀b,S b->b<w.heap.size)->
 Calls Tryz.prog 205 #[.pointer (some ⟨k.c,0,none⟩),.int .i64 s,.int .i64 (n:Int)] w (CRet a k h G S w (Zv G s n))
def RuleC(a:World)(k:CH)(h:GH)(G:Gr)(x:Rul)(i d n:Nat):Prop:=∀(S:Nat->Prop) (w:World),Yo a k h G S w->(∀b,S b->b<w.heap.size)->
 Calls Tryz.prog 222 #[.pointer (some ⟨k.c,0,none⟩),kF i d n] w (CRet a k h G S w (Zx (Zv G) (x.right.drop d) n))
def OthC(a:World)(k:CH)(h:GH)(G:Gr)(c:World)(gf:FuncId)(d:Array Value)(m x:Nat):Prop:=∀(S:Nat->Prop) (w:World),Yo a k h G S w->(∀b,S b->b<w.heap.size)->Off k.maps c w->
 Calls Tryz.prog gf (#[.int .i64 (m:Int)]++d) w (CRet a k h G S w x)
theorem Yo.cells{k:CH}(C:Yo a k h G S w):k.c<w.heap.size/\k.n<w.heap.size/\w.cell? ⟨k.c,2,none⟩=some (.slice h.a3 h.n3 h.c3)/\w.cell? ⟨k.c,4,none⟩=some (.slice (some ⟨k.n,0,none⟩) h.n2 h.n2)/\w.cell? ⟨k.c,5,none⟩=some (.map (some k.t))/\w.cell? ⟨k.c,6,none⟩=some (.map (some k.f)) :=
 ⟨C.box.lt,Blk.lt C.nul,C.box.cell 2,C.box.cell 4,C.box.cell 5,C.box.cell 6⟩
theorem Zta{A:World}{k:CH}(Al:Option Addr)(p n:Nat)(l:List Int)(w:World)(C:Yo A k h G S w)(f:Za .i64 w Al n p l)(t:(Zj G).length=h.n2)(u:∀s∈l,-(h.n2:Int)<=s/\s<=1000)(r:h.n2<=1000)(W:n<=1000):
 Calls prog 204 #[.pointer (some ⟨k.c,0,none⟩),.slice Al n p] w λe w'=>e = .returned (.int .i64 (Uy (Zj G) l:Int))/\w=w':=by
 obtain rfl:=f.len;have T:=f.cap;obtain⟨gc,M,O,gf⟩:=k;obtain⟨a1,n1,c1,a2,n2,c2,a3,n3,c3⟩:=h;obtain⟨H,I,_,J,_,_⟩:=C.cells;have m:=LH C.nul;have y:=LH u;have g:=LH t;simp only[] at H I J r m g;clear u t C;go_enter func204,ntmps204;go_wp2_with fail;go_loop [4,9] (λv i=>∃q:Nat,q<=l.length/\i = .int .i64 (q:Int)/\v = .int .i64 (Uy (Zj G) (l.take q):Int)) (λ_ i=>l.length-(intOf i).toNat)
 case atStart=>exact⟨0,AS _,rfl,rfl⟩
 obtain⟨q,X,rfl,rfl⟩:=hrel;by_cases E:q<l.length
 case pos =>
  obtain⟨L,Z,s,rfl,R,o,q0⟩:=f.get E;obtain⟨F,s2⟩:=y.out s (AN o.out);have a:=lowN_take (N:=Zj G) o.out;have U:=Ztr (Zj G) (l.take q);have V:(l.take q).length<=q:=by rw[BS];omega
  generalize Uy (Zj G) (l.take q)=c at *;by_cases h0:0<=s
  ·have b:Xg (Zj G) s=false:=by unfold Xg;rw[BR AA];rfl
   rw[b] at a;have d:=LH a;clear a b;go_wp2_with fail;go_roundw
   case rel=>exact⟨q+1,AA,AF,by rw[d.out];go_num⟩
   simp[intOf];omega
  obtain⟨j,B,D,Y⟩:=Vy (s:=s) (n:=n2) AA F r;have P:=m.out.at (i:=j) (by rw[g.out];exact B);have b:Xg (Zj G) s=(Zj G).getD j false:=by unfold Xg;rw[DW (AA:s<0),Bool.true_and,D]
  rw[b] at a;have d:=LH a;clear a b;generalize (Zj G).getD j false=z at *;rcases (by cases z <;> simp:z=false\/z=true) with rfl | rfl;all_goals
   go_wp2_with fail;go_roundw
   case rel=>exact⟨q+1,AA,AF,by rw[d.out];go_num⟩
   simp[intOf];omega
 obtain rfl:q=l.length:=AA
 have x:Hid (Uy (Zj G) (l.take l.length)=Uy (Zj G) l):=LH (by rw[List.take_length]);generalize Uy (Zj G) (l.take l.length)=c at *;go_wp2_with fail;go_ret;exact⟨by rw[<-x.out];rfl,rfl⟩
def MidC(a:World)(k:CH)(h:GH)(G:Gr)(S:Nat->Prop)(b X:World):Prop:=Yo a k h G S X/\Off k.maps b X
theorem Cy(w:World)(a c f:TypeId)(b d g:Array Value):Below w w (((w.alloc (.cells b a)).alloc (.cells d c)).alloc (.cells g f))/\Blk (((w.alloc (.cells b a)).alloc (.cells d c)).alloc (.cells g f)) w a b /\
 Blk (((w.alloc (.cells b a)).alloc (.cells d c)).alloc (.cells g f)) (w.heap.size+1) c d/\Blk (((w.alloc (.cells b a)).alloc (.cells d c)).alloc (.cells g f)) (w.heap.size+2) f g:=by
 have p:=Zy w (.cells b a);have m:=Zy (w.alloc (.cells b a)) (.cells d c);have h:=Zy ((w.alloc (.cells b a)).alloc (.cells d c)) (.cells g f);have h1:=Blk.new w a b;have o:=Blk.new (w.alloc (.cells b a)) c d;have l:=Blk.new ((w.alloc (.cells b a)).alloc (.cells d c)) f g;have j:(w.alloc (.cells b a)).heap.size=w.heap.size+1:=Zl _ _;have n:((w.alloc (.cells b a)).alloc (.cells d c)).heap.size=w.heap.size+2:=by rw[Zl,j]
 have k:=Blk.ext o h;rw[j] at k;rw[n] at l;exact⟨Zz (Zz p m) h,Blk.ext (Blk.ext h1 m) h,k,l⟩
def ForC(a:World)(k:CH)(h:GH)(G:Gr)(Al:Option Addr)(n0 d:Nat)(l:List Int)(n:Nat):Prop:=∀(S:Nat->Prop) (w:World),Yo a k h G S w->(∀b,S b->b<w.heap.size)->
 Calls Tryz.prog 100 #[.pointer (some ⟨k.c,0,none⟩),.slice Al n0 d,.int .i64 (n:Int)] w (CRet a k h G S w (Zx (Zv G) l n))
def RetStart(h:GH)(G:Gr)(w:World)(e:Ending)(w':World):Prop:=Below w.heap.size w w'/\∃k:CH,e = .returned (.pointer (some ⟨k.c,0,none⟩))/\Yo w k h G (λ_=>False) w'
theorem cnt_new{b:World}{k:CH}(q:Below b b w)(h1:Blk w k.c 211 #[.slice h.a1 h.n1 h.c1,.slice h.a2 h.n2 h.c2,.slice h.a3 h.n3 h.c3,.int .i64 G.start,.slice (some ⟨k.n,0,none⟩) h.n2 h.n2,.map (some k.t),.map (some k.f)])(d:Z8 w k.n (Zj G))(g:Vv prog 257 w k.t [])(j:Vv prog 261 w k.f [])(l:k.t≠k.f)(m:b.heap.size<=k.t)(o:b.heap.size<=k.f):Yo b k h G (λ_=>False) w :=
 ⟨q,h1,d,⟨m,o⟩,l,⟨[],⟨g,λp a=>(by cases a),λp a=>(by cases a)⟩⟩,⟨[],⟨j,λp a=>(by cases a),λp a=>(by cases a)⟩⟩⟩
theorem tr_EqualT(k:Option Addr)(n c1:Nat)(xs:List (Trm))(l:Option Addr)(m c2:Nat)(ys:List (Trm))(w:World)(h1:N8 w k n c1 xs)(c:N8 w l m c2 ys):
 Calls prog 194 #[.slice k n c1,.slice l m c2] w λe w'=>∃b,e = .returned (.bool b)/\(b=true↔xs=ys)/\Below w w w':=by
 have g:=h1.len;have j:=c.len;have N:=h1.cap;have O:=c.cap;have z:=LH h1;have A:=LH c;clear h1 c;by_cases s:n=m
 case neg =>
  have hi:((n:Int) != (m:Int))=true:=by rw[BK];omega
  have v:xs≠ys:=by rintro rfl;omega
  have D:=LH v;clear v s g j;go_enter func194,ntmps194;go_wp2_with fail;go_ret;exact⟨false,rfl,⟨λh=>(by cases h),λh=>absurd h D.out⟩,AL _ _⟩
 have hi:((n:Int) != (m:Int))=false:=by rw[BM];omega
 obtain rfl:n=m:=s;have E:=LH g;have F:=LH j;clear g j;go_enter func194,ntmps194;go_wp2_with fail;clear hi;go_loopw [13] (λi wr=>∃q:Nat,q<=n/\i = .int .i64 (q:Int)/\Hid (xs.take q=ys.take q)/\Hid (Below w w wr)) (λi _=>n-(intOf i).toNat)
 case atStart=>exact⟨0,AS _,rfl,LH rfl,LH (AL _ _)⟩
 obtain⟨q,J,rfl,o,a⟩:=hrel;by_cases y:q<n
 case pos =>
  obtain⟨V,W,t,rfl,L,p,p0,P,R⟩:=(z.out.below a.out).get y;obtain⟨X,Y,u,rfl,M,r,S,T,U⟩:=(A.out.below a.out).get y;have I:=Yt wr;by_cases d:t=u
  case neg =>
   have C:Hid (xs≠ys):=LH (λe=>by
    have h1:=p.out;rw[e,r.out] at h1;exact d (by simpa using h1.symm))
   have f:=eq_trm t u;have H:trmB t u=false:=by
    cases h:trmB t u
    ·rfl
    exact absurd (Bf.1 h) d
   rw[H] at f;have G:=Tryz.guardTerm;clear d;go_wp2_with fail;refine Zs AB AB ?_;repeat (go_big_quiet_step (fail))
   refine BL ?_;rintro _⟨x,rfl⟩;go_wp2_with fail;go_ret;exact⟨false,rfl,⟨λh=>(by cases h),λh=>absurd h C.out⟩,Zz a.out (Zr wr x)⟩
  subst d;have f:=eq_trm t t;rw[Bf.2 rfl] at f;have G:=Tryz.guardTerm;go_wp2_with fail;refine Zs AB AB ?_;repeat (go_big_quiet_step (fail))
  refine BL ?_;rintro _⟨x,rfl⟩;go_wp2_with fail;go_roundw
  case rel=>exact⟨q+1,AA,AF,LH (Qc o.out p.out r.out),LH (Zz a.out (Zr wr x))⟩
  simp[intOf];omega
 obtain rfl:q=n:=AA
 have B:Hid (xs=ys):=LH (by have:=o.out;rwa [AR (by rw[E.out];exact AJ _),AR (by rw[F.out];exact AJ _)] at this);go_wp2_with fail;go_ret;exact⟨true,rfl,⟨λ_=>B.out,λ_=>rfl⟩,a.out⟩
theorem tr_EqualS(k:Option Addr)(n c1:Nat)(xs:List (ByteArray))(l:Option Addr)(m c2:Nat)(ys:List (ByteArray))(w:World)(h1:Js w k n c1 xs)(c:Js w l m c2 ys):
 Calls prog 195 #[.slice k n c1,.slice l m c2] w λe w'=>∃b,e = .returned (.bool b)/\(b=true↔xs=ys)/\Below w w w':=by
 have g:=h1.len;have j:=c.len;have M:=h1.cap;have N:=c.cap;have z:=LH h1;have A:=LH c;clear h1 c;by_cases s:n=m
 case neg =>
  have hi:((n:Int) != (m:Int))=true:=by rw[BK];omega
  have v:xs≠ys:=by rintro rfl;omega
  have D:=LH v;clear v s g j;go_enter func195,ntmps195;go_wp2_with fail;go_ret;exact⟨false,rfl,⟨λh=>(by cases h),λh=>absurd h D.out⟩,AL _ _⟩
 have hi:((n:Int) != (m:Int))=false:=by rw[BM];omega
 obtain rfl:n=m:=s;have E:=LH g;have F:=LH j;clear g j;go_enter func195,ntmps195;go_wp2_with fail;clear hi;go_loopw [13] (λi wr=>∃q:Nat,q<=n/\i = .int .i64 (q:Int)/\Hid (xs.take q=ys.take q)/\Hid (Below w w wr)) (λi _=>n-(intOf i).toNat)
 case atStart=>exact⟨0,AS _,rfl,LH rfl,LH (AL _ _)⟩
 obtain⟨q,I,rfl,o,a⟩:=hrel;by_cases y:q<n
 case pos =>
  obtain⟨P,R,t,rfl,J,p,p0⟩:=(z.out.below a.out).get y;obtain⟨S,T,u,rfl,L,r,O⟩:=(A.out.below a.out).get y;have H:=Yt wr;by_cases d:t=u
  case neg =>
   have C:Hid (xs≠ys):=LH (λe=>by
    have h1:=p.out;rw[e,r.out] at h1;exact d (by simpa using h1.symm))
   have f:(t==u)=false:=by
    cases h:t==u
    ·rfl
    exact absurd (Zx5.1 h) d
   have G:(t.toList==u.toList)=false:=by rw[<-beq_toListBytes];exact f
   clear d;go_wp2_with fail;refine Zs AB AB ?_;repeat (go_big_quiet_step (fail))
   refine BL ?_;rintro _⟨x,rfl⟩;go_wp2_with fail;go_ret;exact⟨false,rfl,⟨λh=>(by cases h),λh=>absurd h C.out⟩,Zz a.out (Zr wr x)⟩
  subst d;have f:(t==t)=true:=Zx5.2 rfl;have G:(t.toList==t.toList)=true:=by rw[<-beq_toListBytes];exact f
  go_wp2_with fail;refine Zs AB AB ?_;repeat (go_big_quiet_step (fail))
  refine BL ?_;rintro _⟨x,rfl⟩;go_wp2_with fail;go_roundw
  case rel=>exact⟨q+1,AA,AF,LH (Qc o.out p.out r.out),LH (Zz a.out (Zr wr x))⟩
  simp[intOf];omega
 obtain rfl:q=n:=AA
 have B:Hid (xs=ys):=LH (by have:=o.out;rwa [AR (by rw[E.out];exact AJ _),AR (by rw[F.out];exact AJ _)] at this);go_wp2_with fail;go_ret;exact⟨true,rfl,⟨λ_=>B.out,λ_=>rfl⟩,a.out⟩
theorem tr_EqualI(j:Option Addr)(n c1:Nat)(xs:List (Int))(k:Option Addr)(m c2:Nat)(ys:List (Int))(w:World)(h1:Za .i64 w j n c1 xs)(c:Za .i64 w k m c2 ys):
 Calls prog 217 #[.slice j n c1,.slice k m c2] w λe w'=>∃b,e = .returned (.bool b)/\(b=true↔xs=ys)/\Below w w w':=by
 have f:=h1.len;have g:=c.len;have L:=h1.cap;have M:=c.cap;have y:=LH h1;have z:=LH c;clear h1 c;by_cases r:n=m
 case neg =>
  have hi:((n:Int) != (m:Int))=true:=by rw[BK];omega
  have s:xs≠ys:=by rintro rfl;omega
  have C:=LH s;clear s r f g;go_enter func217,ntmps217;go_wp2_with fail;go_ret;exact⟨false,rfl,⟨λh=>(by cases h),λh=>absurd h C.out⟩,AL _ _⟩
 have hi:((n:Int) != (m:Int))=false:=by rw[BM];omega
 obtain rfl:n=m:=r;have D:=LH f;have E:=LH g;clear f g;go_enter func217,ntmps217;go_wp2_with fail;clear hi;go_loopw [13] (λi wr=>∃q:Nat,q<=n/\i = .int .i64 (q:Int)/\Hid (xs.take q=ys.take q)/\Hid (Below w w wr)) (λi _=>n-(intOf i).toNat)
 case atStart=>exact⟨0,AS _,rfl,LH rfl,LH (AL _ _)⟩
 obtain⟨q,H,rfl,l,a⟩:=hrel;by_cases v:q<n
 case pos =>
  obtain⟨O,P,t,rfl,I,o,p0⟩:=(y.out.below a.out).get v;obtain⟨R,S,u,rfl,J,p,N⟩:=(z.out.below a.out).get v;have G:=Yt wr;by_cases d:t=u
  case neg =>
   have B:Hid (xs≠ys):=LH (λe=>by
    have h1:=o.out;rw[e,p.out] at h1;exact d (by simpa using h1.symm))
   have F:(t != u)=true:=by rw[BK];exact d
   clear d;go_wp2_with fail;refine Zs AB AB ?_;repeat (go_big_quiet_step (fail))
   refine BL ?_;rintro _⟨x,rfl⟩;go_wp2_with fail;go_ret;exact⟨false,rfl,⟨λh=>(by cases h),λh=>absurd h B.out⟩,Zz a.out (Zr wr x)⟩
  subst d;have F:(t != t)=false:=AE
  go_wp2_with fail;refine Zs AB AB ?_;repeat (go_big_quiet_step (fail))
  refine BL ?_;rintro _⟨x,rfl⟩;go_wp2_with fail;go_roundw
  case rel=>exact⟨q+1,AA,AF,LH (Qc l.out o.out p.out),LH (Zz a.out (Zr wr x))⟩
  simp[intOf];omega
 obtain rfl:q=n:=AA
 have A:Hid (xs=ys):=LH (by have:=l.out;rwa [AR (by rw[D.out];exact AJ _),AR (by rw[E.out];exact AJ _)] at this);go_wp2_with fail;go_ret;exact⟨true,rfl,⟨λ_=>A.out,λ_=>rfl⟩,a.out⟩
theorem two_new(w:World)(t:TypeId)(c1 c2:Array Value):Below w w ((w.alloc (.cells c1 t)).alloc (.cells c2 t))/\Blk ((w.alloc (.cells c1 t)).alloc (.cells c2 t)) w t c1/\Blk ((w.alloc (.cells c1 t)).alloc (.cells c2 t)) (w.heap.size+1) t c2:=by
 have h1:=Blk.new w t c1;have b:=Blk.new (w.alloc (.cells c1 t)) t c2;have c:=Zy w (.cells c1 t);have a:=Zy (w.alloc (.cells c1 t)) (.cells c2 t);rw[Zl] at b;exact⟨Zz c a,h1.ext a,b⟩
theorem tr_rules(At:Option Addr)(d:Nat)(t:Rul)(c:Option Addr)(f:Nat)(u:Rul)(w:World)(h1:Za .i64 w At t.right.length d t.right)(o:Za .i64 w c u.right.length f u.right):
 Calls prog 197 #[.agg #[.int .i64 t.left,.slice At t.right.length d,.int .i64 t.prec],.agg #[.int .i64 u.left,.slice c u.right.length f,.int .i64 u.prec]] w λe w'=>∃b,e = .returned (.bool b)/\(b=true↔t=u)/\Below w w w':=by
 obtain⟨l,j,k⟩:=two_new w 60 #[.int .i64 t.left,.slice At t.right.length d,.int .i64 t.prec] #[.int .i64 u.left,.slice c u.right.length f,.int .i64 u.prec];have q:=LH (tr_EqualI At t.right.length d t.right c u.right.length f u.right _ (h1.below l) (o.below l));clear h1 o;go_enter func197,ntmps197;go_upto_region 1 with fail;generalize (w.alloc (.cells #[.int .i64 t.left,.slice At t.right.length d,.int .i64 t.prec] 60)).alloc (.cells #[.int .i64 u.left,.slice c u.right.length f,.int .i64 u.prec] 60)=W at *;have m:=LH l;have A:W.cell? ⟨w,0,none⟩=some (.int .i64 t.left):=j.cell 0;have a1:W.cell? ⟨w,1,none⟩=some (.slice At t.right.length d):=j.cell 1;have a2:W.cell? ⟨w,2,none⟩=some (.int .i64 t.prec):=j.cell 2;have b0:W.cell? ⟨w+1,0,none⟩=some (.int .i64 u.left):=k.cell 0;have C:W.cell? ⟨w+1,1,none⟩=some (.slice c u.right.length f):=k.cell 1;have D:W.cell? ⟨w+1,2,none⟩=some (.int .i64 u.prec):=k.cell 2;have B:=j.lt;have E:=k.lt;clear j k l;by_cases a:t.left=u.left
 case neg =>
  have y:(t.left==u.left)=false:=by rw[AQ];exact a
  have n:Hid (t≠u):=LH λe=>a (by rw[e]);clear a;go_wp2_with fail;go_ret;exact⟨false,rfl,⟨λh=>(by cases h),λh=>absurd h n.out⟩,m.out⟩
 have y:(t.left==u.left)=true:=by rw[BW];exact a
 by_cases g:t.prec=u.prec
 case neg =>
  have z:(t.prec==u.prec)=false:=by rw[AQ];exact g
  have n:Hid (t≠u):=LH λe=>g (by rw[e]);clear a g;go_wp2_with fail;go_ret;exact⟨false,rfl,⟨λh=>(by cases h),λh=>absurd h n.out⟩,m.out⟩
 have z:(t.prec==u.prec)=true:=by rw[BW];exact g
 have r:=LH a;have s:=LH g;clear a g;go_wp2_with (go_at_call 217;(with_reducible refine q.out.mono ?_);rintro e F⟨v,rfl,p,x⟩);go_ret;refine⟨v,AE,⟨λh=>Zwu.1 (by unfold rulB;rw[r.out,s.out,p.1 h];simp),λh=>p.2 (by rw[h])⟩,Zz m.out x⟩
theorem tr_EqualF(z:Option Addr)(n c1:Nat)(xs:List Rul)(A:Option Addr)(m c2:Nat)(ys:List Rul)(w:World)(h1:Dv w z n c1 xs)(c:Dv w A m c2 ys):
 Calls prog 196 #[.slice z n c1,.slice A m c2,.func (.func 197) #[] #[]] w λe w'=>∃b,e = .returned (.bool b)/\(b=true↔xs=ys)/\Below w w w':=by
 have v:=h1.len;have x:=c.len;have k1:=h1.cap;have k2:=c.cap;have T:=LH h1;have U:=LH c;clear h1 c;by_cases I:n=m
 case neg =>
  have hi:((n:Int) != (m:Int))=true:=by rw[BK];omega
  have J:xs≠ys:=by rintro rfl;omega
  have Z:=LH J;clear J I v x;go_enter func196,ntmps196;go_wp2_with fail;go_ret;exact⟨false,rfl,⟨λh=>(by cases h),λh=>absurd h Z.out⟩,AL _ _⟩
 have hi:((n:Int) != (m:Int))=false:=by rw[BM];omega
 obtain rfl:n=m:=I;have L1:=LH v;have L2:=LH x;clear v x;go_enter func196,ntmps196;go_wp2_with fail;clear hi;go_loopw [17] (λi wr=>∃q:Nat,q<=n/\i = .int .i64 (q:Int)/\Hid (xs.take q=ys.take q)/\Hid (Below w w wr)) (λi _=>n-(intOf i).toNat)
 case atStart=>exact⟨0,AS _,rfl,LH rfl,LH (AL _ _)⟩
 obtain⟨q,hq,rfl,D,k⟩:=hrel;by_cases L:q<n
 case pos =>
  obtain⟨tb,ax,t,At,a,rfl,ar,E,p0,p1,p2,M⟩:=(T.out.below k.out).get L;obtain⟨s,y,u,j,l,rfl,r,F,O,P,R,N⟩:=(U.out.below k.out).get L;obtain⟨o,f,g⟩:=two_new wr 60 #[.int .i64 t.left,.slice At t.right.length a,.int .i64 t.prec] #[.int .i64 u.left,.slice j u.right.length l,.int .i64 u.prec];have d:=Zy wr (.cells #[.int .i64 t.left,.slice At t.right.length a,.int .i64 t.prec] 60);have S:=LH (tr_rules At a t j l u _ (M.below o) (N.below o));have V:=LH (Zz k.out o);have s0:=(d.cell (p:=⟨s,y+q*3,none⟩) r).trans O;have s1:=(d.cell (p:=⟨s,y+q*3+1,none⟩) r).trans P;have s2:=(d.cell (p:=⟨s,y+q*3+2,none⟩) r).trans R;have af:s<(wr.alloc (.cells #[.int .i64 t.left,.slice At t.right.length a,.int .i64 t.prec] 60)).heap.size:=AK r d.size;clear M N;go_upto_region 7 with fail;generalize (wr.alloc (.cells #[.int .i64 t.left,.slice At t.right.length a,.int .i64 t.prec] 60)).alloc (.cells #[.int .i64 u.left,.slice j u.right.length l,.int .i64 u.prec] 60)=W at *;have a0:W.cell? ⟨wr,0,none⟩=some (.int .i64 t.left):=f.cell 0;have a1:W.cell? ⟨wr,1,none⟩=some (.slice At t.right.length a):=f.cell 1;have a2:W.cell? ⟨wr,2,none⟩=some (.int .i64 t.prec):=f.cell 2;have b0:W.cell? ⟨wr+1,0,none⟩=some (.int .i64 u.left):=g.cell 0;have b1:W.cell? ⟨wr+1,1,none⟩=some (.slice j u.right.length l):=g.cell 1;have b2:W.cell? ⟨wr+1,2,none⟩=some (.int .i64 u.prec):=g.cell 2;have al:=f.lt;have ap:=g.lt;clear f g o d p0 p1 p2 O P R s0 s1 s2 af;go_wp2_with fail;(with_reducible refine S.out.mono ?_);rintro e w6⟨bq,rfl,H,G⟩;have B:=LH (Zz V.out G);have C:=LH H;clear H G;cases bq
  case false =>
   have Y:Hid (xs≠ys):=LH (λe=>by
    have h1:=E.out;rw[e,F.out] at h1;have c:t=u:=by simpa using h1.symm
    have:=C.out.2 c;cases this)
   go_wp2_with fail;go_ret;exact⟨false,rfl,⟨λh=>(by cases h),λh=>absurd h Y.out⟩,B.out⟩
  have aa:Hid (t=u):=C.out.1 rfl;go_wp2_with fail;go_roundw
  case rel=>exact⟨q+1,AA,AF,LH (Qc D.out E.out (by rw[F.out,aa.out])),B⟩
  simp[intOf];omega
 obtain rfl:q=n:=AA
 have X:Hid (xs=ys):=LH (by have:=D.out;rwa [AR (by rw[L1.out];exact AJ _),AR (by rw[L2.out];exact AJ _)] at this);go_wp2_with fail;go_ret;exact⟨true,rfl,⟨λ_=>X.out,λ_=>rfl⟩,k.out⟩
theorem tr_Same(h k:GH)(A B:Gr)(w:World)(T:Yf w h A)(U:Yf w k B):
 Calls prog 152 #[GV h A.start,GV k B.start] w λe w'=>e = .returned (.bool (eqG A B))/\Below w w w':=by
 obtain⟨a1,n1,c1,a2,n2,c2,a3,n3,c3⟩:=h;obtain⟨j,u,n,l,v,o,m,x,p⟩:=k;have y:=LH T;have z:=LH U;have ad:=Y1.new w 26 ⟨a1,n1,c1,a2,n2,c2,a3,n3,c3⟩ A.start;have t:=Y1.new (w.alloc (.cells #[.slice a1 n1 c1,.slice a2 n2 c2,.slice a3 n3 c3,.int .i64 A.start] 26)) 26 ⟨j,u,n,l,v,o,m,x,p⟩ B.start;have X:=Zy w (.cells #[.slice a1 n1 c1,.slice a2 n2 c2,.slice a3 n3 c3,.int .i64 A.start] 26);have M:=Zy (w.alloc (.cells #[.slice a1 n1 c1,.slice a2 n2 c2,.slice a3 n3 c3,.int .i64 A.start] 26)) (.cells #[.slice j u n,.slice l v o,.slice m x p,.int .i64 B.start] 26);have ab:(w.alloc (.cells #[.slice a1 n1 c1,.slice a2 n2 c2,.slice a3 n3 c3,.int .i64 A.start] 26)).heap.size=w.heap.size+1:=Zl _ _;have L:=ad.below M;have V:=Zz X M;clear T U ad X M;go_enter func152,ntmps152;go_upto_region 1 with fail;generalize (w.alloc (.cells #[.slice a1 n1 c1,.slice a2 n2 c2,.slice a3 n3 c3,.int .i64 A.start] 26)).alloc (.cells #[.slice j u n,.slice l v o,.slice m x p,.int .i64 B.start] 26)=W at *;rw[ab] at t;have R:=LH L;have S:=LH t;have f:=LH V;have⟨y5,y0,y1,y2,y3⟩:=L;simp only[] at y0 y1 y2 y3;have⟨z5,z0,z1,z2,z3⟩:=t;simp only[] at z0 z1 z2 z3;clear L t ab V;have g:Hid (A≠B->eqG A B=false):=LH λh=>eqG_no h;have N:=LH (tr_EqualT a1 n1 c1 A.terms j u n B.terms W (y.out.below f.out).terms (z.out.below f.out).terms);go_wp2_with fail;(with_reducible refine N.out.mono ?_);rintro e W2⟨q1,rfl,Y,q⟩;have H:=LH Y;have c:=LH (Zz f.out q);have D:=LH (R.out.below q);have F:=LH (S.out.below q);clear y0 y1 y2 y3 y5 z0 z1 z2 z3 z5 Y q N R S f;have⟨y5,y0,y1,y2,y3⟩:=D.out;simp only[] at y0 y1 y2 y3;have⟨z5,z0,z1,z2,z3⟩:=F.out;simp only[] at z0 z1 z2 z3;cases q1
 case false =>
  have a:Hid (eqG A B=false):=LH (g.out λe=>by have:=H.out.2 (by rw[e]);cases this);go_wp2_with fail;go_ret;exact⟨by rw[a.out];rfl,c.out⟩
 have H1:Hid (A.terms=B.terms):=H.out.1 rfl;have O:=LH (tr_EqualS a2 n2 c2 A.nons l v o B.nons W2 (y.out.below c.out).nons (z.out.below c.out).nons);clear H;go_wp2_with fail;(with_reducible refine O.out.mono ?_);rintro e W3⟨q2,rfl,Z,r⟩;have I:=LH Z;have d:=LH (Zz c.out r);have E:=LH (D.out.below r);have G:=LH (F.out.below r);clear y0 y1 y2 y3 y5 z0 z1 z2 z3 z5 Z r O D F c;have⟨y5,y0,y1,y2,y3⟩:=E.out;simp only[] at y0 y1 y2 y3;have⟨z5,z0,z1,z2,z3⟩:=G.out;simp only[] at z0 z1 z2 z3;cases q2
 case false =>
  have a:Hid (eqG A B=false):=LH (g.out λe=>by have:=I.out.2 (by rw[e]);cases this);go_wp2_with fail;go_ret;exact⟨by rw[a.out];rfl,d.out⟩
 have H2:Hid (A.nons=B.nons):=I.out.1 rfl;have P:=LH (tr_EqualF a3 n3 c3 A.rules m x p B.rules W3 (y.out.below d.out).rules (z.out.below d.out).rules);clear I;go_wp2_with fail;(with_reducible refine P.out.mono ?_);rintro e W4⟨q3,rfl,aa,s⟩;have J:=LH aa;have C:=LH (Zz d.out s);have ah:=LH (E.out.below s);have ai:=LH (G.out.below s);clear y0 y1 y2 y3 y5 z0 z1 z2 z3 z5 aa s P E G d;have⟨y5,y0,y1,y2,y3⟩:=ah.out;simp only[] at y0 y1 y2 y3;have⟨z5,z0,z1,z2,z3⟩:=ai.out;simp only[] at z0 z1 z2 z3;cases q3
 case false =>
  have a:Hid (eqG A B=false):=LH (g.out λe=>by have:=J.out.2 (by rw[e]);cases this);go_wp2_with fail;go_ret;exact⟨by rw[a.out];rfl,C.out⟩
 have H3:Hid (A.rules=B.rules):=J.out.1 rfl;clear J;by_cases b:A.start=B.start
 case neg =>
  have i4:(A.start==B.start)=false:=by rw[AQ];exact b
  have a:Hid (eqG A B=false):=g.out λe=>b (by rw[e]);clear b;go_wp2_with fail;go_ret;exact⟨by rw[a.out];rfl,C.out⟩
 have i4:(A.start==B.start)=true:=by rw[BW];exact b
 have a:Hid (eqG A B=true):=eqG_yes H1.out H2.out H3.out b;clear b;go_wp2_with fail;go_ret;exact⟨by rw[a.out];rfl,C.out⟩
theorem Jc.below{N:Nat}{d:List Nat}(h:Jc w B A n c N d tab)(b:Below w w w'):Jc w' B A n c N d tab :=
 ⟨B7 h.own b,λg a=>(h.noInt g a).same (b.block g (h.own.lt g a).2),h.nodup,λm g a=>⟨(h.row m g a).1,(h.row m g a).2.below b⟩⟩
theorem Jc.off{N:Nat}{d:List Nat}(h:Jc w B A n c N d tab)(f:Off S w w')(h1:∀b,(Value.slice A n c).ownBlock=some b->¬S b)(j:∀g∈d,¬S g)(k:Zf w w'):Jc w' B A n c N d tab :=
 ⟨f.row h.own h1,λg a=>(h.noInt g a).same (f.keep g (h.own.lt g a).2 (h1 g a)),h.nodup,λm g a=>⟨(h.row m g a).1,(h.row m g a).2.kept k (f.keep g (h.row m g a).2.lt (j g (AN a)))⟩⟩
theorem markd_sl(w:World)(t:TypeId)(b:Nat × Nat)(a:List Value)(n:Nat)(arr:Array Value)(h:arr=a.toArray)(c:a.length=n)(f:n<=1000000):Sl (w.alloc (.cells arr t b)) (some ⟨w,0,none⟩) n n a:=by
 subst h;refine⟨c,AJ _,AA,λ_=>⟨_,_,rfl,?_,λj d=>?_⟩⟩
 ·show w.heap.size<(w.heap.push _).size;simp
 rw[BF,World.cell?_alloc_mark];simp
theorem own_cap(w:World)(e:TypeId)(k:IntKind)(n:Nat)(a:List Nat)(c:a.length=n)(b:n<=9223372036854775807):
 (w.alloc (.cells (nums k a).toArray e)).ownsRow w e 1 (.slice (some ⟨w,0,none⟩) 0 n) 0 [] :=
 World.ownsRow_made w _ n (AJ _) (by simpa [maxLen] using b) (by simp[nums,c])
theorem Zs5{b:Bool}(h:Z1 w A n c b x):(x=0/\n=0/\b=false)\/(x≠0/\((n:Int)==0)=false/\b=false)\/(x≠0/\n=0/\b=true):=by
 have h0:=h.none_iff;have h1:=h.1;have a:=h.2.len;by_cases f:x<big
 ·rw[Z7 f] at h1 a;simp only at h1 a;subst h1;by_cases d:n=0
  ·exact .inl ⟨h0.1 ⟨rfl,d⟩,d,rfl⟩
  exact .inr (.inl ⟨λe=>d (h0.2 e).2,by simpa using d,rfl⟩)
 rw[Wl f] at h1 a;have:=Zsx;exact .inr (.inr ⟨AA,a.symm,h1⟩)
section
variable {P:Program}
theorem G5{a:Nat × Nat}(c:w.heap[g]? = some (.cells cs e a))(h:∀u∈cs.toList,∀k z,u≠Value.int k z):Qf w g:=by
 intro o k z b;rw[cell_of_row w g o cs e a c] at b;have d:Value.int k z∈cs.toList:=by
  refine AN (i:=o) ?_;simpa using b
 exact h _ d k z rfl
theorem noInt_mem{a:Nat × Nat}(c:w.heap[g]? = some (.cells cs e a))(h:Qf w g):∀u∈cs.toList,∀k z,u≠Value.int k z:=by
 intro u f k z b;subst b;obtain⟨o,d⟩:=BU f;refine h o k z ?_;rw[cell_of_row w g o cs e a c];simpa using d
theorem Zxt{z:Value}(f:∀u∈z.cells.toList,∀k x,u≠Value.int k x)(q:Nat):∀u∈(Builtin.zeroCells z.cells q).toList,∀k x,u≠Value.int k x:=by
 intro u b k x a;subst a;unfold Builtin.zeroCells at b;simp only[Array.toList_map,CW,Array.toList_range,BQ] at b;obtain⟨i,hi,a⟩:=b;have d:0<z.cells.size:=by
  rcases BY z.cells.size with h | h
  ·rw[h] at hi;omega
  exact h
 have c:=Nat.mod_lt i d;rw[getElem!_pos z.cells (i % z.cells.size) c] at a;exact f _ AE k x a
end
section
open Ieee
open Go.Maps (Keyed IsMap Tidy)
theorem Zs6{l:List Int}(h1:l.length<=100)(j:n<=1000):∃q,keyOf prog 220 (kB l n)=some q:=by
 have a:prog.keyType 220=true:=AB
 have b:prog.cellsOf 220=2:=AB
 have c:prog.cellsOf 3=1:=AB
 have d:prog.cellsOf 9=1:=AB
 have w1:(str (Vr l)).size<=100:=by rw[Zs1];unfold Vr;rw[BI];exact h1
 have g:(Lit.int .i64 (n:Int)).wf=true:=Mb AA AA;have h:(str (Vr l)).size<=maxLen:=by unfold maxLen;omega
 obtain⟨m,f⟩:=Zy5 Tryz.rowKB AC;unfold keyOf kB;rw[f];simp[underlying220,a,Value.formed,b,Program.keyLits,Value.cells,c,d,underlying3,underlying9,g,h]
theorem Fx.lt(h:Fx w b x):b<w.heap.size:=by
 obtain⟨A,n,c,d,h1,_⟩:=h;exact h1.lt
end
theorem Cel.lt{f:Nat}{X:World}{j:Bool}{l:Value}(h:Cel S f X (.pointer (some ⟨g,0,none⟩)) j l):g<X.heap.size:=by
 obtain⟨m,A,n,c,d,e,h1,o,a,p⟩:=h;injection e with e;injection e with e;injection e with e _ _;subst e;exact a.lt
section
open Go.RowKit Go.Shelf
attribute [local go_sem] Oper.semAt_some
theorem chunk_in(A:Option Addr)(L cap N:Nat)(a:0<N)(w:World):
 Calls prog 44 #[.slice A L cap,.int .i64 (N:Int)] w λe w' =>
  e = .returned (.func (.func 101) #[] #[.pointer (some ⟨w,0,none⟩),.pointer (some ⟨w+1,0,none⟩)]) /\
  w'=(w.alloc (.cells #[.slice A L cap] 27)).alloc (.cells #[.int .i64 (N:Int)] 3):=by
 go_enter func44,ntmps44;go_wp2;go_ret;exact⟨rfl,rfl⟩
end
section
open Go.RowKit Go.Shelf
attribute [local go_sem] Oper.semAt_some
open Go.RowKit Go.Shelf
theorem Zrt(w:World)(v:Value):Below w w ((((w.alloc (.cells #[v] 44)).alloc (.cells #[.slice none 0 0] 44)).alloc (.cells #[.int .i64 0] 3)).alloc (.cells #[.int .i64 0] 31)) :=
 (((((AL _ _).alloc (AJ _) _).alloc AE _).alloc AG _).alloc AG _)
theorem Zr4(w:World)(v:Value):((((w.alloc (.cells #[v] 44)).alloc (.cells #[.slice none 0 0] 44)).alloc (.cells #[.int .i64 0] 3)).alloc (.cells #[.int .i64 0] 31)).heap.size=w.heap.size+1+1+1+1:=AE
end
section
open Go.RowKit Go.Shelf
attribute [local go_sem] Oper.semAt_some
open Go.RowKit Go.Shelf
open Go.RowKit Go.Shelf
attribute [local go_sem] Oper.semAt_some
theorem Zru{W:World}(h:Below W W a):KeepsOthers W a:=⟨h.size,λk o b _=>(h.block k (Array.getElem?_eq_some_iff.1 b).1).trans b⟩
theorem Zra{a:Nat}{W c:World}(h:Below W W c)(d:a<W.heap.size)(f:b<W.heap.size):Zrq a b W c:=⟨h.block a d,h.block b f⟩
theorem need_zero(xs:List Nat)(d:Lim xs)(r:Zm xs=true)(h0:xs.length≠0)(b:B9 xs=0):val xs=1:=by
 obtain⟨ex,j⟩:=Ul xs d r;have k:0<val xs:=by
  rcases BY (val xs) with h | h
  ·rw[h,Va] at ex;rw[ex] at h0;simp at h0
  exact h
 have a:Zrs xs=0:=by unfold B9 at b;omega
 have f:Zm (limbs 1)=true:=Ym 1 (Zrf 1 AC);have c:Mw xs (limbs 1)=(limbs (val xs-1),0):=by
  simp[Mw,r,f,Yd];omega
 unfold Zrs at a;rw[c] at a;have g:=Ym (val xs-1) AA;simp only[Zz9,g,if_true,Yd] at a;by_cases h:val xs-1=0
 ·omega
 simp only[bitLen] at a;split at a <;> omega
theorem Zr0(xs a:List Nat)(g:Lim xs):(∃e,e≠0/\X5 xs a=([],0,e))\/∃t n,X5 xs a=(limbs t,n,0)/\Zm xs=true/\xs.length≠0/\t<val xs/\n<=a.length:=by
 unfold X5;by_cases h1:Zm xs=true/\xs.length≠0
 ·rw[if_neg (by simpa using h1)];by_cases c:1000<a.length
  ·rw[if_pos c];exact .inl ⟨5,AC,rfl⟩
  rw[if_neg c];by_cases b:B9 xs=0
  ·rw[if_pos b];have:=need_zero xs g h1.1 h1.2 b;exact .inr ⟨0,0,by rw[Va],h1.1,h1.2,AA,AA⟩
  rw[if_neg b];rcases Zqk (val xs) (Zrs xs) (B9 xs) (a.length+1) 0 a with h | ⟨t,n,d,f,_,j⟩
  ·exact .inl ⟨12,AC,h⟩
  exact .inr ⟨t,n,d,h1.1,h1.2,f,AA⟩
 rw[if_pos h1];exact .inl ⟨1,AC,rfl⟩
end
