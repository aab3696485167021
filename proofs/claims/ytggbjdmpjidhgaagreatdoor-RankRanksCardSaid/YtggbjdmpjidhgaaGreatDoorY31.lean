/- ranks: the reference's small functions (walked). -/
import Derived.Test.YtggbjdmpjidhgaaGreatDoorY21
import Derived.Test.YtggbjdmpjidhgaaGreatDoorY26
import Derived.Test.YtggbjdmpjidhgaaGreatDoorY29
set_option linter.all false
set_option maxHeartbeats 1500000
set_option maxRecDepth 100000
namespace Go.Proofs.YtggbjdmpjidhgaaGreatDoor
open Go.RowKit Go.Proofs.Tryz
variable{A At:Option Addr}{tab:Nat->Nat->Nat}
theorem Zxi(d:Option Addr)(c1 a:Nat)(f:Option Addr)(c2 b:Nat)(w:World)(h1:Zq .u32 w d (limbs a).length c1 (limbs a))(g:Zq .u32 w f (limbs b).length c2 (limbs b))(k:a+b<big):
 Calls prog 135 #[.slice d (limbs a).length c1,.slice f (limbs b).length c2] w λe w'=>∃A c,e = .returned (.slice A (limbs (a+b)).length c)/\Zq .u32 w' A (limbs (a+b)).length c (limbs (a+b))/\Below w w w':=by
 have CA:=Zu0 d _ c1 (limbs a) f _ c2 (limbs b) w h1 g (Z9 _) (Z9 _);rw[Nz a b AA AA,Km k] at CA;have CA:=LH CA;clear h1 g;go_enter func135,ntmps135;go_wp2_with (first
  | (go_at_call 59
     refine CA.out.mono ?_;rintro e n⟨h,j,rfl,m,l⟩))
 go_ret;exact⟨h,j,rfl,m,l⟩
structure SMs (W:World) (g j is ic:Nat) (b:Nat->Bool) (u:Nat->Value) (X:World):Prop where
 below:b is=false->Below W.heap.size W X
 done:b is=true->∃X0,Below W.heap.size W X0/\X=X0.setCell ⟨g,j,none⟩ (u ic)
theorem SMs.start(W:World)(g j is a:Nat)(u:Nat->Value):SMs W g j is a (λ_=>false) u W.drew:=⟨λ_=>(AL _ _).drew,λh=>(by cases h)⟩
def Zv7(d a r:Nat)(w:World)(e:Ending)(w':World):Prop:=Below w.heap.size w w'/\∃A c,e = .returned (.agg #[.int .i64 (d:Int),.int .i64 (a:Int),.slice A (limbs r).length c])/\Zq .u32 w' A (limbs r).length c (limbs r)
def RTC(a:World)(h:GH)(G:Gr)(At:Option Addr)(f k m:Nat):Prop:=∀(s:Int) (n r:Nat) (u:List Nat) (z:List Int) (c:Option Addr) (d:Nat) (w:World),u.length<=m->s<0->Zp s<G.nons.length->UnT G (Zp s) n r u->Zv G s n<big->n<f->Za .i64 a c (u.length+z.length) d (u.map (λi:Nat=>(i:Int))++z)->Below a.heap.size a w->
 Calls Tryz.prog 82 #[GV h G.start,.slice At f k,.slice c (u.length+z.length) d] w (Zv7 u.length n r w)
def RFC(a:World)(h:GH)(G:Gr)(At:Option Addr)(k o m:Nat):Prop:=∀(l:List Int) (n r:Nat) (u:List Nat) (z:List Int) (Al:Option Addr) (d:Nat) (c:Option Addr) (f:Nat) (w:World),u.length<=m->UnL G l n r u->InG G l->Zx (Zv G) l n<big->l.length<=6->n<k->(∀s∈l,G.has s=true)->Za .i64 a Al l.length d l->Za .i64 a c (u.length+z.length) f (u.map (λi:Nat=>(i:Int))++z)->Below a.heap.size a w->
 Calls Tryz.prog 134 #[GV h G.start,.slice At k o,.slice Al l.length d,.slice c (u.length+z.length) f] w (Zv7 u.length n r w)
theorem limbs0:limbs 0=[]:=List.length_eq_zero_iff.1 (Lq.2 rfl)
theorem Z1.of{w:World}{c x:Nat}(h:Zq .u32 w A (limbs x).length c (limbs x))(a:x<big):Z1 w A (limbs x).length c false x:=by
 unfold Z1;rw[Z7 a];exact⟨rfl,h⟩
theorem rf_fnil{h:GH}{G:Gr}{t q:Nat}(Al:Option Addr)(o:Nat)(l:Option Addr)(u r:Nat)(w:World):
 Calls prog 134 #[GV h G.start,.slice At t q,.slice Al 0 o,.slice l u r] w (Zv7 0 0 0 w):=by
 obtain⟨a1,n1,c1,a2,n2,c2,a3,n3,c3⟩:=h;have f:=Zy w (.cells #[.slice a1 n1 c1,.slice a2 n2 c2,.slice a3 n3 c3,.int .i64 G.start] 26);have g:=Zy (w.alloc (.cells #[.slice a1 n1 c1,.slice a2 n2 c2,.slice a3 n3 c3,.int .i64 G.start] 26)) (.cells #[.int .i64 0,.int .i64 0,.slice none 0 0] 125);have c:=Blk.new (w.alloc (.cells #[.slice a1 n1 c1,.slice a2 n2 c2,.slice a3 n3 c3,.int .i64 G.start] 26)) 125 #[.int .i64 0,.int .i64 0,.slice none 0 0];have k:=Zl w (.cells #[.slice a1 n1 c1,.slice a2 n2 c2,.slice a3 n3 c3,.int .i64 G.start] 26);rw[k] at c;have a:=LH c;have d:=LH (Zz f g);clear c f g k;go_enter func134,ntmps134;go_upto_region 1 with fail;generalize (w.alloc (.cells #[.slice a1 n1 c1,.slice a2 n2 c2,.slice a3 n3 c3,.int .i64 G.start] 26)).alloc (.cells #[.int .i64 0,.int .i64 0,.slice none 0 0] 125)=b at *;have v:b.cell? ⟨w+1,0,none⟩=some (.int .i64 0):=a.cell 0;have x:b.cell? ⟨w+1,1,none⟩=some (.int .i64 0):=a.cell 1;have y:b.cell? ⟨w+1,2,none⟩=some (.slice none 0 0):=a.cell 2;have z:=a.frozen 0;have A:=a.frozen 1;have B:=a.frozen 2;have C:=a.lt;have n:=LH (((a.set 0 (.int .i64 0)).set 1 (.int .i64 0)).set 2 (.slice none 0 0));have j:=((Off.of_set b (w.heap.size+1) 0 (.int .i64 0)).trans (Off.of_set _ (w.heap.size+1) 1 (.int .i64 0)) λ_ _ h=>h).trans (Off.of_set _ (w.heap.size+1) 2 (.slice none 0 0)) λ_ _ h=>h;have m:=LH (d.trans (j.is_below d.size λp s=>by rw[s];exact DP _));clear j;go_wp2_with fail;refine AW (AY (p:=8) AB _ _ (w.heap.size+1) 125 #[.int .i64 0,.int .i64 0,.slice none 0 0] (0,0) _ rfl n underlying125 rfl AB) rfl ?_;exact⟨m,none,0,by rw[limbs0];rfl,by rw[limbs0];exact Zq.nil _ _ _ _ AA⟩
section
variable {W X:World} {L:List Qr} {b:Nat->Bool} {u:Nat->Value}
theorem VMs.put3(M:VMs W L b u X){p:Qr}(r:p∈L)(h:b p.ia=true)(y:b p.is=false)(A:∀q∈L,(q.ia=p.ia->q=p)/\q.ia≠p.is/\q.ic≠p.is/\(q.is=p.is->q=p)){k l m a c d:Value}(C:p.z=#[k,l,m])(h0:∀q,k ≠ .int .u32 q)(h1:∀q,l ≠ .int .u32 q)(s:∀q,m ≠ .int .u32 q)(B:u p.ic = .agg #[a,c,d]):
 ∃g,u p.ia = .pointer (some ⟨g,0,none⟩)/\Blk X g p.ty #[k,l,m]/\(∀v,VMs W L (Mz b p.is) (upd u p.is v) (((X.setCell ⟨g,0,none⟩ a).setCell ⟨g,1,none⟩ c).setCell ⟨g,2,none⟩ d))/\Zu X (((X.setCell ⟨g,0,none⟩ a).setCell ⟨g,1,none⟩ c).setCell ⟨g,2,none⟩ d):=by
 obtain⟨g,e,t,j⟩:=M.there r h y;rw[C] at j;have n:Off (λq=>q=g) X (((X.setCell ⟨g,0,none⟩ a).setCell ⟨g,1,none⟩ c).setCell ⟨g,2,none⟩ d):=((Off.of_set X g 0 a).trans (Off.of_set _ g 1 c) λ_ _ h=>h).trans (Off.of_set _ g 2 d) λ_ _ h=>h;refine⟨g,e,j,λv=>M.wrote r h e t B (((j.set 0 a).set 1 c).set 2 d) n A v,Zu.of_off n λq x o z f=>?_⟩;rw[x,j.cell o] at f;rcases o with _ | _ | _ | o
 ·exact h0 z (BI f)
 ·exact h1 z (BI f)
 ·exact s z (BI f)
 cases f
end
section
variable {W X:World} {g j is ic:Nat} {b:Nat->Bool} {u:Nat->Value}
theorem SMs.idle{a:World}(M:SMs W g j is ic b u X)(c:b is=false)(d:Below X X a)(i:Nat)(hi:(i != is)=true)(v:Value):SMs W g j is ic (Mz b i) (upd u i v) a:=by
 have hi:is≠i:=λe=>by rw[e] at hi;simp at hi
 refine⟨λ_=>Zz (M.below c) d,λh=>?_⟩;rw[Ys hi,c] at h;cases h
theorem SMs.put(M:SMs W g j is ic b u X)(a:b is=false)(hi:(ic != is)=true)(v:Value):SMs W g j is ic (Mz b is) (upd u is v) (X.setCell ⟨g,j,none⟩ (u ic)):=by
 have hi:ic≠is:=λe=>by rw[e] at hi;simp at hi
 refine⟨λh=>?_,λ_=>⟨X,M.below a,by rw[Yj hi]⟩⟩;rw[Ztw] at h;cases h
end
theorem rf_frank{W0:World}{h:GH}{G:Gr}{nt ct:Nat}(hT:TbG W0 h G At nt ct tab)(hP:Xq G)(m:Nat)(HF:RFC W0 h G At nt ct m):RTC W0 h G At nt ct (m+1):=by
 intro s n r u z Az cz w gd h0 hl hU f5 hn hz am;obtain⟨L,J,q,u1,a6,gf,hU,gb,rfl⟩:=hU;have hq:q<Zx (Zv G) J.right n:=hU.lt hP (InG.at hP.fits a6);have dy:Z0 (Zv G) G.rules (Zp s) (L+1) n<=Zv G s n:=by
  rw[Uu hP h0 hl];exact Kj _ _ _ _ _
 rw[Y3 _ a6,if_pos gf] at dy;have je:L<G.rules.length:=(AO.1 a6).1;have ge:J.left=(Zp s:Int):=by
  have:=(hP.fits.left J (AM a6)).1;omega
 have fo:=LH ge;have jh:n<=10:=by have:=hT.nt;omega
 have fk:Hid (∀(j:Nat) (x:Rul),G.rules[j]? = some x->J1 x.right n/\(∀s∈x.right,G.has s=true)/\0<=x.left):=LH λj x hx=>by
  have h1:=Bg hP.fits (AM hx) jh;exact⟨h1.1,h1.2,(hP.fits.left x (AM hx)).1⟩
 have fm:Hid (∀(j:Nat) (x:Rul),G.rules[j]? = some x->Z0 (Zv G) G.rules (Zp s) (j+1) n=Z0 (Zv G) G.rules (Zp s) j n+(if x.left.toNat=Zp s then Zx (Zv G) x.right n else 0)):=LH λj x hx=>Y3 _ hx _ _;have hm:Hid (∀j,j<=L->Z0 (Zv G) G.rules (Zp s) j n<=Z0 (Zv G) G.rules (Zp s) L n):=LH λj hj=>Vf _ _ _ _ hj;have g1:Hid (InG G J.right):=InG.at hP.fits a6;obtain⟨T,cs⟩:∃T:List Int,u1.map (λi:Nat=>(i:Int))++z=T:=⟨_,rfl⟩;have dq:u1.length+z.length=T.length:=by rw[<-cs];simp
 have ku:u1.length<=T.length:=AA
 have fv:(L::u1).length+z.length=T.length+1:=by rw[AZ];omega
 rw[CJ,DT,cs] at hz;rw[fv] at hz ⊢;obtain⟨a1,n1,c1,a2,n2,c2,a3,n3,c3⟩:=h;have f9:n3=G.rules.length:=hT.at_.rules.len.symm;have jf:L<n3:=AA
 have lo:n3<=40:=by have:=hP.fits.n3.2;omega
 have kc:=LH f9;have kj:=hT.at_.rules.cap;have kq:=hP.fits.n2.2;have kk:=hP.fits.n1;have ks:=hT.tabm.1;have kt:=hT.tabm.2.1;have kr:=hT.nt;have ki:=hz.cap;obtain⟨V,W,s',rfl,b1,fl,da⟩:=hz.get (j:=0) AE;obtain rfl:(L:Int)=s':=by have:=fl.out;simpa using this
 rw[DG] at da;have cu:=hz.tail1;rw[Nat.add_sub_cancel] at cu;obtain⟨A2,jb⟩:∃A2:Option Addr,(if cz=1 then some (⟨V,W,none⟩:Addr) else some ⟨V,W+1,none⟩)=A2:=⟨_,rfl⟩;rw[jb] at cu;obtain⟨E,F,x,Ax,cx,dr,cw,Hx,q0,q1,q2,fz⟩:=hT.at_.rules.get (j:=L) jf;have dr:a3=some ⟨E,F,none⟩:=dr;subst dr;obtain rfl:J=x:=by
  have e:=a6.symm.trans Hx;injection e
 have HB:=LH hT;have HU:=LH hU;have h6:=LH a6;have ff:=LH f5;have fn:=LH dy;have hu:=LH gb;have Hq:=LH hq;have fd:=LH am;have g2:=LH fz;have hy:=LH gd;have d2:Hid (∀X,Below W0 W0 X->Calls prog 134 #[.agg #[.slice a1 n1 c1,.slice a2 n2 c2,.slice (some ⟨E,F,none⟩) n3 c3,.int .i64 G.start],.slice At nt ct,.slice Ax J.right.length cx,.slice A2 T.length (cz-1)] X (Zv7 u1.length n q X)):=LH λX f=>by
  have hk:=fk L J h6;have h1:=HF J.right n q u1 z Ax cx A2 (cz-1) X (by have:=hy.out;rw[AZ] at this;omega) HU g1 (by have h1:=fn.out;have h2:=ff.out;omega) hk.1.len hn hk.2.1 g2 (by rw[cs,dq];exact cu) f;rw[dq] at h1;exact h1
 have fx:=Zy w (.cells #[.slice a1 n1 c1,.slice a2 n2 c2,.slice (some ⟨E,F,none⟩) n3 c3,.int .i64 G.start] 26);have f6:=Y1.new w 26 ⟨a1,n1,c1,a2,n2,c2,some ⟨E,F,none⟩,n3,c3⟩ G.start;have cv:=Zy (w.alloc (.cells #[.slice a1 n1 c1,.slice a2 n2 c2,.slice (some ⟨E,F,none⟩) n3 c3,.int .i64 G.start] 26)) (.cells #[.int .i64 0,.int .i64 0,.slice none 0 0] 125);have hO:=Blk.new (w.alloc (.cells #[.slice a1 n1 c1,.slice a2 n2 c2,.slice (some ⟨E,F,none⟩) n3 c3,.int .i64 G.start] 26)) 125 #[.int .i64 0,.int .i64 0,.slice none 0 0];have p5:=Zl w (.cells #[.slice a1 n1 c1,.slice a2 n2 c2,.slice (some ⟨E,F,none⟩) n3 c3,.int .i64 G.start] 26);rw[p5] at hO;have fy:=Zz fx cv;have fa:=LH hO;have gz:=LH ((Blk.new w 26 #[.slice a1 n1 c1,.slice a2 n2 c2,.slice (some ⟨E,F,none⟩) n3 c3,.int .i64 G.start]).ext cv);have de:=LH fy;have dj:=LH (f6.below cv);have jk:=am.size;clear ge hT hP HF hU a6 gf f5 dy gb hq h0 hl f9 je cs dq fv hz am cu fz gd fl fx f6 cv hO p5 fy;go_enter func82,ntmps82;go_upto_region 1 with fail;generalize (w.alloc (.cells #[.slice a1 n1 c1,.slice a2 n2 c2,.slice (some ⟨E,F,none⟩) n3 c3,.int .i64 G.start] 26)).alloc (.cells #[.int .i64 0,.int .i64 0,.slice none 0 0] 125)=W1 at *;have⟨R,y0,y1,U,y3⟩:=dj.out;simp only[] at y0 y1 U y3;have a0:Below W0 W0 W1:=fd.trans (de.mono jk);have s0:=(a0.cell (p:=⟨V,W,none⟩) b1).trans da;have sl:=AK b1 a0.size;have e0:=(a0.cell (p:=⟨E,F+L*3,none⟩) cw).trans q0;have e1:=(a0.cell (p:=⟨E,F+L*3+1,none⟩) cw).trans q1;have e2:=(a0.cell (p:=⟨E,F+L*3+2,none⟩) cw).trans q2;have el:=AK cw a0.size;have hg:=LH a0;clear a0;refine Yi (Γ:=Unit) (λ_ b u X=>VMs W1 [(⟨7,8,6,52,#[.int .i64 0,.slice none 0 0,.int .i64 0]⟩:Qr)] b u X) (λX k=>Zu X k) () (λu=>(⟨(GV ⟨a1,n1,c1,a2,n2,c2,some ⟨E,F,none⟩,n3,c3⟩ G.start :: .slice At nt ct :: .slice (some ⟨V,W,none⟩) (T.length+1) cz :: .pointer (some ⟨w,0,none⟩)::undef::undef :: .pointer (some ⟨w+1,0,none⟩)::u 7::undef::undef::u 0::u 1::u 2::u 3::u 4::u 5::u 6::undef::undef::undef::undef::undef::undef::undef::undef::undef::undef::undef::undef::undef::undef::undef::undef::undef::undef::undef::undef::undef::undef::undef::undef::undef::undef::undef::undef::undef::undef::undef::undef::undef::undef::undef::undef::undef::undef::undef::undef::undef::undef::undef::[]).toArray,[]⟩:Act)) [undef,undef,undef,undef,undef,undef,undef,undef,undef] [λv X=>v = .pointer (some ⟨w,2,none⟩),λv X=>v = .slice (some ⟨E,F,none⟩) n3 c3,λv X=>v = .slice (some ⟨V,W,none⟩) (T.length+1) cz,λv X=>v = .pointer (some ⟨V,W,none⟩),λv X=>v = .int .i64 (L:Int),λv X=>v = .pointer (some ⟨E,F+L*3,none⟩),λv X=>v = .agg #[.int .i64 J.left,.slice Ax J.right.length cx,.int .i64 J.prec],λv X=>True,λv X=>True] (l:=[_,_,_,_,_,_,_,_,_]) AB AB rfl (VMs.start _ _ _) ⟨AI,AI,AI,AI,AI,AI,AI,AI,AI,trivial⟩ ?_ ?_
 ·refine Zw.con (λQ g b u X d C a c K A=>?_) ?_
  ·have B:=a.below;clear c d;go_simp;exact A _ () _ (Zu.refl _) (a.idle (AL _ _) 0 rfl _) rfl
  refine Zw.con (λQ g b u X d C a c K A=>?_) ?_
  ·have p0:u 0=_:=(c 0 rfl).2;have B:=a.below;have v0:=(B.cell (p:=⟨w,2,none⟩) R).trans U;have vl:=AK R B.size;clear c d;rw[p0] at A⊢;go_simp;exact A _ () _ (Zu.refl _) (a.idle (AL _ _) 1 rfl _) rfl
  refine Zw.con (λQ g b u X d C a c K A=>?_) ?_
  ·have B:=a.below;clear c d;go_simp;exact A _ () _ (Zu.refl _) (a.idle (AL _ _) 2 rfl _) rfl
  refine Zw.con (λQ g b u X d C a c K A=>?_) ?_
  ·have p2:u 2=_:=(c 2 rfl).2;have B:=a.below;clear c d;rw[p2] at A⊢;go_simp;exact A _ () _ (Zu.refl _) (a.idle (AL _ _) 3 rfl _) rfl
  refine Zw.con (λQ g b u X d C a c K A=>?_) ?_
  ·have p3:u 3=_:=(c 3 rfl).2;have B:=a.below;have v0:=(B.cell (p:=⟨V,W,none⟩) sl).trans s0;have vl:=AK sl B.size;clear c d;rw[p3] at A⊢;go_simp;exact A _ () _ (Zu.refl _) (a.idle (AL _ _) 4 rfl _) rfl
  refine Zw.con (λQ g b u X d C a c K A=>?_) ?_
  ·have p1:u 1=_:=(c 1 rfl).2;have p4:u 4=_:=(c 4 rfl).2;have B:=a.below;clear c d;rw[p1,p4] at A⊢;go_simp;exact A _ () _ (Zu.refl _) (a.idle (AL _ _) 5 rfl _) rfl
  refine Zw.con (λQ g b u X d C a c K A=>?_) ?_
  ·have p5:u 5=_:=(c 5 rfl).2;have bi:b 8=false:=d.no C AB;have t:=λk (f:Below X X k) v=>a.call f 6 bi rfl v;have B:=a.below;have v0:=(B.cell (p:=⟨E,F+L*3,none⟩) el).trans e0;have v1:=(B.cell (p:=⟨E,F+L*3+1,none⟩) el).trans e1;have v2:=(B.cell (p:=⟨E,F+L*3+2,none⟩) el).trans e2;have vl:=AK el B.size;clear c a d;rw[p5] at A⊢;go_simp;exact A _ () _ (Zu.refl _) (t _ (AL _ _) _) rfl
  refine Zw.con (λQ g b u X d C a c K A=>?_) ?_
  ·have bi:b 8=false:=d.no C AB;have t:=a.made (p:=(⟨7,8,6,52,#[.int .i64 0,.slice none 0 0,.int .i64 0]⟩:Qr)) AE bi (λp c=>by simp only[BV,Ec,or_false] at c;rcases c with rfl <;> exact⟨AE,AC,AC⟩);clear c a d;go_simp;exact A _ () _ (.of_below (Zy _ _)) t trivial
  refine Zw.con (λQ g b u X d C a c K A=>?_) ?_
  ·have p6:u 6=_:=(c 6 rfl).2;obtain⟨gB,e7,P,t,b8⟩:=a.put3 (p:=(⟨7,8,6,52,#[.int .i64 0,.slice none 0 0,.int .i64 0]⟩:Qr)) AE (c 7 rfl).1 C (λp c=>by simp only[BV,Ec,or_false] at c;rcases c with rfl <;> exact⟨AE,AC,AC,AE⟩) rfl nofun nofun nofun p6
   clear c a d;generalize u 7=x7 at *;subst e7;generalize u 6=x6 at *;subst p6;have y0:=P.cell 0;have j6:=P.frozen 0;have y1:=P.cell 1;have j7:=P.frozen 1;have U:=P.cell 2;have j8:=P.frozen 2;have yl:=P.lt;clear P;go_simp;exact A undef () _ b8 (t undef) trivial
  exact Zw.nil
 intro _ b9 u X9 al ak c;obtain⟨g7,vs,p7,f7,f3,p6⟩:=ak.fin (p:=⟨7,8,6,52,#[.int .i64 0,.slice none 0 0,.int .i64 0]⟩) AE (al 7 AC) (al 8 AC);have q6:u 6=_:=c 6 AC;obtain rfl:vs=#[.int .i64 J.left,.slice Ax J.right.length cx,.int .i64 J.prec]:=by
  rw[p6] at q6;injection q6
 have cj:u 7=_:=p7;have aa:=ak.below;have gw:=LH (Zz de aa);have ck:=LH (Zz hg aa);have fi:=LH (dj.below aa);have dg:=LH (fa.ext aa);have d5:=LH (gz.ext aa);have b4:=LH f3;have kl:w.heap.size<=g7:=BD de.size f7;clear c al ak p6 q6 aa f3 b9 f7;rw[cj];clear p7 cj y0 y1 U y3 R s0 sl e0 e1 e2 el fa dj;generalize u 0=w0 at *;generalize u 1=w1 at *;generalize u 2=w2 at *;generalize u 3=w3 at *;generalize u 4=w4 at *;generalize u 5=w5 at *;generalize u 6=w6 at *;clear u;generalize X9=W2 at *;have⟨R,y0,y1,U,y3⟩:=fi.out;simp only[] at y0 y1 U y3;have s0:=(ck.cell (p:=⟨V,W,none⟩) b1).trans da;have sl:=AK b1 ck.size;have fs:W2.cell? ⟨g7,1,none⟩=some (.slice Ax J.right.length cx):=b4.cell 1;have b7:=b4.lt;have CF:Hid (∀X,Below W2 W2 X->Calls prog 134 #[.agg #[.slice a1 n1 c1,.slice a2 n2 c2,.slice (some ⟨E,F,none⟩) n3 c3,.int .i64 G.start],.slice At nt ct,.slice Ax J.right.length cx,.slice A2 T.length (cz-1)] X λe w'=>Below X X w'/\∃N O,e = .returned (.agg #[.int .i64 (u1.length:Int),.int .i64 (n:Int),.slice N (limbs q).length O])/\Zq .u32 w' N (limbs q).length O (limbs q)):=LH λX f=>(d2 X (Zz ck f)).mono λe w' h=>h;clear d2;go_upto_region 2 with fail;refine Yi (Γ:=Unit) (λ_ b u X=>VMs W2 [(⟨7,8,6,125,#[.int .i64 0,.int .i64 0,.slice none 0 0]⟩:Qr)] b u X) (λX k=>Zu X k) () (λu=>(⟨(GV ⟨a1,n1,c1,a2,n2,c2,some ⟨E,F,none⟩,n3,c3⟩ G.start :: .slice At nt ct :: .slice (some ⟨V,W,none⟩) (T.length+1) cz :: .pointer (some ⟨w,0,none⟩)::undef::undef :: .pointer (some ⟨w+1,0,none⟩) :: .pointer (some ⟨g7,0,none⟩)::u 7::undef::w0::w1::w2::w3::w4::w5::w6::u 0::u 1::u 2::u 3::u 4::u 5::u 6::undef::undef::undef::undef::undef::undef::undef::undef::undef::undef::undef::undef::undef::undef::undef::undef::undef::undef::undef::undef::undef::undef::undef::undef::undef::undef::undef::undef::undef::undef::undef::undef::undef::undef::undef::undef::[]).toArray,[]⟩:Act)) [undef,undef,undef,undef,undef,undef,undef,undef,undef] [λv X=>v = .agg #[.slice a1 n1 c1,.slice a2 n2 c2,.slice (some ⟨E,F,none⟩) n3 c3,.int .i64 G.start],λv X=>v = .slice At nt ct,λv X=>v = .pointer (some ⟨g7,1,none⟩),λv X=>v = .slice Ax J.right.length cx,λv X=>v = .slice (some ⟨V,W,none⟩) (T.length+1) cz,λv X=>v = .slice A2 T.length (cz-1),λv X=>∃N O,v = .agg #[.int .i64 (u1.length:Int),.int .i64 (n:Int),.slice N (limbs q).length O]/\Zq .u32 X N (limbs q).length O (limbs q),λv X=>True,λv X=>True] (l:=[_,_,_,_,_,_,_,_,_]) AB AB rfl (VMs.start _ _ _) ⟨AI,AI,AI,AI,AI,AI,(λv X k ⟨N,O,e,h⟩ f=>⟨N,O,e,h.nkept f⟩),AI,AI,trivial⟩ ?_ ?_
 ·refine Zw.con (λQ g b u X d C a c K A=>?_) ?_
  ·have B:=a.below;have v0:=(B.cell (p:=⟨w,0,none⟩) R).trans y0;have v1:=(B.cell (p:=⟨w,1,none⟩) R).trans y1;have v2:=(B.cell (p:=⟨w,2,none⟩) R).trans U;have v3:=(B.cell (p:=⟨w,3,none⟩) R).trans y3;have vl:=AK R B.size;clear c d;go_simp;exact A _ () _ (Zu.refl _) (a.idle (AL _ _) 0 rfl _) rfl
  refine Zw.con (λQ g b u X d C a c K A=>?_) ?_
  ·have B:=a.below;clear c d;go_simp;exact A _ () _ (Zu.refl _) (a.idle (AL _ _) 1 rfl _) rfl
  refine Zw.con (λQ g b u X d C a c K A=>?_) ?_
  ·have B:=a.below;clear c d;go_simp;exact A _ () _ (Zu.refl _) (a.idle (AL _ _) 2 rfl _) rfl
  refine Zw.con (λQ g b u X d C a c K A=>?_) ?_
  ·have p2:u 2=_:=(c 2 rfl).2;have B:=a.below;have v0:=(B.cell (p:=⟨g7,1,none⟩) b7).trans fs;have vl:=AK b7 B.size;clear c d;rw[p2] at A⊢;go_simp;exact A _ () _ (Zu.refl _) (a.idle (AL _ _) 3 rfl _) rfl
  refine Zw.con (λQ g b u X d C a c K A=>?_) ?_
  ·have B:=a.below;clear c d;go_simp;exact A _ () _ (Zu.refl _) (a.idle (AL _ _) 4 rfl _) rfl
  refine Zw.con (λQ g b u X d C a c K A=>?_) ?_
  ·have p4:u 4=_:=(c 4 rfl).2;have t:=λk (f:Below X X k) v=>a.idle f 5 rfl v;have B:=a.below;have ko:(1:Int)<=(T.length:Int)+1:=AA
   clear c a d;generalize u 4=x4 at *;subst p4;go_simp;exact A _ () _ (Zu.refl _) (t _ (AL _ _) _) rfl
  refine Zw.con (λQ g b u X d C a c K A=>?_) ?_
  ·have p0:u 0=_:=(c 0 rfl).2;have p1:u 1=_:=(c 1 rfl).2;have p3:u 3=_:=(c 3 rfl).2;have p5:u 5=_:=(c 5 rfl).2;have bi:b 8=false:=d.no C AB;have t:=λk (f:Below X X k) v=>a.call f 6 bi rfl v;have B:=a.below;have CC:=CF X B;clear c a d;rw[p0,p1] at A⊢;rw[p3,p5] at A⊢;go_simp;go_at_call 134;refine CC.mono ?_;rintro e k⟨f,N,O,rfl,hv⟩;go_simp;exact A _ () _ (.of_below f) (t _ f _) ⟨N,O,rfl,hv⟩
  refine Zw.con (λQ g b u X d C a c K A=>?_) ?_
  ·have bi:b 8=false:=d.no C AB;have t:=a.made (p:=(⟨7,8,6,125,#[.int .i64 0,.int .i64 0,.slice none 0 0]⟩:Qr)) AE bi (λp c=>by simp only[BV,Ec,or_false] at c;rcases c with rfl <;> exact⟨AE,AC,AC⟩);clear c a d;go_simp;exact A _ () _ (.of_below (Zy _ _)) t trivial
  refine Zw.con (λQ g b u X d C a c K A=>?_) ?_
  ·obtain⟨N,O,p6,hv⟩:=(c 6 rfl).2;obtain⟨gB,e7,P,t,b8⟩:=a.put3 (p:=(⟨7,8,6,125,#[.int .i64 0,.int .i64 0,.slice none 0 0]⟩:Qr)) AE (c 7 rfl).1 C (λp c=>by simp only[BV,Ec,or_false] at c;rcases c with rfl <;> exact⟨AE,AC,AC,AE⟩) rfl nofun nofun nofun p6
   clear c a d;generalize u 7=x7 at *;subst e7;generalize u 6=x6 at *;subst p6;have y0:=P.cell 0;have j6:=P.frozen 0;have y1:=P.cell 1;have j7:=P.frozen 1;have U:=P.cell 2;have j8:=P.frozen 2;have yl:=P.lt;clear P;go_simp;exact A undef () _ b8 (t undef) trivial
  exact Zw.nil
 intro _ b9 u X9 al ak c;obtain⟨H,vs,p7,kn,f4,p6⟩:=ak.fin (p:=⟨7,8,6,125,#[.int .i64 0,.int .i64 0,.slice none 0 0]⟩) AE (al 7 AC) (al 8 AC);obtain⟨N,O,q6,hv⟩:=c 6 AC;obtain rfl:vs=#[.int .i64 (u1.length:Int),.int .i64 (n:Int),.slice N (limbs q).length O]:=by
  rw[p6] at q6;injection q6
 have cj:u 7=_:=p7;have aa:=ak.below;have d3:=LH (Zz gw aa);have hh:=LH (Zz ck aa);have g6:=LH (dg.ext aa);have g0:=LH (d5.ext aa);have hd:=LH (b4.ext aa);have b5:=LH f4;have HV:=LH hv;have kh:=dg.lt;have km:=b4.lt;have kv:u1.length<=9223372036854775806:=AA
 clear c al ak p6 q6 aa f4 b9 hv;rw[cj];clear p7 cj y0 y1 U y3 R s0 sl fs b7 dg d5 fi b4 CF;generalize u 0=m0 at *;generalize u 1=m1 at *;generalize u 2=m2 at *;generalize u 3=m3 at *;generalize u 4=m4 at *;generalize u 5=m5 at *;generalize u 6=m6 at *;clear u;generalize X9=W3 at *;have c0:W3.cell? ⟨H,0,none⟩=some (.int .i64 (u1.length:Int)):=b5.cell 0;have f0:=b5.frozen 0;have cl:=b5.lt;have fc:Hid (Blk (W3.setCell ⟨H,0,none⟩ (.int .i64 ((u1.length:Int)+1))) H 125 #[.int .i64 ((u1.length:Int)+1),.int .i64 (n:Int),.slice N (limbs q).length O]):=LH (b5.set 0 (.int .i64 ((u1.length:Int)+1)));have dx:=Off.of_set W3 H 0 (.int .i64 ((u1.length:Int)+1));have fe:Hid (Below H W3 (W3.setCell ⟨H,0,none⟩ (.int .i64 ((u1.length:Int)+1)))):=LH (dx.is_below (DN cl) λq hq=>by rw[hq];exact AJ _);have fb:Hid (Zq .u32 (W3.setCell ⟨H,0,none⟩ (.int .i64 ((u1.length:Int)+1))) N (limbs q).length O (limbs q)):=LH (HV.nkept (Zu.of_off dx λp c o z hc=>by
  rw[c,b5.cell o] at hc;rcases o with _ | _ | _ | o <;> cases hc))
 clear dx;go_upto_region 4 with fail;clear c0 f0 cl;generalize W3.setCell ⟨H,0,none⟩ (.int .i64 ((u1.length:Int)+1))=W4 at *;go_wp2_with fail;go_loopw [9] (λi wr=>∃(j I:Nat) (A5:Option Addr) (c5:Nat),i = .int .i64 (j:Int)/\j<=L/\Hid (I=Z0 (Zv G) G.rules (Zp s) j n+q)/\Hid (Zq .u32 wr A5 (limbs I).length c5 (limbs I))/\Hid (Blk wr H 125 #[.int .i64 ((u1.length:Int)+1),.int .i64 (n:Int),.slice A5 (limbs I).length c5])/\Hid (Below H W3 wr)) (λi _=>L-(intOf i).toNat)
 case atStart=>exact⟨0,q,N,O,rfl,AV _,LH (by rw[Qb];omega),fb,fc,fe⟩
 obtain⟨j,I,A5,c5,rfl,hj,cn,HN,HX,bu⟩:=hrel;have kw:=d3.size;have dh:=LH (hd.below bu AA);have df:=LH (g0.below bu AA);have an:=LH (g6.below bu AA);have c4:Below W0 W0 wr:=hh.trans (bu.mono (by have:=fd.size;omega));have cm:=LH c4;have s0:=(c4.cell (p:=⟨V,W,none⟩) b1).trans da;have sl:=AK b1 c4.size;clear c4 fc fb fe;have j5:wr.cell? ⟨H,0,none⟩=some (.int .i64 ((u1.length:Int)+1)):=HX.cell 0;have x1:wr.cell? ⟨H,1,none⟩=some (.int .i64 (n:Int)):=HX.cell 1;have x2:wr.cell? ⟨H,2,none⟩=some (.slice A5 (limbs I).length c5):=HX.cell 2;have xl:=HX.lt;by_cases jg:j<L
 case neg =>
  obtain rfl:j=L:=AA
  have o0:wr.cell? ⟨w+1,0,none⟩=some (.int .i64 0):=an.cell 0;have o1:wr.cell? ⟨w+1,1,none⟩=some (.int .i64 0):=an.cell 1;have o2:wr.cell? ⟨w+1,2,none⟩=some (.slice none 0 0):=an.cell 2;have ls:=an.frozen 0;have lu:=an.frozen 1;have lv:=an.frozen 2;have ol:=an.lt;have fg:Hid (Below w w wr):=d3.trans (bu.mono AA);have hf:=LH (((an.set 0 (.int .i64 ((u1.length:Int)+1))).set 1 (.int .i64 (n:Int))).set 2 (.slice A5 (limbs I).length c5));have ho:=((Off.of_set wr (w.heap.size+1) 0 (.int .i64 ((u1.length:Int)+1))).trans (Off.of_set _ (w.heap.size+1) 1 (.int .i64 (n:Int))) λ_ _ h=>h).trans (Off.of_set _ (w.heap.size+1) 2 (.slice A5 (limbs I).length c5)) λ_ _ h=>h;have g5:=LH (HN.nkept (Zu.of_off ho λp c o z hc=>by
   rw[c,an.cell o] at hc;rcases o with _ | _ | _ | o <;> cases hc))
  have gy:=LH (fg.trans (ho.is_below fg.size λp c=>by rw[c];exact DP _));obtain rfl:I=r:=by
   have h1:=cn.out;have h2:=hu.out;omega
  clear ho jg hj;go_wp2_with fail;refine AW (AY (p:=6) AB _ _ (w.heap.size+1) 125 #[.int .i64 ((u1.length:Int)+1),.int .i64 (n:Int),.slice A5 (limbs I).length c5] (0,0) _ rfl hf underlying125 rfl AB) rfl ?_;exact⟨gy,A5,c5,rfl,g5⟩
 obtain⟨fr,gi,y,Ay,cy,eA,cd,Hy,gj,dz,j2,f1⟩:=HB.at_.rules.get (j:=j) (by show j<n3;omega);have eA:(some ⟨E,F,none⟩:Option Addr)=some ⟨fr,gi,none⟩:=eA;obtain⟨rfl,rfl⟩:E=fr/\F=gi:=by
  injection eA with eA;injection eA with e1 e2 _;exact⟨e1,e2⟩
 have e0:=(cm.cell (p:=⟨E,F+j*3,none⟩) cd).trans gj;have e1:=(cm.cell (p:=⟨E,F+j*3+1,none⟩) cd).trans dz;have el:=AK cd cm.size;have U:wr.cell? ⟨w,2,none⟩=some (.slice (some ⟨E,F,none⟩) n3 c3):=df.cell 2;have R:=df.lt;have ja:wr.cell? ⟨g7,0,none⟩=some (.int .i64 J.left):=dh.cell 0;have b7:=dh.lt;have g3:=LH f1;have hk:=fk j y Hy;have hi:=LH hk.1;have fj:=LH hk.2.1;have kx:=hk.2.2;have kp:j<n3:=AA
 have ht:=LH dz;clear hk gj dz j2 f1 eA;obtain⟨dm,cc⟩:∃dm,(y.left==J.left)=dm:=⟨_,rfl⟩;have bc:=Yt wr;go_upto_region 7 with fail;refine Zs AB AB ?_;repeat (go_big_quiet_step (fail))
 refine BK ?_;rintro _⟨v,rfl⟩;have bg:=Zr wr v;have bd:=LH (HX.ext bg);have kb:=LH (dh.ext bg);have d6:=LH (df.ext bg);have d9:=LH (HN.below bg);have fh:=LH (bu.trans (bg.mono (DN HX.lt)));have di:=LH (Zz cm bg);clear s0 sl e0 e1 el j5 x1 x2 xl U R ja b7 bc bg;generalize bl wr v=WV at *;cases dm
 case false =>
  have ji:¬y.left=J.left:=λe=>by rw[e] at cc;simp at cc
  have dk:Hid (I=Z0 (Zv G) G.rules (Zp s) (j+1) n+q):=LH (by
   rw[fm j y Hy,if_neg (by have:=fo.out;omega)];exact cn)
  clear cc ji;go_wp2_with fail;go_roundw
  case rel=>exact⟨j+1,I,A5,c5,AF,AA,dk,d9,bd,fh⟩
  simp[intOf] <;> omega
 have jl:y.left=J.left:=by simpa using cc
 obtain⟨M,fp⟩:∃M,Hid (Zx (Zv G) y.right n=M):=⟨_,LH rfl⟩;have jj:Z0 (Zv G) G.rules (Zp s) (j+1) n=Z0 (Zv G) G.rules (Zp s) j n+M:=by
  rw[fm j y Hy,if_pos (by have:=fo.out;omega),fp]
 have gc:I+M<big:=by
  have h1:=cn.out;have h2:=hm (j+1) AA;have h3:=fn.out;have h4:=ff.out;have h5:=Hq.out;omega
 have hw:=LH gc;have h7:Hid (M<big):=LH AA;have dk:Hid (I+M=Z0 (Zv G) G.rules (Zp s) (j+1) n+q):=LH (by
  have h1:=cn.out;omega)
 have CF:Hid (∀X,Below WV WV X->Calls prog 53 #[.slice At nt ct,.slice Ay y.right.length cy,.int .i64 (n:Int)] X λe w'=>Below X X w'/\∃N gh O d1,e = .returned (.agg #[.slice N gh O,.bool d1])/\Z1 w' N gh O d1 M):=LH λX f=>by
  have am:=Zz di f;have h1:=Kd At nt ct G.nons.length tab Ay cy y.right n X (HB.tabm.below am) hn AA AA (g3.below am) (by have:=hi.len;omega) (λs D=>by have:=H7 (fj s D);omega);rw[HB.forest fj hn,fp] at h1;exact h1.mono λe w' h=>h
 have e1:=(di.cell (p:=⟨E,F+j*3+1,none⟩) cd).trans ht;have el:=AK cd di.size;have x1:WV.cell? ⟨H,1,none⟩=some (.int .i64 (n:Int)):=bd.cell 1;have x2:WV.cell? ⟨H,2,none⟩=some (.slice A5 (limbs I).length c5):=bd.cell 2;have xl:=bd.lt;have U:WV.cell? ⟨w,2,none⟩=some (.slice (some ⟨E,F,none⟩) n3 c3):=d6.cell 2;have R:=d6.lt;clear cc jl jj gc;go_upto_region 8 with fail;refine Yi (Γ:=Unit) (λ_ b u X=>SMs WV H 2 15 13 b u X) (λX k=>Zu X k) () (λu=>(⟨(GV ⟨a1,n1,c1,a2,n2,c2,some ⟨E,F,none⟩,n3,c3⟩ G.start :: .slice At nt ct :: .slice (some ⟨V,W,none⟩) (T.length+1) cz :: .pointer (some ⟨w,0,none⟩)::undef::undef :: .pointer (some ⟨w+1,0,none⟩) :: .pointer (some ⟨g7,0,none⟩) :: .pointer (some ⟨H,0,none⟩) :: .int .i64 (j:Int)::w0::w1::w2::w3::w4::w5::w6::m0::m1::m2::m3::m4::m5::m6 :: .pointer (some ⟨H,0,none⟩) :: .int .i64 (u1.length:Int) :: .int .i64 ((u1.length:Int)+1) :: .pointer (some ⟨H,0,none⟩) :: .int .i64 (j:Int) :: .slice (some ⟨V,W,none⟩) (T.length+1) cz :: .pointer (some ⟨V,W,none⟩) :: .int .i64 (L:Int) :: .bool true::u33::u34 :: .pointer (some ⟨w,2,none⟩) :: .slice (some ⟨E,F,none⟩) n3 c3 :: .int .i64 (j:Int) :: .pointer (some ⟨E,F+j*3,none⟩) :: .pointer (some ⟨E,F+j*3,none⟩) :: .int .i64 y.left :: .pointer (some ⟨g7,0,none⟩) :: .int .i64 J.left :: .bool true::u 0::u 1::u 2::u 3::u 4::u 5::u 6::u 7::u 8::u 9::u 10::u 11::u 12::u 13::u 14::undef::[]).toArray,[]⟩:Act)) [u44,u45,u46,u47,u48,u49,u50,u51,u52,u53,u54,u55,u56,u57,u58,undef] [λv X=>v = .pointer (some ⟨H,2,none⟩),λv X=>v = .slice A5 (limbs I).length c5,λv X=>v = .slice At nt ct,λv X=>v = .pointer (some ⟨w,2,none⟩),λv X=>v = .slice (some ⟨E,F,none⟩) n3 c3,λv X=>v = .int .i64 (j:Int),λv X=>v = .pointer (some ⟨E,F+j*3,none⟩),λv X=>v = .pointer (some ⟨E,F+j*3+1,none⟩),λv X=>v = .slice Ay y.right.length cy,λv X=>v = .pointer (some ⟨H,1,none⟩),λv X=>v = .int .i64 (n:Int),λv X=>∃A8 n8 c8 d8,v = .agg #[.slice A8 n8 c8,.bool d8]/\Z1 X A8 n8 c8 d8 M,λv X=>∃Y Z,v = .slice Y (limbs (M)).length Z/\Zq .u32 X Y (limbs (M)).length Z (limbs (M)),λv X=>∃Y Z,v = .slice Y (limbs (I+M)).length Z/\Zq .u32 X Y (limbs (I+M)).length Z (limbs (I+M)),λv X=>v = .pointer (some ⟨H,2,none⟩),λv X=>True] (l:=[_,_,_,_,_,_,_,_,_,_,_,_,_,_,_,_]) AB AB rfl (SMs.start _ _ _ _ _ _) ⟨AI,AI,AI,AI,AI,AI,AI,AI,AI,AI,AI,(λv X k ⟨A8,n8,c8,d8,e,h⟩ f=>⟨A8,n8,c8,d8,e,h.nkept f⟩),(λv X k ⟨Y,Z,e,h⟩ f=>⟨Y,Z,e,h.nkept f⟩),(λv X k ⟨Y,Z,e,h⟩ f=>⟨Y,Z,e,h.nkept f⟩),AI,AI,trivial⟩ ?_ ?_
 ·refine Zw.con (λQ S b u X d C a c K A=>?_) ?_
  ·have D:b 15=false:=d.no C AB;have B:=a.below D;clear c d;go_simp;exact A _ () _ (Zu.refl _) (a.idle D (AL _ _) 0 rfl _) rfl
  refine Zw.con (λQ S b u X d C a c K A=>?_) ?_
  ·have D:b 15=false:=d.no C AB;have p0:u 0=_:=(c 0 rfl).2;have B:=a.below D;have v0:=(B.cell (p:=⟨H,2,none⟩) xl).trans x2;have vl:=AK xl B.size;clear c d;rw[p0] at A⊢;go_simp;exact A _ () _ (Zu.refl _) (a.idle D (AL _ _) 1 rfl _) rfl
  refine Zw.con (λQ S b u X d C a c K A=>?_) ?_
  ·have D:b 15=false:=d.no C AB;have B:=a.below D;clear c d;go_simp;exact A _ () _ (Zu.refl _) (a.idle D (AL _ _) 2 rfl _) rfl
  refine Zw.con (λQ S b u X d C a c K A=>?_) ?_
  ·have D:b 15=false:=d.no C AB;have B:=a.below D;clear c d;go_simp;exact A _ () _ (Zu.refl _) (a.idle D (AL _ _) 3 rfl _) rfl
  refine Zw.con (λQ S b u X d C a c K A=>?_) ?_
  ·have D:b 15=false:=d.no C AB;have p3:u 3=_:=(c 3 rfl).2;have B:=a.below D;have v0:=(B.cell (p:=⟨w,2,none⟩) R).trans U;have vl:=AK R B.size;clear c d;rw[p3] at A⊢;go_simp;exact A _ () _ (Zu.refl _) (a.idle D (AL _ _) 4 rfl _) rfl
  refine Zw.con (λQ S b u X d C a c K A=>?_) ?_
  ·have D:b 15=false:=d.no C AB;have B:=a.below D;clear c d;go_simp;exact A _ () _ (Zu.refl _) (a.idle D (AL _ _) 5 rfl _) rfl
  refine Zw.con (λQ S b u X d C a c K A=>?_) ?_
  ·have D:b 15=false:=d.no C AB;have p4:u 4=_:=(c 4 rfl).2;have p5:u 5=_:=(c 5 rfl).2;have B:=a.below D;clear c d;rw[p4,p5] at A⊢;go_simp;exact A _ () _ (Zu.refl _) (a.idle D (AL _ _) 6 rfl _) rfl
  refine Zw.con (λQ S b u X d C a c K A=>?_) ?_
  ·have D:b 15=false:=d.no C AB;have p6:u 6=_:=(c 6 rfl).2;have B:=a.below D;clear c d;rw[p6] at A⊢;go_simp;exact A _ () _ (Zu.refl _) (a.idle D (AL _ _) 7 rfl _) rfl
  refine Zw.con (λQ S b u X d C a c K A=>?_) ?_
  ·have D:b 15=false:=d.no C AB;have p7:u 7=_:=(c 7 rfl).2;have B:=a.below D;have v0:=(B.cell (p:=⟨E,F+j*3+1,none⟩) el).trans e1;have vl:=AK el B.size;clear c d;rw[p7] at A⊢;go_simp;exact A _ () _ (Zu.refl _) (a.idle D (AL _ _) 8 rfl _) rfl
  refine Zw.con (λQ S b u X d C a c K A=>?_) ?_
  ·have D:b 15=false:=d.no C AB;have B:=a.below D;clear c d;go_simp;exact A _ () _ (Zu.refl _) (a.idle D (AL _ _) 9 rfl _) rfl
  refine Zw.con (λQ S b u X d C a c K A=>?_) ?_
  ·have D:b 15=false:=d.no C AB;have p9:u 9=_:=(c 9 rfl).2;have B:=a.below D;have v0:=(B.cell (p:=⟨H,1,none⟩) xl).trans x1;have vl:=AK xl B.size;clear c d;rw[p9] at A⊢;go_simp;exact A _ () _ (Zu.refl _) (a.idle D (AL _ _) 10 rfl _) rfl
  refine Zw.con (λQ S b u X d C a c K A=>?_) ?_
  ·have D:b 15=false:=d.no C AB;have p2:u 2=_:=(c 2 rfl).2;have p8:u 8=_:=(c 8 rfl).2;have jt:u 10=_:=(c 10 rfl).2;have B:=a.below D;have t:=λk (f:Below X X k) v=>a.idle D f 11 rfl v;have CC:=CF X B;clear c a d;rw[p2,p8,jt] at A⊢;go_simp;go_at_call 53;refine CC.mono ?_;rintro e k⟨f,A8,n8,c8,d8,rfl,hv⟩;go_simp;exact A _ () _ (.of_below f) (t _ f _) ⟨A8,n8,c8,d8,rfl,hv⟩
  refine Zw.con (λQ S b u X d C a c K A=>?_) ?_
  ·have D:b 15=false:=d.no C AB;obtain⟨A8,n8,c8,d8,ju,hv⟩:=(c 11 rfl).2;have B:=a.below D;have t:=λk (f:Below X X k) v=>a.idle D f 12 rfl v;have f2:Zq .u32 X A8 n8 c8 (limbs M):=by
    have h1:=hv.2;rwa [Z7 h7] at h1
   obtain rfl:=f2.len;clear c a d;generalize u 11=lz at *;subst ju;go_simp;exact A _ () _ (Zu.refl _) (t _ (AL _ _) _) ⟨_,_,rfl,f2⟩
  refine Zw.con (λQ S b u X d C a c K A=>?_) ?_
  ·have D:b 15=false:=d.no C AB;have p1:u 1=_:=(c 1 rfl).2;obtain⟨Y,Z,jv,ga⟩:=(c 12 rfl).2;have B:=a.below D;have t:=λk (f:Below X X k) v=>a.idle D f 13 rfl v;have CC:=Zxi A5 c5 I Y Z M X (d9.below B) ga hw;clear c a d;rw[p1] at A⊢;generalize u 12=l0 at *;subst jv;go_simp;go_at_call 135;refine CC.mono ?_;rintro e k⟨A9,c9,rfl,c7,f⟩;go_simp;exact A _ () _ (.of_below f) (t _ f _) ⟨A9,c9,rfl,c7⟩
  refine Zw.con (λQ S b u X d C a c K A=>?_) ?_
  ·have D:b 15=false:=d.no C AB;have B:=a.below D;clear c d;go_simp;exact A _ () _ (Zu.refl _) (a.idle D (AL _ _) 14 rfl _) rfl
  refine Zw.con (λQ S b u X d C a c K A=>?_) ?_
  ·have D:b 15=false:=C;have jw:u 14=_:=(c 14 rfl).2;obtain⟨Y,Z,cf,ga⟩:=(c 13 rfl).2;have B:=a.below D;have t:=a.put D rfl undef;have cb:=bd.ext B;have v0:=cb.cell 2;have v1:=cb.frozen 2;have vl:=cb.lt;have b8:Zu X (X.setCell ⟨H,2,none⟩ (.slice Y (limbs (I+M)).length Z)):=Zu.of_off (Off.of_set X H 2 _) λq hq o z hc=>by
    rw[hq,cb.cell o] at hc;rcases o with _ | _ | _ | o <;> cases hc
   clear cb;rw[cf] at t;clear c a d;generalize u 14=l2 at *;subst jw;generalize u 13=l1 at *;subst cf;go_simp;exact A undef () _ b8 t trivial
  exact Zw.nil
 intro _ b9 u X9 al ak c;obtain⟨X0,am,eX⟩:=ak.done (al 15 AC);obtain⟨A9,c9,cf,c7⟩:=c 13 AC;rw[cf] at eX;have dt:=bd.ext am;have he:Hid (Blk X9 H 125 #[.int .i64 ((u1.length:Int)+1),.int .i64 (n:Int),.slice A9 (limbs (I+M)).length c9]):=LH (by
  rw[eX];exact dt.set 2 (.slice A9 (limbs (I+M)).length c9))
 have gx:Hid (Below H W3 X9):=LH (by
  rw[eX];have h1:=fh.trans (am.mono (DN bd.lt));exact h1.trans ((Off.of_set X0 H 2 (.slice A9 (limbs (I+M)).length c9)).is_below (DN dt.lt) λq hq=>by rw[hq];exact AJ _))
 have g4:=LH c7;clear c al ak eX dt am c7 b9 cf e1 el x1 x2 xl U R CF;generalize u 0=k0 at *;generalize u 1=k1 at *;generalize u 2=k2 at *;generalize u 3=k3 at *;generalize u 4=k4 at *;generalize u 5=k5 at *;generalize u 6=k6 at *;generalize u 7=k7 at *;generalize u 8=k8 at *;generalize u 9=k9 at *;generalize u 10=la at *;generalize u 11=lb at *;generalize u 12=lc at *;generalize u 13=ld at *;generalize u 14=lf at *;clear u;go_wp2_with fail;go_roundw
 case rel=>exact⟨j+1,I+M,A9,c9,AF,AA,dk,g4,he,gx⟩
 simp[intOf] <;> omega
