/- counts, plainly: a forest symbol by symbol, from the last one on; rules together (no program in sight). -/
import Derived.Test.YtaagompdgiobeaaGreatDoorV15
import Derived.Test.YtaagompdgiobeaaGreatDoorV16
import Derived.Test.YtaagompdgiobeaaGreatDoorV17
import Derived.Test.YtaagompdgiobeaaGreatDoorV18
set_option linter.all false
set_option maxHeartbeats 1500000
set_option maxRecDepth 100000
namespace Go.Proofs.YtaagompdgiobeaaGreatDoor
open Go.RowKit Go.Proofs.Tryz
variable{tab:Nat->Nat->Nat}{n:Int}{l rest:List Oper}{m i id a B fuel:Nat}{o:Oper}{w':World}{ts:List ((List Int × Nat) × Nat)}{F:(Nat->Value)->Act}{D:Nat->Value->World->Prop}{Q:Exit->Act->World->Prop}{J:Array Bool->Act->World->Prop}{ops:Array Oper}{d t:List Nat}{K:Act->World->Prop}{v:Value}{f:List (List Nat)}
theorem red_use{G:Gr}(g:G.right=true)(f:(Zt G).getD G.start.toNat false=true){j:Nat}(c:j<(Zi G).nons.length):(Qm (Zi G)).testBit j=true:=by
 have b:=Gr.fits g;have a:=Gr.fits (Ju g f);rw[Zsw] at c;have d:=AM c;have hi:=AN d;have h:=sig_get d;rw[<-h];exact (Gl _ a _).2 ⟨Zxa b a hi,red_reach b a f hi⟩
theorem U7{G:Gr}(a:G.right=true)(f:(Zt G).getD G.start.toNat false=true)(hi:Zi G=G)(d:Vh G=0):Xq G/\endG G=false/\Ni G (Y4 (Yz G) (Qm G) G.nons.length G.nons.length).1:=by
 have c:∀i,i<G.nons.length->(Qm G).testBit i=true:=λi h=>by
  have:=red_use a f (j:=i) (by rw[hi];exact h);rwa [hi] at this
 obtain⟨h1,b⟩:=plain_of a c d;exact⟨h1,b,order_serves a c b⟩
theorem of_told{G:Gr}(a:Xp G=true)(hi:Zi G=G)(f:Vh G=0){j:List Nat}(o:chkO G j=true){n:Nat}(q:chkT G j tab n=true)(A:n<=10){l:List Int}(y:l.length<=6)(r:(l.all λs=>G.has s)=true)(z:m<=n):Wi G l (m:Int)=Xm (Zx (Yk tab) l m):=by
 have g:G.right=true/\(Zt G).getD G.start.toNat false=true:=by unfold Xp at a;rw[AU] at a;exact a
 obtain⟨c,_,_⟩:=U7 g.1 g.2 hi f;have p:=Bt c.fits o;have u:=Zt9 c p q;have d:=BG.1 r;unfold Wi;rw[if_neg,if_neg (by rw[f];exact λh=>h rfl),DC]
 ·congr 1;refine (Wp λs b k x=>?_).symm;by_cases h0:0<=s
  ·rw[Xb G h0];unfold Yk;rw[if_pos h0]
  have v:=H7 (d s b);have t:Zp s<G.nons.length:=by unfold Zp;omega
  unfold Yk;rw[if_neg h0,u k AA _ t];congr 1;unfold Zp;omega
 rintro (h | h | h | h | ⟨s,b,h⟩)
 ·rw[Zzn.2 ⟨a,hi⟩] at h;cases h
 ·omega
 ·omega
 ·omega
 rw[d s b] at h;cases h
theorem cnt22A(a:m<=4):Z2 Xt (m:Int)=Xm (Zx (Yk tab22A) [-1] m):=(cnt_of Zxf AA red22A Fh rfl).trans (of_told red22A Fh cyc22A ord22A chk22A AC AC AB a)
theorem v22A:Z2 Xt 4=([5],0):=(cnt22A (m:=4) AC).trans AB
theorem Zxe:Xq Xt:=by
 have a:Xt.right=true/\(Zt Xt).getD Xt.start.toNat false=true:=⟨Zxf,by have:=red22A;unfold Xp at this;rw[AU] at this;exact this.2⟩;exact (U7 a.1 a.2 Fh cyc22A).1
theorem Ztt{k:Nat}(h:k<=4):Zv Xt (-1) k=tab22A k 0:=by
 have:=Zt9 Zxe (Bt Zxe.fits ord22A) chk22A k h 0 AC;exact this.symm
theorem M0:Z0 (Zv Xt) Xt.rules 0 1 1=0/\Yv (Zv Xt) (-1) [] 1 1=0/\Yv (Zv Xt) (-1) [-1] 2 1=0/\Yv (Zv Xt) (-1) [] 2 2=0/\Yv (Zv Xt) (-1) [-1] 3 1=0/\Yv (Zv Xt) (-1) [-1] 3 2=1:=by
 have a:Zv Xt (-1) 0=0:=(Ztt (k:=0) AC).trans AB;have b:Zv Xt (-1) 1=1:=(Ztt (k:=1) AC).trans AB;have c:Zv Xt (-1) 2=1:=(Ztt (k:=2) AC).trans AB;exact ahead22 a b c (by funext n;exact Xb Xt AC n)
section
open Ieee
open Go.Maps (Keyed IsMap Tidy)
theorem Wd.put{o w:World}{k:BkH}{h:GH}{G:Gr}{S:Nat->Prop}(C:Wd o k h G S w)(j:Gk w k.t G S ts){l:List Int}{n g:Nat}(E:J1 l n)(m:Fx w g (Zx (Zv G) l n))(B:¬S g)(a:Vv prog 220 w' k.t ((kB l n,g)::ts.map λp=>(kB p.1.1 p.1.2,p.2)))(D:w.grownBy w' (some k.t)):Wd o k h G S w'/\Off k.map w w'/\Gk w' k.t G S (((l,n),g)::ts):=by
 have f:Off (λq=>some k.t=some q) w w':=Off.of_grown D;have F:Zf w w':=Zf.of_off f λq b=>by injection b with b;rw[<-b];exact j.map.noInt
 have v:∀{q:Nat} {t:TypeId} {r:Array Value},Blk w q t r->Blk w' q t r:=λs=>f.blk s λe=>by injection e with e;exact j.map.ne_blk s e.symm
 have y:∀{q x:Nat},Fx w q x->Fx w' q x:=λ{q x} m=>by
  obtain⟨A,n,c,d,h1,z⟩:=m;exact⟨A,n,c,d,v h1,z.kept F⟩
 have u:Gk w' k.t G S (((l,n),g)::ts):=by
  refine⟨by simpa using a,λp a=>?_,λp a=>?_⟩
  ·rcases BZ.1 a with e | a
   ·rw[e];exact E
   exact j.key p a
  rcases BZ.1 a with e | a
  ·rw[e];exact⟨y m,B⟩
  exact⟨y (j.val p a).1,(j.val p a).2⟩
 exact⟨⟨C.base.trans (f.is_below C.base.size λq b=>by injection b with b;rw[<-b];exact C.low),v C.box,C.low,_,u⟩,⟨f.os,f.tape,f.output,f.size,λq b H=>f.keep q b λe=>H (by injection e with e;exact e.symm)⟩,u⟩
theorem red_twice{G:Gr}(b:G.right=true)(a:(Zt G).getD G.start.toNat false=true):Zi (Zi G)=Zi G:=red_id (Ju b a) λi hi=>red_use b a hi
theorem Dx{G:Gr}(f:G.right=true)(d:Xp G=true)(g:Vh (Zi G)=0):Xq (Zi G)/\Ni (Zi G) (N5 (Zi G)).1:=by
 have a:(Zt G).getD G.start.toNat false=true:=by unfold Xp at d;rw[AU] at d;exact d.2
 have b:=Gr.fits f;have c:=Ju f a;have n:G.start.toNat∈Ze G:=Jm b a;have m:(Zt (Zi G)).getD (Zi G).start.toNat false=true:=by rw[Zuo b a];exact Zxa b (Gr.fits c) n
 obtain⟨j,k,h⟩:=U7 c m (red_twice f a) g;have l:(N5 (Zi G)).1=(Y4 (Yz (Zi G)) (Qm (Zi G)) (Zi G).nons.length (Zi G).nons.length).1:=by unfold N5;rw[c,k];rfl
 exact⟨j,by rw[l];exact h⟩
end
section
variable {P:Program} {Γ:Type} {R:World->World->Prop}
def Zw(P:Program)(l:List Oper)(M:Γ->(Nat->Bool)->(Nat->Value)->World->Prop)(R:World->World->Prop)(F:(Nat->Value)->Act)(D:Nat->Value->World->Prop):Nat->List Oper->Prop
 | _,[]=>True
 | i,o::rest=>(o.guard=none/\(∀u v,(F u).put o.dst v=F (upd u i v))/\∀(Q:Exit->Act->World->Prop) (g:Γ) (b:Nat->Bool) (u:Nat->Value) (X:World),G9 l b->b i=false->M g b u X->(∀p,onB o p=true->b p=true/\D p (u p) X)->
    ∀K:Act->World->Prop,(∀v c a,R X a->M c (Mz b i) (upd u i v) a->D i v a->K ((F u).put o.dst v) a)->o.wp P (F u) X K Q)/\Zw P l M R F D (i+1) rest
theorem Zw.nil{M:Γ->(Nat->Bool)->(Nat->Value)->World->Prop}:Zw P l M R F D i []:=trivial
theorem Zw.cons{M:Γ->(Nat->Bool)->(Nat->Value)->World->Prop}(d:o.guard=none)(f:∀u v,(F u).put o.dst v=F (upd u i v))(h:∀(Q:Exit->Act->World->Prop) (g:Γ) (b:Nat->Bool) (u:Nat->Value) (X:World),G9 l b->b i=false->M g b u X->(∀p,onB o p=true->b p=true/\D p (u p) X)->∀K:Act->World->Prop,(∀v c a,R X a->M c (Mz b i) (upd u i v) a->D i v a->K ((F u).put o.dst v) a)->o.wp P (F u) X K Q)(t:Zw P l M R F D (i+1) rest):Zw P l M R F D i (o::rest):=⟨⟨d,f,h⟩,t⟩
theorem Zw.con{M:Γ->(Nat->Bool)->(Nat->Value)->World->Prop}(h:∀(Q:Exit->Act->World->Prop) (g:Γ) (b:Nat->Bool) (u:Nat->Value) (X:World),G9 l b->b i=false->M g b u X->(∀p,onB o p=true->b p=true/\D p (u p) X)->∀K:Act->World->Prop,(∀v c a,R X a->M c (Mz b i) (upd u i v) a->D i v a->K ((F u).put o.dst v) a)->o.wp P (F u) X K Q)(t:Zw P l M R F D (i+1) rest)(d:o.guard=none:=by rfl)(f:∀u v,(F u).put o.dst v=F (upd u i v):=by exact λ_ _=>rfl):Zw P l M R F D i (o::rest):=Zw.cons d f h t
theorem Zw.steps{M:Γ->(Nat->Bool)->(Nat->Value)->World->Prop}(r:∀i v X f,D i v X->R X f->D i v f):
 ∀(m:List Oper) (i:Nat),(∀j,j<m.length->m[j]? = l[i+j]?)->i+m.length=l.length->Zw P l M R F D i m->Xc P (JG l M F D) i m
 | [],i,_,hl,_=>trivial
 | o::m,i,hm,hl,hs=>by
   have J:l[i]? = some o:=by simpa using (hm 0 AE).symm
   refine Xc.cons hs.1.1 (λQ listed a X y O L K z=>?_) (Zw.steps r m (i+1) (λj c=>by have:=hm (j+1) AG;simpa [DZ,Eo 1 j] using this) (by simp only[AY] at hl;omega) hs.2);obtain⟨u,g,rfl,N,s,A,hd⟩:=y;obtain⟨h,I⟩:=Zu4 O;have q:∀p,onB o p=true->listed.getD p false=true:=λp b=>by
    obtain⟨e,G,E,rfl⟩:=Zyf.1 b;exact L e G E
   have H:(λj=>(listed.setIfInBounds i true).getD j false)=Mz (λj=>listed.getD j false) i:=by
    funext j;rw[Uj h];rfl
   refine hs.1.2.2 Q g _ u X s I A (λp b=>⟨q p b,hd p (q p b)⟩) K λv x f C B S=>?_;refine z _ _ ⟨upd u i v,x,hs.1.2.1 u v,by simpa using N,?_,by rw[H];exact B,λj c=>?_⟩
   ·intro j T n c p b;show (listed.setIfInBounds i true).getD p false=true;have k:(listed.setIfInBounds i true).getD j false=true:=c;rw[Uj h] at k ⊢;by_cases t:p=i
    ·rw[if_pos t]
    rw[if_neg t];by_cases d:j=i
    ·subst d;rw[J] at n;obtain rfl:=BH n;exact q p b
    rw[if_neg d] at k;exact s j T n k p b
   rw[Uj h] at c;unfold upd;by_cases d:j=i
   ·subst d;rw[if_pos rfl];exact S
   rw[if_neg d] at c ⊢;exact r j _ X f (hd j c) C
theorem wp_region_free{a:Act}{w:World}(M:Γ->(Nat->Bool)->(Nat->Value)->World->Prop)(R:World->World->Prop)(g0:Γ)(F:(Nat->Value)->Act)(u0:List Value)(D:List (Value->World->Prop))(s:P.follows .mixedOrders=true)(p:Zvw l.toArray=true)(m:a=F λi=>u0.getD i undef)(f:M g0 (λ_=>false) (λi=>u0.getD i undef) w.drew)(c:Zwm R D)(t:Zw P l M R F (atL D) 0 l)(q:∀g b u X,(∀i,i<l.length->b i=true)->M g b u X->(∀i,i<l.length->atL D i (u i) X)->Q .normal (F u) X):(Code.region id l.toArray true).wp P Q a w:=by
 have v:(λi=>(Array.replicate l.length false).getD i false)=λ_:Nat=>false:=by
  funext i;simp[Array.getD]
 refine H6 (JG l M F (atL D)) s p ⟨_,g0,m,AE,λi o _ h=>?_,by rw[v];exact f,λi h=>?_⟩ ?_ λlisted a X d n=>?_
 ·simp[Array.getD] at h
 ·simp[Array.getD] at h
 ·exact Zw.steps c.at l 0 (λj _=>by rw[BF]) (BF _) t
 obtain⟨u,g,rfl,x,_,k,hd⟩:=d;have hi:∀i,i<l.length->listed.getD i false=true:=λi hi=>by
  have h1:=n i hi;have r:i<listed.size:=AA
  simp only[Array.getD,dif_pos r] at h1 ⊢;exact h1
 exact q g _ u X hi k λi h=>hd i (hi i h)
theorem Zyv(g:backA l=true)(m:∀i o,l.toArray[i]? = some o->∀(listed:Array Bool) (a:Act) (w:World),J listed a w->listed.getD i true=false->(∀e∈o.after,Region.binds .any e=true->listed.getD e.on false=true)->
   ∀K:Act->World->Prop,(∀c w',J (listed.setIfInBounds i true) c w'->K c w')->if Region.wanted o (yielded l.toArray a.tmps) then o.wp P a w K Q else K (a.put o.dst undef) w)(j:∀(listed:Array Bool) (a:Act) (w:World),J listed a w->(∀i,i<l.length->listed.getD i true=true)->Q .normal a w):
 ∀(fuel:Nat) (listed:Array Bool) (a:Act) (w:World),leftN l.toArray.size listed<=fuel->J listed a w->wpAny P .any l.toArray Q fuel listed a w
 | 0,listed,a,w,hl,hJ=>by
   have d:Region.ready .any l.toArray listed=[]:=by
    rw[List.eq_nil_iff_forall_not_mem];intro i hi;obtain⟨f,o,b,_⟩:=mem_ready.1 hi;have:=F6 (n:=l.toArray.size) (Array.getElem?_eq_some_iff.1 b).1 f;omega
   exact⟨d,j listed a w hJ (Zzk g d)⟩
 | fuel+1,listed,a,w,hl,hJ=>by
   refine⟨λd=>j listed a w hJ (Zzk g d),λi hi=>?_⟩;obtain⟨f,o,b,p⟩:=mem_ready.1 hi;have q:=F6 (n:=l.toArray.size) (Array.getElem?_eq_some_iff.1 b).1 f;have h1:=m i o b listed a w hJ f p (wpAny P .any l.toArray Q fuel (listed.setIfInBounds i true)) (λc w' h=>Zyv g m j fuel _ c w' AA h);unfold wpOp;simp only[b];split
   ·rename_i k;rw[if_pos k] at h1;exact .inl h1
   rename_i k;rw[if_neg k] at h1;exact h1
theorem wp_region_invA{a:Act}{w:World}(J:Array Bool->Act->World->Prop)(m:P.follows .mixedOrders=true)(g:backA l=true)(h0:J (Array.replicate l.length false) a w.drew)(c:Xc P J 0 l)(j:∀(listed:Array Bool) (a:Act) (w:World),J listed a w->(∀i,i<l.length->listed.getD i true=true)->Q .normal a w):(Code.region id l.toArray true).wp P Q a w:=by
 have c:=c.inv (ops:=l.toArray) (Q:=Q);refine wp_region_any m ?_;refine Zyv g (λi o n listed a w b q p K f=>?_) (λlisted a w b h=>j listed a w b h) _ _ _ _ ?_ (by simpa using h0)
 ·have:=Xw.at (k:=i) c (by simpa using n) listed a w b (by rw[BF];exact q) p K (λd w' h=>f d w' (by rw[BF] at h;exact h));exact this
 exact BC (List.length_filter_le _ _) AE
theorem Yi{a:Act}{w:World}(M:Γ->(Nat->Bool)->(Nat->Value)->World->Prop)(R:World->World->Prop)(g0:Γ)(F:(Nat->Value)->Act)(u0:List Value)(D:List (Value->World->Prop))(s:P.follows .mixedOrders=true)(p:backA l=true)(m:a=F λi=>u0.getD i undef)(f:M g0 (λ_=>false) (λi=>u0.getD i undef) w.drew)(c:Zwm R D)(t:Zw P l M R F (atL D) 0 l)(q:∀g b u X,(∀i,i<l.length->b i=true)->M g b u X->(∀i,i<l.length->atL D i (u i) X)->Q .normal (F u) X):(Code.region id l.toArray true).wp P Q a w:=by
 have v:(λi=>(Array.replicate l.length false).getD i false)=λ_:Nat=>false:=by
  funext i;simp[Array.getD]
 refine wp_region_invA (JG l M F (atL D)) s p ⟨_,g0,m,AE,λi o _ h=>?_,by rw[v];exact f,λi h=>?_⟩ ?_ λlisted a X d n=>?_
 ·simp[Array.getD] at h
 ·simp[Array.getD] at h
 ·exact Zw.steps c.at l 0 (λj _=>by rw[BF]) (BF _) t
 obtain⟨u,g,rfl,x,_,k,hd⟩:=d;have hi:∀i,i<l.length->listed.getD i false=true:=λi hi=>by
  have h1:=n i hi;have r:i<listed.size:=AA
  simp only[Array.getD,dif_pos r] at h1 ⊢;exact h1
 exact q g _ u X hi k λi h=>hd i (hi i h)
end
section
variable {W0:World} {k:BkH} {h:GH} {G:Gr} {S':Nat->Prop} {w:World} {gR:Nat} {b:Nat->Bool} {u:Nat->Value} {X:World}
variable {P:Program} {w:World}
theorem Nk{a:Act}(D:o.guard=none)(s x:Operand)(t:TypeId)(F:o.op = .call { callee := .builtin .append,args:=#[s,x],argTypes:=#[t,t] })(base:Nat)(bytes:Nat)(L:P.underlying t=some (.slice 3))(hi:(P.info? 3).map (λi=>(i.zero,i.size,i.bytes))=some (some (.int .i64 0),1,bytes))(A:Option Addr)(n c:Nat)(xs:List Int)(J:a.eval s = .slice A n c)(G:M4 w base A n c xs)(y:Int)(M:a.eval x = .slice (some ⟨w,0,none⟩) 1 1)(q:n+1<=maxLen)(B:(n+1)*bytes<=140737488355328)(z:base<=w.heap.size)(h:∀d f w',M4 w' base d (n+1) f (xs++[y])->(w.alloc (.cells #[.int .i64 y] 3)).grownBy w' (Value.slice A n c).ownBlock->(∀b,(Value.slice d (n+1) f).ownBlock=some b->b<w.heap.size->(Value.slice A n c).ownBlock=some b)->
   wpList P ops Q rest (a.put o.dst (.slice d (n+1) f)) w'):wpList P ops Q (o::rest) a (w.alloc (.cells #[.int .i64 y] 3)):=by
 have g:=Zy w (.cells #[.int .i64 y] 3);have H:M4 (w.alloc (.cells #[.int .i64 y] 3)) base A n c xs:=G.off (S:=λ_=>False) (Off.of_below g) λ_ _ h=>h;have C:∀(j:Nat) (u:Value),(ints .i64 [y])[j]? = some u->(w.alloc (.cells #[.int .i64 y] 3)).cell? ((⟨w,0,none⟩:Addr).add j)=some u:=λj u k=>by
  rcases j with _ | j
  ·rw[show (⟨w,0,none⟩:Addr).add 0=⟨w,0,none⟩ from rfl,cell_of_row _ w _ _ _ _ (heap_alloc_new w _)];exact k
  cases k
 obtain⟨d,f,w',I,l,m,p⟩:=run_appendR (P:=P) base t o.type bytes L hi A n c xs H ⟨w,0,none⟩ 1 1 [y] rfl AC C q B (BC z g.size);refine wpList_plain D λK r=>?_;unfold Oper.wp execOp;simp only[F,resolve,invoke,builtin,Sem.run_bind,Sem.run_pure,Result.andThen_ok,List.map_toArray,CU,List.map_nil,J,M,I];exact r _ _ (h d f w' l m λb v E=>p b v (AK E g.size))
end
section
variable {W0:World} {k:BkH} {h:GH} {G:Gr} {S':Nat->Prop} {w:World} {gR:Nat} {b:Nat->Bool} {u:Nat->Value} {X:World}
theorem UnL.ex{G:Gr}(g:Xq G):∀(l:List Int) (n r:Nat),(∀(d:Nat) (s:Int) (m k:Nat),l[d]? = some s->s<0->m<=n->k+Uy (Zj G) (l.drop (d+1))<=m->(m=n->∀(p:Nat) q,p<d->l[p]? = some q->Xg (Zj G) q=true)->∀q,q<Zv G s k->∃t,UnT G (Zp s) k q t)->r<Zx (Zv G) l n->∃t,UnL G l n r t
 | [],n,r,_,h=>by
   unfold Zx at h;split at h
   ·rename_i h0;subst h0;obtain rfl:r=0:=AA
    exact⟨[],.nil⟩
   ·omega
 | s::l,n,r,hT,h=>by
   rw[<-Jn] at h;obtain⟨k,v,O,rfl,x⟩:=Zwn h;have f:0<Zx (Zv G) l (n-k):=by
    rcases BY (Zx (Zv G) l (n-k)) with h0 | h0
    ·rw[h0,Nat.mul_zero] at x;omega
    exact h0
   have o:0<Zv G s k:=by
    rcases BY (Zv G s k) with h0 | h0
    ·rw[h0,Nat.zero_mul] at x;omega
    exact h0
   have R:Uy (Zj G) l<=n-k:=by
    rcases BD (n-k) (Uy (Zj G) l) with h1 | h1
    ·rw[Kn (λs h=>Jw g h) h1] at f;omega
    exact h1
   have J:v % Zx (Zv G) l (n-k)<Zx (Zv G) l (n-k):=Nat.mod_lt _ f;have b:v / Zx (Zv G) l (n-k)<Zv G s k:=by rw[Nat.div_lt_iff_lt_mul f];exact x
   obtain⟨B,c⟩:=UnL.ex g l (n-k) (v % Zx (Zv G) l (n-k)) (λd q m j hd u S F E L I=>hT (d+1) q m j (by simpa using hd) u AA (by simpa using F) (λN p A y z=>by
    cases p with
    | zero =>
      obtain rfl:s=A:=by simpa using z
      obtain rfl:k=0:=AA
      exact Jw g AA
    | succ p=>exact E AA p A AA (by simpa using z)) L I) J
   have a:=Nat.div_add_mod v (Zx (Zv G) l (n-k));by_cases h0:0<=s
   ·rw[Xb G h0] at b o;have H:k=1:=by
     unfold K0 at o;split at o
     ·assumption
     omega
    subst H;have u:v / Zx (Zv G) l (n-1)=0:=by have C:K0 1=1:=rfl;rw[C] at b;exact Nat.lt_one_iff.1 b
    rw[u,Nat.mul_zero,BF] at a;have D:Yv (Zv G) s l n 1=0:=by
     rw[Xy,Ug,Xb G h0];simp[K0]
    rw[a] at c;refine⟨B,?_⟩;have:=UnL.term h0 c;rw[show n-1+1=n by omega] at this;rw[D,BF];exact this
   obtain⟨M,h1⟩:=hT 0 s n k rfl AA (AJ _) (by simpa using (AA:k+Uy (Zj G) l<=n)) (λ_ p q y=>absurd y AA) _ b;have:=UnL.non' AA h1 c;rw[show k+(n-k)=n by omega] at this;refine⟨M++B,?_⟩;rw[Ef] at a;rw[DZ,a] at this;exact this
theorem UnT.ex{G:Gr}(a:Xq G):∀(m n:Nat) (s:Int),s<0->Zp s<G.nons.length->mu G n s=m->∀r,r<Zv G s n->∃t,UnT G (Zp s) n r t:=by
 intro m
 induction m using Nat.strongRecOn with
 | ind m A =>
   intro n s h0 o D r f;rw[Uu a h0 o,<-Qj (Zv G) (AJ G.rules.length)] at f;obtain⟨i,x,v,hi,g,h,rfl,z⟩:=Zv0 f;have c:=AN g;obtain⟨t,y⟩:=UnL.ex a x.right n v (λd q E k hd b p l j B u=>by
    have C:=Zvg a c hd b p j l (s:=s) h.symm;refine A _ AA k q b (InG.rule a.fits c q (AN hd) b) rfl B u) z
   exact⟨i::t,i,x,v,t,g,h,y,rfl,rfl⟩
end
section
variable {W0:World} {k:BkH} {h:GH} {G:Gr} {S':Nat->Prop} {w:World} {gR:Nat} {b:Nat->Bool} {u:Nat->Value} {X:World}
variable {W0:World} {k:BkH} {h:GH} {G:Gr} {mk:Nat} {cs:List Nat} {S:Nat->Prop} {A:Option Addr} {c:Nat} {W:World}
theorem Me.off{a:World}(M:Me W0 k h G mk cs S A c W)(C:Wd W0 k h G S a)(b:Off k.map W a):Me W0 k h G mk cs S A c a :=
 ⟨C,b.blk M.box (M.bk.not_map M.box),M.row.off b λg f=>by
   obtain⟨_,_,q,d⟩:=M.row.blk f;exact M.bk.not_map d,M.own,λq d=>AK (M.lt q d) b.size,M.low,M.few⟩
theorem Me.below{a:World}(M:Me W0 k h G mk cs S A c W)(b:Below W W a):Me W0 k h G mk cs S A c a:=M.off (M.bk.below b) (Off.of_below b)
end
theorem Bb{G:Gr}(g:G.right=true)(q:0<=n/\n<=10)(h0:(Z2 G n).2=0)(b:0<val (Z2 G n).1):
 Xp G=true/\Zxy (Zi G)/\Xq (Zi G)/\Zv (Zi G) (-1-(Zi G).start) n.toNat<big/\val (Z2 G n).1=Zv (Zi G) (-1-(Zi G).start) n.toNat/\(Z2 G n).1=limbs (Zv (Zi G) (-1-(Zi G).start) n.toNat):=by
 have k:¬(G.right=false\/n<0\/10<n):=by
  rintro (h | h | h)
  ·rw[g] at h;cases h
  ·omega
  omega
 unfold Z2 at h0 b ⊢;rw[if_neg k] at h0 b ⊢;by_cases a:Xp G=false
 ·rw[if_pos a] at b;exact absurd b AC
 rw[if_neg a] at h0 b ⊢;have a:Xp G=true:=by simpa using a
 obtain⟨m,rfl⟩:∃m:Nat,n=(m:Int):=⟨n.toNat,AA⟩;obtain⟨c,o,p,l,d⟩:=Zt8 h0;have f:=Zua c o p l;have j:=(Dx g a c.cyc).1;rw[N7] at d f;rw[Km d] at f;rw[f];simp only[DC];exact⟨a,c,j,d,Yd _,trivial⟩
theorem Kg(G:Gr)(n:Int):Lim (Z2 G n).1/\((Z2 G n).2=0->Zm (Z2 G n).1=true):=by
 have h0:Zm ([]:List Nat)=true:=AC
 have a:∀x,Lim (Xm x).1/\Zm (Xm x).1=true:=λx=>by
  rcases F8 x with ⟨b,e⟩ | ⟨b,e⟩
  ·rw[e];exact⟨Z9 x,Ym x b⟩
  rw[e];exact⟨Lim.nil,h0⟩
 unfold Z2 Wi;split
 ·exact⟨Lim.nil,λ_=>h0⟩
 split
 ·exact⟨Lim.nil,λ_=>h0⟩
 split
 ·exact⟨Lim.nil,λ_=>h0⟩
 split
 ·exact⟨Lim.nil,λ_=>h0⟩
 exact⟨(a _).1,λ_=>(a _).2⟩
theorem Qp.no{G:Gr}{b:List Nat}{w:World}(c:Below w w w')(h:V9 G n b [] a):Qp G n b w (.returned (.tuple #[.slice none 0 0,.int .i64 (a:Int)])) w' :=
 ⟨c,[],a,none,0,rfl,Za.nil _ _ _ _ AA,h⟩
theorem un1:UnT Xt (Zp (-1)) 1 0 [1]:=by
 rw[non22];exact⟨1,⟨0,[0],0⟩,0,[],rfl,rfl,.term AC .nil,by rw[M0.1],rfl⟩
theorem ul1:UnL Xt [-1] 1 0 [1]:=UnL.cat AC un1 .nil rfl M0.2.1
theorem un2:UnT Xt (Zp (-1)) 2 0 [0,1,1]:=by
 rw[non22];exact UnT.top (x:=⟨0,[-1,-1],-1⟩) rfl rfl (UnL.cat AC un1 ul1 rfl M0.2.2.1)
theorem ul2:UnL Xt [-1] 2 0 [0,1,1]:=UnL.cat AC un2 .nil rfl M0.2.2.2.1
theorem un22:UnT Xt 0 3 0 [0,1,0,1,1]/\UnT Xt 0 3 1 [0,0,1,1,1] :=
 ⟨UnT.top (x:=⟨0,[-1,-1],-1⟩) rfl rfl (UnL.cat AC un1 ul2 rfl M0.2.2.2.2.1),UnT.top (x:=⟨0,[-1,-1],-1⟩) rfl rfl (UnL.cat AC un2 ul1 rfl M0.2.2.2.2.2)⟩
theorem Zqc(xs a:List Nat):Lim (Mw xs a).1:=by
 unfold Mw;split
 ·split;exact Lim.nil;exact Z9 _
 exact Lim.nil
theorem maskP_lim(k:Nat)(a:List Nat)(c:Lim a)(i:Nat):Lim (Zrx k a i):=by
 induction i with
 | zero=>exact Lim.nil
 | succ i b =>
   refine b.append (Lim.mk ?_ Lim.nil);have:=c.getD i;split
   ·exact En (Nat.mod_le _ _) this
   exact this
theorem Zqs(k:Nat)(a:List Nat)(b:Lim a)(h0:0<a.length)(h1:32*(a.length-1)<k)(c:k<=32*a.length):
 Xx (Zrx k a a.length)=oneOf k a:=by
 rw[Vg _ (maskP_lim k a b _),maskP_val k a b h0 h1 c];rfl
theorem draw_number(U:Option Addr)(n c1:Nat)(d:List Nat)(k:Nat)(w:World)(h1:Zq .u32 w U n c1 d)(lw:Lim d)(h0:0<d.length)(an:32*(d.length-1)<k)(ao:k<=32*d.length)(hn:d.length<=40):
 Calls prog 45 #[.slice U n c1,.int .i64 (k:Int)] w (Bq w (oneOf k d)):=by
 obtain rfl:=h1.len;have C:=LH (Zqs k d lw h0 an ao);obtain⟨l,R⟩:∃l,d.length=l+1:=⟨d.length-1,AA⟩;obtain⟨y,N⟩:∃y,Hid (d[l]? = some y):=⟨_,LH (AM AA)⟩;have ab:=lw.of_get N.out;obtain⟨r,Y⟩:∃r,r=k % 32:=⟨_,rfl⟩;have a8:(k:Int) % 32=(r:Int):=AA
 have Z:r<32:=AA
 by_cases ba:0<r
 ·have s:=LH (mask_last k d l y R AA AA N.out);have W:k-32*l=r:=AA
  rw[W] at s;clear W Y;have aq:(d.length:Int)-1=(l:Int):=AA
  have aa:=shl_hand r Z;have aw:2 ^ r<4294967296:=by
   have:=Nat.pow_lt_pow_right (a:=2) AC Z;simpa using this
  have ax:0<2 ^ r:=Nat.two_pow_pos r;have O:bits .and .u32 (y:Int) ((2 ^ r-1:Nat):Int)=((y % 2 ^ r:Nat):Int):=by
   rw[u32_and_nat _ _ ab AA,Nat.and_two_pow_sub_one_eq_mod]
  have V:((2 ^ r:Nat):Int)-1=((2 ^ r-1:Nat):Int):=AA
  have X:(2:Int) ^ r=((2 ^ r:Nat):Int):=AE
  have av:y % 2 ^ r<4294967296:=En (Nat.mod_le _ _) ab;obtain⟨m,ae⟩:∃m,Hid (y % 2 ^ r=m):=⟨_,LH rfl⟩;rw[ae.out] at O av s;obtain⟨L,af⟩:∃L,Hid (2 ^ r=L):=⟨_,LH rfl⟩;rw[af.out] at aa aw ax O V X;have b1:(0:Int)<=(l:Int):=AA
  have b2:(l:Int)<(d.length:Int):=AA
  have a3:IntKind.i64.wrap ((d.length:Int)-1)=(l:Int):=by rw[aq];exact i64w AA AA
  have a2:IntKind.u32.wrap ((L:Int)-1)=((L-1:Nat):Int):=by rw[IntKind.wrap_u32];omega
  have ar:l<d.length:=AA
  clear R;go_enter func45,ntmps45;go_wp2_with (go_at_call 102;(with_reducible refine (Zw4 _ _ _ _ _ h1 AA).mono ?_);rintro e w1⟨A,c,rfl,D,ah⟩);obtain⟨g,u,rfl,hg,a7,Hu,aj,al⟩:=Gh D (j:=l) ar;have hu:u = .int .u32 (y:Int):=by
   obtain⟨x',J,rfl⟩:=Zrz _ _ _ _ Hu.out;rw[N.out] at J;injection J with J;rw[J]
  subst hu;go_wp2;go_region
  have h:=Lt D l (.int .u32 (m:Int));rw[<-Be,<-s.out] at h;have h:Zq .u32 (w1.setCell ⟨g,l,none⟩ (.int .u32 (m:Int))).drew (some ⟨g,0,none⟩) d.length c (Zrx k d d.length):=Zq.drew (Yl h);have G:Below w w (w1.setCell ⟨g,l,none⟩ (.int .u32 (m:Int))).drew:=(ah.setCell hg _).drew;generalize (w1.setCell ⟨g,l,none⟩ (.int .u32 (m:Int))).drew=wr at *;clear aj al D s a3 a2 O aa X V;obtain⟨xs,M⟩:∃xs,Hid (Zrx k d d.length=xs):=⟨_,LH rfl⟩;rw[M.out] at h C;have I:=h.len;have F:=LH I;clear I;have ak:=h.cap;go_wp2;go_loop [5] (λv=>∃q:Nat,q<=d.length/\v = .slice (some ⟨g,0,none⟩) q c/\Xx xs=Xx (xs.take q)) (λv=>lenOf v)
  case atStart=>exact⟨d.length,AJ _,rfl,by rw[AR (by have:=F.out;omega)]⟩
  obtain⟨q,T,rfl,hrel⟩:=hrel;have t:=LH hrel;clear hrel;by_cases au:0<q
  ·obtain⟨b,a4,x,z,hb,Hx,P⟩:=h.get (j:=q-1) AA;injection z with z;injection z with e1 e2;subst e1;subst e2;try rw[BF] at P
   have S:=F.out;have ay:q<=xs.length:=AA
   clear S;by_cases B:x=0
   ·subst B;go_wp2;go_round
    case rel =>
     refine⟨q-1,AA,AF,?_⟩;rw[t.out];have:=Zws xs (q-1) AA (by simp[Hx.out]);rw[<-this,show q-1+1=q from by omega]
    simp[lenOf];omega
   have ht:((x:Int)==0)=false:=by simp[B]
   have f:=Zxp xs (q-1) AA (by simpa [Hx.out] using B);rw[show q-1+1=q from by omega,<-t.out] at f;have H:(Xx xs).length=q:=by rw[f];simp;omega
   have p:=LH f;have E:=LH H;clear f H;go_wp2;go_ret;rw[<-C.out];refine⟨(some ⟨g,0,none⟩),c,by rw[E.out];rfl,?_,G⟩;rw[E.out,p.out];exact h.take q c T AA AA
  have f:Xx xs=[]:=by rw[t.out,show q=0 from by omega];simp[Xx]
  have p:=LH f;clear f;obtain rfl:q=0:=AA
  go_wp2;go_ret;rw[<-C.out,p.out];exact⟨_,_,rfl,Zq.nil _ _ _ _ AA,G⟩
 have az:r=0:=AA
 have ap:k=32*d.length:=AA
 have s:Hid (Zrx k d d.length=d):=LH (by rw[Zr2 k d d.length (AJ _) AA,List.take_length]);subst az;clear Y R ap;go_enter func45,ntmps45;go_wp2_with (go_at_call 102;(with_reducible refine (Zw4 _ _ _ _ _ h1 AA).mono ?_);rintro e wr⟨A,c,rfl,D,G⟩);have h:Zq .u32 wr A d.length c (Zrx k d d.length):=by rw[s.out];exact Yl D
 obtain⟨g,o,_,rfl,_⟩:=h.get (j:=0) h0;clear D s;obtain⟨xs,M⟩:∃xs,Hid (Zrx k d d.length=xs):=⟨_,LH rfl⟩;rw[M.out] at h C;have I:=h.len;have F:=LH I;clear I;have ak:=h.cap;go_wp2;go_loop [5] (λv=>∃q:Nat,q<=d.length/\v = .slice (some ⟨g,o,none⟩) q c/\Xx xs=Xx (xs.take q)) (λv=>lenOf v)
 case atStart=>exact⟨d.length,AJ _,rfl,by rw[AR (by have:=F.out;omega)]⟩
 obtain⟨q,T,rfl,hrel⟩:=hrel;have t:=LH hrel;clear hrel;by_cases au:0<q
 ·obtain⟨b,a4,x,z,hb,Hx,P⟩:=h.get (j:=q-1) AA;injection z with z;injection z with e1 e2;subst e1;subst e2;try rw[BF] at P
  have S:=F.out;have ay:q<=xs.length:=AA
  clear S;by_cases B:x=0
  ·subst B;go_wp2;go_round
   case rel =>
    refine⟨q-1,AA,AF,?_⟩;rw[t.out];have:=Zws xs (q-1) AA (by simp[Hx.out]);rw[<-this,show q-1+1=q from by omega]
   simp[lenOf];omega
  have ht:((x:Int)==0)=false:=by simp[B]
  have f:=Zxp xs (q-1) AA (by simpa [Hx.out] using B);rw[show q-1+1=q from by omega,<-t.out] at f;have H:(Xx xs).length=q:=by rw[f];simp;omega
  have p:=LH f;have E:=LH H;clear f H;go_wp2;go_ret;rw[<-C.out];refine⟨(some ⟨g,o,none⟩),c,by rw[E.out];rfl,?_,G⟩;rw[E.out,p.out];exact h.take q c T AA AA
 have f:Xx xs=[]:=by rw[t.out,show q=0 from by omega];simp[Xx]
 have p:=LH f;clear f;obtain rfl:q=0:=AA
 go_wp2;go_ret;rw[<-C.out,p.out];exact⟨_,_,rfl,Zq.nil _ _ _ _ AA,G⟩
theorem Zrn.nil(w:World):Zrn w none 0 0 []:=⟨rfl,AJ _,AA,λh=>AA⟩
theorem Zqz{W:World}{A:Option Addr}{n c:Nat}(h:Zq .u32 W A n c d)(hi:i<=n):∃At:Option Addr,
 (∀w:World,(Instr.sliceAt 27 (.slice A n c) (some (.int .i64 (i:Int))) none none).run prog w = .ok (.slice At (n-i) (c-i)) w)/\Zq .u32 W At (n-i) (c-i) (d.drop i):=by
 have g:=h.len;have r:=h.cap;rcases BY n with rfl | l
 ·obtain rfl:i=0:=AA
  have m:d=[]:=BJ g;subst m;refine⟨A,λw=>?_,Zq.nil _ _ _ _ AA⟩;rcases A with _ | a
  ·go_simp
  by_cases p:c=0
  ·go_simp
  have q:¬((c:Int)<0):=AA
  go_simp
 obtain⟨b,k,s,rfl,o,_,_⟩:=h.get (j:=0) l;refine⟨if c=i then some ⟨b,k,none⟩ else some ⟨b,k+i,none⟩,λw=>?_,?_⟩
 ·have t:¬((n:Int)<(i:Int)):=AA
  go_simp
 by_cases f:c=i
 ·rw[if_pos f];obtain rfl:i=n:=AA
  rw[Nat.sub_self,<-g,List.drop_length];exact Zq.nil _ _ _ _ AA
 rw[if_neg f];have:=h.part i (n-i) (c-i) AA AA AA;rwa [AR (by rw[BT];omega)] at this
theorem step_appendV{P:Program}{w:World}{a:Act}{E:Prop}(V:o.guard=none)(s x:Operand)(t:TypeId)(Y:o.op = .call { callee := .builtin .append,args:=#[s,x],argTypes:=#[t,t] })(base:Nat)(e:TypeId)(z:Value)(bytes:Nat)(J:P.underlying t=some (.slice e))(hi:(P.info? e).map (λi=>(i.zero,i.size,i.bytes))=some (some z,1,bytes))(af:z.cells.size=1)(ag:∀u∈z.cells.toList,∀k x,u≠Value.int k x)(A:Option Addr)(n c:Nat)(xs:List Value)(Z:a.eval s = .slice A n c)(H:w.ownsRow base e 1 (.slice A n c) n xs)(X:∀g,(Value.slice A n c).ownBlock=some g->Qf w g)(ae:∀u∈xs,∀k x,u≠Value.int k x)(f:Addr)(c2:Nat)(u:Value)(hx:a.eval x = .slice (some f) 1 c2)(U:w.cell? f=some u)(h1:u.oneCell'=true)(hu:∀k x,u≠Value.int k x)(C:n+1<=9223372036854775807)(S:(n+1)*bytes<=140737488355328)(T:base<=w.heap.size)(h:∀d l w',w'.ownsRow base e 1 (.slice d (n+1) l) (n+1) (xs++[u])->w.grownBy w' (Value.slice A n c).ownBlock->(∀b,(Value.slice d (n+1) l).ownBlock=some b->b<w.heap.size->(Value.slice A n c).ownBlock=some b)->
   (∀b,(Value.slice d (n+1) l).ownBlock=some b->Qf w' b)->K (a.put o.dst (.slice d (n+1) l)) w'):if Region.wanted o (yielded ops a.tmps)=true then Oper.wp P o a w K Q else E:=by
 have hw:Region.wanted o (yielded ops a.tmps)=true:=by simp[Region.wanted,V]
 rw[if_pos hw];obtain⟨i,G,L,r,D⟩:=info_parts hi;have F:∀j v,[u][j]? = some v->w.cell? (f.add j)=some v:=by
  intro j v m;have W:j=0:=by have:=(AO.1 m).1;simp at this;omega
  subst W;obtain rfl:u=v:=by simpa using m
  have M:f.add 0=f:=by unfold Addr.add;simp
  rw[M];exact U
 have y:∀v∈[u],v.oneCell'=true:=λv m=>by rw[BP.1 m];exact h1
 obtain⟨v',w',I,B,N,_,p⟩:=run_append_own_at (P:=P) w base t o.type e i z 1 bytes J G L r D af AC _ n xs H f 1 c2 [u] rfl F y (by simpa [maxLen] using C) S T;have R:=Zr7 (P:=P) w base t o.type e i z J G L A n c xs (by rw[r];exact H) f 1 c2 AC [u] (by rw[r];rfl) F y C (by rw[D];exact S) X (λv m=>by rw[BP.1 m];exact hu) ae ag I;obtain⟨d,l,rfl⟩:=M3 B;have O:∀b,(Value.slice d (n+1) l).ownBlock=some b->b<w.heap.size->(Value.slice A n c).ownBlock=some b:=by
  intro b q ah;rcases p with p | p
  ·rw[<-p];exact q
  rw[p] at q;injection q with q;omega
 unfold Oper.wp execOp;simp only[Y,resolve,invoke,builtin,Sem.run_bind,Sem.run_pure,Result.andThen_ok,List.map_toArray,CU,List.map_nil,Z,hx,I];exact h d l w' B N O R
section
open Go.RowKit Go.Shelf
attribute [local go_sem] Oper.semAt_some
open Go.RowKit Go.Shelf
theorem Boxed.below{W a:World}{t:TypeId}(h:Boxed W B t v)(b:Below W W a):Boxed a B t v:=(b.block B h.lt).trans h
end
section
open Go.RowKit Go.Shelf
attribute [local go_sem] Oper.semAt_some
open Go.RowKit Go.Shelf
open Go.RowKit Go.Shelf
attribute [local go_sem] Oper.semAt_some
theorem L3.used{G:Gr}{a c:List Nat}{k:Nat}(h:L3 G n a c k 0):k<=a.length:=by
 rcases h with ⟨_,_,rfl,_⟩ | ⟨_,_,_,rfl,_⟩ | ⟨_,_,_,_,rfl,_⟩ | ⟨_,_,h0,_,_,_,⟨_,_,rfl,_⟩ | ⟨_,_,rfl,_⟩⟩
 ·exact AS _
 ·exact AS _
 ·exact AS _
 ·exact AS _
 rcases Zr0 (Z2 G n).1 a (Kg G n).1 with ⟨e,d,h⟩ | ⟨t,m,h,_,_,_,b⟩
 ·rw[h];exact AS _
 rw[h];exact b
theorem Zrm.no{G:Gr}{b:List Nat}{w:World}(c:Below w w w')(h:L3 G n b [] 0 a):Zrm G n b w (.returned (.tuple #[.slice none 0 0,.int .i64 0,.int .i64 (a:Int)])) w' :=
 ⟨c,[],0,a,none,0,rfl,Za.nil _ _ _ _ AA,h⟩
theorem Zr6:Yv (Zv Xt) (-1) [-1] 4 3=3/\Yv (Zv Xt) (-1) [-1] 4 1=0/\Zx (Zv Xt) [-1] 1=1/\Yv (Zv Xt) (-1) [] 3 3=0:=by
 have a:Zv Xt (-1) 0=0:=(Ztt (k:=0) AC).trans AB;have b:Zv Xt (-1) 1=1:=(Ztt (k:=1) AC).trans AB;have c:Zv Xt (-1) 2=1:=(Ztt (k:=2) AC).trans AB;have d:Zv Xt (-1) 3=2:=(Ztt (k:=3) AC).trans AB;exact ahead24 a b c d (by funext n;exact Xb Xt AC n)
theorem un3:UnT Xt (Zp (-1)) 3 0 [0,1,0,1,1]:=by rw[non22];exact un22.1
theorem un3':UnT Xt (Zp (-1)) 3 1 [0,0,1,1,1]:=by rw[non22];exact un22.2
theorem ul3:UnL Xt [-1] 3 0 [0,1,0,1,1]:=UnL.cat AC un3 .nil rfl Zr6.2.2.2
theorem ul4:UnL Xt [-1,-1] 4 4 ([0,0,1,1,1]++[1]):=by
 have h:=UnL.non' (s:=-1) AC un3' ul1;have e:=Zr6.1;have a:=Zr6.2.2.1;refine h.to rfl ?_ rfl;rw[show (3+1:Nat)=4 from rfl,e,a]
theorem un24:UnT Xt 0 4 0 [0,1,0,1,0,1,1]/\UnT Xt 0 4 4 [0,0,0,1,1,1,1] :=
 ⟨UnT.top (x:=⟨0,[-1,-1],-1⟩) rfl rfl (UnL.cat AC un1 ul3 rfl Zr6.2.1),UnT.top (x:=⟨0,[-1,-1],-1⟩) rfl rfl ul4⟩
theorem unr24{b:List Nat}{v:Nat}(k:Zm b=true)(f:val b=v)(o:v<5)(l:UnT Xt 0 4 v t)(n:t.length<=300){g:List Nat}{c:Nat}(h:V9 Xt 4 b g c):g=t.map (Yr Xt)/\c=0:=by
 have e:Z2 Xt 4=([5],0):=v22A;rcases h with ⟨a,_⟩ | ⟨_,a,_⟩ | ⟨_,_,a,_⟩ | ⟨_,_,_,p,d,h⟩
 ·exact absurd a (nobad24 k)
 ·exact absurd (by rw[e]) a
 ·rw[e,f] at a;have m:val [5]=5:=rfl;have a:val [5]<=v:=a;omega
 rw[start22,Fh,f] at d;obtain rfl:=l.one Zxe d;rcases h with ⟨h1,_⟩ | ⟨_,h1,j⟩
 ·omega
 exact⟨h1,j⟩
theorem u24A{b:List Nat}(h:V9 Xt 4 [4] b a):b=[0,0,0,1,1,1,1]/\a=0:=by
 obtain⟨rfl,rfl⟩:=unr24 (v:=4) AC rfl AC un24.2 AC h;exact⟨by simp only[CU,List.map_nil,kept22],rfl⟩
theorem u24B{b:List Nat}(h:V9 Xt 4 [] b a):b=[0,1,0,1,0,1,1]/\a=0:=by
 obtain⟨rfl,rfl⟩:=unr24 (v:=0) AC rfl AC un24.1 AC h;exact⟨by simp only[CU,List.map_nil,kept22],rfl⟩
theorem smp24{f z:List Nat}{u:Nat}(b:X5 [5] f=(z,u,0))(n:∀{o:List Nat} {e:Nat},V9 Xt 4 z o e->o=t/\e=0){k c:Nat}(h:L3 Xt 4 f d k c):d=t/\k=u/\c=0:=by
 have e:Z2 Xt 4=([5],0):=v22A;unfold L3 at h;rw[e] at h;simp only[] at h;rw[b] at h;rcases h with ⟨a,_⟩ | ⟨_,a,_⟩ | ⟨_,_,a,_⟩ | ⟨_,_,_,o,p,m,hd⟩
 ·exact absurd rfl a
 ·cases a
 ·exact absurd rfl a
 obtain⟨rfl,rfl⟩:=n m;rcases hd with ⟨h1,_⟩ | ⟨_,g,j,l⟩
 ·exact absurd rfl h1
 exact⟨g,j,l⟩
theorem s24A{b:List Nat}{k:Nat}(h:L3 Xt 4 [7,6,4,1] b k a):b=[0,0,0,1,1,1,1]/\k=3/\a=0:=smp24 AB u24A h
theorem s24B{k c:Nat}(h:L3 Xt 4 [7,6] d k c):d=[]/\k=0/\c=12:=by
 have e:Z2 Xt 4=([5],0):=v22A;have b:X5 [5] [7,6]=([],0,12):=AB
 unfold L3 at h;rw[e] at h;simp only[] at h;rw[b] at h;rcases h with ⟨a,_⟩ | ⟨_,a,_⟩ | ⟨_,_,_,h1,f,g⟩ | ⟨_,_,a,_⟩
 ·exact absurd rfl a
 ·cases a
 ·exact⟨h1,f,g⟩
 cases a
theorem s24C{c:List Nat}{k b:Nat}(h:L3 Xt 0 [] c k b):c=[]/\k=0/\b=9:=by
 have e:Z2 Xt ((0:Nat):Int)=([],0):=(cnt22A (m:=0) AC).trans AB;have e:Z2 Xt 0=([],0):=e;unfold L3 at h;rw[e] at h;simp only[] at h;rcases h with ⟨a,_⟩ | ⟨_,_,h1,d,f⟩ | ⟨_,a,_⟩ | ⟨_,a,_⟩
 ·exact absurd rfl a
 ·exact⟨h1,d,f⟩
 ·exact absurd rfl a
 exact absurd rfl a
theorem s24D{b:List Nat}{k:Nat}(h:L3 Xt 4 [7,4,0] b k a):b=[0,0,0,1,1,1,1]/\k=2/\a=0:=smp24 AB u24A h
theorem s24E{b:List Nat}{k:Nat}(h:L3 Xt 4 [0] b k a):b=[0,1,0,1,0,1,1]/\k=1/\a=0:=smp24 AB u24B h
theorem som24{l:List (List Nat)}{d:Nat}(h:Zro Xt 4 2 [7,4,0] l a d):l=[[0,0,0,1,1,1,1],[0,1,0,1,0,1,1]]/\a=3/\d=0:=by
 have one:∀{l:List (List Nat)} {a:Nat},SomGo Xt 4 [7,4,0] 1 l a->l=[[0,0,0,1,1,1,1]]/\a=2:=by
  intro l a h;cases h with
  | step h1 c =>
    cases h1;obtain⟨rfl,rfl,_⟩:=s24D c;exact⟨rfl,rfl⟩
 rcases h with ⟨x,_⟩ | ⟨_,b,rfl⟩ | ⟨_,_,_,i,k,j,m,n,hi,b,g,f⟩
 ·omega
 ·have b:SomGo Xt 4 [7,4,0] 2 l a:=b;cases b with
  | step h1 c =>
    obtain⟨rfl,rfl⟩:=one h1;obtain⟨rfl,rfl,_⟩:=s24E c;exact⟨rfl,rfl,rfl⟩
 have hi:i<2:=hi;rcases (AA:i=0\/i=1) with rfl | rfl
 ·cases b;exact absurd (s24D g).2.2 f
 obtain⟨rfl,rfl⟩:=one b;exact absurd (s24E g).2.2 f
end
theorem Zrk.below{w:World}{A:Option Addr}{n c:Nat}{d:List Value}(h:Zrk w B A n c d f)(a:Below w w w'):Zrk w' B A n c d f :=
 ⟨B7 h.own a,λg b=>(h.noInt g b).same (a.block g (h.own.lt g b).2),h.len,λj xs o=>by
   obtain⟨k,l,h1,m⟩:=h.row j xs o;exact⟨k,l,h1,m.below a⟩⟩
theorem Kd(A:Option Addr)(n c N:Nat)(tab:Nat->Nat->Nat)(Al:Option Addr)(W:Nat)(l:List Int)(m:Nat)(w:World)(hT:Zyq w A n c N tab)(hm:m<n)(h0:m<=100)(hN:N<=1000)(hl:Za .i64 w Al l.length W l)(hx:l.length<=100)(hs:∀s∈l,-(N:Int)<=s/\s<=1000):
 Calls prog 63 #[.slice A n c,.slice Al l.length W,.int .i64 (m:Int)] w (RetV w (Zx (Yk tab) l m)):=by
 have ht:=hl.cap;have HT:=LH hT;have Hl:=LH hl;have Hs:=LH hs;clear hT hl hs;have dl:=Zy w (.cells #[.slice none 0 0,.bool false] 110);have d5:=Blk.new w 110 #[.slice none 0 0,.bool false];have e1:(w.alloc (.cells #[.slice none 0 0,.bool false] 110)).heap.size=w.heap.size+1:=Zl _ _;have a8:=Zzv (m+1) AA;have h5:IntKind.i64.wrap ((m:Int)+1)=(m:Int)+1:=Cc _ AA;rw[show ((m+1:Nat):Int)=(m:Int)+1 from rfl] at a8;go_enter func63,ntmps63;go_upto_region 1 with fail;generalize w.alloc (.cells #[.slice none 0 0,.bool false] 110)=W1 at *;go_upto_region 2 with fail;have hR:=Vp.new W1 110 (m+1);have C:=Zy W1 (.cells (zeroCells (m+1)) 110);have d6:=Blk.ext d5 C;have dm:=Zz dl C;generalize W1.alloc (.cells (zeroCells (m+1)) 110)=W2 at *;rw[e1] at hR;clear d5 dl C;go_wp2_with fail;refine (Zsl W2).mono ?_;rintro e W3⟨bk,A3,m3,c3,b3,rfl,fd⟩;have al:=hR.below bk;have d7:=Blk.ext d6 bk;have b1:=Zz dm bk;obtain⟨Az,nz,cz,bz,q0,q1,_⟩:=al.get (j:=0) AE;rw[Nat.zero_mul] at q0 q1;rw[BF] at q1;have bx:=al.frozen 0;have b0:=al.frozen 1;have gb:=al.lt;obtain⟨b9,du⟩:=al.put (j:=0) AE fd;rw[Nat.zero_mul,BF] at b9 du;have hO:=(Off.of_set W3 (w.heap.size+1) 0 (.slice A3 m3 c3)).trans (Off.of_set _ (w.heap.size+1) 1 (.bool b3)) λ_ _ h=>h;have d8:=hO.blk d7 AA;have dn:Below w w _:=b1.trans (hO.is_below b1.size λk hk=>AA);have dz:Vp ((W3.setCell ⟨w+1,0,none⟩ (.slice A3 m3 c3)).setCell ⟨w+1,1,none⟩ (.bool b3)) (w.heap.size+1) 110 (Gs (Yk tab) (l.drop l.length) m):=by rw[List.drop_length,forR_nil];exact b9
 clear hR d6 dm bk al d7 b1 fd du b9 a8 e1;go_upto_region 3 with fail;generalize (W3.setCell ⟨w+1,0,none⟩ (.slice A3 m3 c3)).setCell ⟨w+1,1,none⟩ (.bool b3)=W4 at *;have fl:=LH dz;have fm:=LH d8;have fi:=LH dn;have h6:IntKind.i64.wrap ((l.length:Int)-1)=(l.length:Int)-1:=Cc _ AA;clear dz d8 dn hO q0 q1 bx b0 gb;go_wp2_with fail;go_loopw [7,8] (λv i wr=>∃(q y:Nat),q<=l.length/\i = .int .i64 ((q:Int)-1)/\v = .slice (some ⟨y,0,none⟩) (m+1) (m+1)/\w.heap.size<y/\Hid (Vp wr y 110 (Gs (Yk tab) (l.drop q) m))/\Hid (Below w w wr)/\Hid (Blk wr w 110 #[.slice none 0 0,.bool false])) (λ_ i _=>(intOf i+1).toNat)
 case atStart=>exact⟨l.length,w.heap.size+1,AJ _,rfl,rfl,Em _,fl,fi,fm⟩
 obtain⟨q,y,hq,rfl,rfl,hu,HR,HB,O⟩:=hrel;by_cases gg:q=0
 case pos =>
  subst gg;have hn:¬(((0:Nat):Int)-1 ≥ 0):=AA
  obtain⟨A5,m5,c5,b5,q0,q1,ce⟩:=HR.get (j:=m) (by rw[Zwg];omega);rw[Ed,Zy6 _ _ (AJ m)] at ce;have x0:wr.cell? ⟨w,0,none⟩=some (.slice none 0 0):=O.cell 0;have x1:wr.cell? ⟨w,1,none⟩=some (.bool false):=O.cell 1;have f0:=O.frozen 0;have f1:=O.frozen 1;have xl:=O.lt;have gl:=HR.lt;have fs:=LH ce;have bo:=LH (Vb O HB (AJ _) A5 m5 c5 b5);clear ce;go_wp2_with fail;refine AW (AX (p:=6) AB _ _ w 110 #[.slice A5 m5 c5,.bool b5] (0,0) _ rfl bo.2.1 underlying110 rfl AB) rfl ?_;exact⟨bo.1,_,_,_,_,rfl,fs.kept bo.2.2⟩
 obtain⟨z,rfl⟩:∃z,q=z+1:=⟨q-1,AA⟩;have hi:((z+1:Nat):Int)-1=(z:Int):=AA
 rw[hi];have a8:=Zzv (m+1) AA;rw[show ((m+1:Nat):Int)=(m:Int)+1 from rfl] at a8;have cb:=Hl.below HB;obtain⟨lb,I,t,rfl,cc,de,dj⟩:=cb.get (j:=z) AA;have gi:=Hs t (AN de);have fp:Hid (l.drop z=t::l.drop (z+1)):=LH (by
  have h1:=(AO.1 de);rw[Ec h1.1,h1.2])
 generalize ga:l.drop (z+1)=x at *;have dd:=LH (HT.below HB);clear ga hi;go_upto_region 7 with fail;have d0:=Vp.new wr 110 (m+1);have aa:=Zy wr (.cells (zeroCells (m+1)) 110);have dy:=HR.below aa;have d9:=Blk.ext O aa;have dp:=Zz HB aa;have fa:=HR.lt;have h8:=O.lt;have g7:=LH (cb.below aa);have g6:=LH (dd.below aa);have e2:(wr.alloc (.cells (zeroCells (m+1)) 110)).heap.size=wr.heap.size+1:=Zl _ _;have fw:(wr.alloc (.cells (zeroCells (m+1)) 110)).cell? ⟨lb,I+z,none⟩=some (.int .i64 t):=(aa.cell (p:=⟨lb,I+z,none⟩) cc).trans dj;generalize f9:wr.heap.size=r at *;generalize wr.alloc (.cells (zeroCells (m+1)) 110)=WX at *;have db:Hid (Vp WX r 110 (D5 (Yk tab) t (Zx (Yk tab) x) m 0)):=LH (by rw[rowF_zero];exact d0);have fk:=LH dy;have fo:=LH d9;have bh:=LH dp;have hw:lb<r:=cc;clear d0 aa dy d9 dp HR HB O dd cb a8 dj cc f9;go_wp2_with fail;go_loopw [10] (λi wz=>∃K:Nat,K<=m+1/\i = .int .i64 (K:Int)/\Hid (Vp wz r 110 (D5 (Yk tab) t (Zx (Yk tab) x) m K))/\Hid (Vp wz y 110 (Gs (Yk tab) x m))/\Hid (Off (λk=>k=r) WX wz)) (λi _=>m+1-(intOf i).toNat)
 case atStart=>exact⟨0,AS _,rfl,db,fk,LH (Off.refl _ _)⟩
 obtain⟨K,hK,rfl,bm,L,E⟩:=hrel;by_cases ho:K<=m
 case neg =>
  obtain rfl:m+1=K:=AA
  have gf:¬(((m+1:Nat):Int)<=(m:Int)):=AA
  have P:Hid (Vp wr r 110 (Gs (Yk tab) (l.drop z) m)):=LH (by rw[fp,<-rowF_done];exact bm);have fj:=LH (bh.trans (E.is_below bh.size λk hk=>AA));have fn:=LH (E.blk fo AA);go_wp2_with fail;go_roundw
  case rel=>exact⟨z,r,AA,AF,rfl,AA,P,fj,fn⟩
  simp[intOf] <;> omega
 have h9:r<WX.heap.size:=AA
 have f2:Zf WX wr:=Zf.of_off E λg hg=>by rw[hg];exact db.noInt
 have d4:Zyq wr A n c N tab:=HT.below (bh.trans (E.is_below bh.size λk hk=>AA));have cT:=Ztn A n c N tab t K wr d4 AA hN AA (λ_=>gi.1);have fx:wr.cell? ⟨lb,I+z,none⟩=some (.int .i64 t):=(DH (a:=⟨lb,I+z,none⟩) (E.keep lb AA AA)).trans fw;have CT:=LH cT;clear d4 cT;go_wp2_with fail;refine CT.out.mono ?_;rintro e W6⟨bl,D,B,F,Y,rfl,cf⟩;have b7:=bm.below bl;have dw:=L.below bl;have dx:=E.trans (Off.of_below (S:=λk=>k=r) bl) λ_ _ h=>h;have a4:=Zy W6 (.cells #[.slice D B F,.bool Y] 110);have dt:=Blk.new W6 110 #[.slice D B F,.bool Y];have b8:=LH (b7.below a4);have f5:=LH (dw.below a4);have f6:=LH (dx.trans (Off.of_below (S:=λk=>k=r) a4) λ_ _ h=>h);have fe:=LH (cf.below a4);have hz:=cf.none_iff;have hv:r<W6.heap.size:=b7.lt;go_upto_region 11 with fail;generalize W6.alloc (.cells #[.slice D B F,.bool Y] 110)=W7 at *;generalize W6.heap.size=H at *;have c9:=LH dt;clear b7 dw dx a4 dt cf bl CT fx bm L E f2;have Hz:=LH hz;have gk:W7.cell? ⟨H,0,none⟩=some (.slice D B F):=c9.cell 0;clear hz gk;go_wp2_with fail;go_loopw [12] (λi wz=>∃M:Nat,K<=M/\M<=m+1/\i = .int .i64 (M:Int)/\Hid (Yk tab t K=0->M=K)/\Hid (Vp wz r 110 (Gx (Yk tab) t (Zx (Yk tab) x) m K M))/\Hid (Vp wz y 110 (Gs (Yk tab) x m))/\Hid (Off (λk=>k=r) W7 wz)) (λi _=>m+1-(intOf i).toNat)
 case atStart=>exact⟨K,AJ _,AA,rfl,LH λ_=>rfl,LH (by rw[Zvo];exact b8),f5,LH (Off.refl _ _)⟩
 obtain⟨M,dv,hM,rfl,ft,V,L,E⟩:=hrel;have ae:=E.blk c9 AA;have x0:wr.cell? ⟨H,0,none⟩=some (.slice D B F):=ae.cell 0;have x1:wr.cell? ⟨H,1,none⟩=some (.bool Y):=ae.cell 1;have xl:=ae.lt;have da:=LH (f6.trans E λ_ _ h=>h);by_cases bj:M<=m
 case neg =>
  obtain rfl:m+1=M:=AA
  have gf:¬(((m+1:Nat):Int)<=(m:Int)):=AA
  have P:Hid (Vp wr r 110 (D5 (Yk tab) t (Zx (Yk tab) x) m (K+1))):=LH (by rw[<-mid_end];exact V);clear ae;go_wp2_with fail;go_roundw
  case rel=>exact⟨K+1,AA,AF,P,L,da⟩
  simp[intOf] <;> omega
 by_cases am:Yk tab t K=0
 case pos =>
  obtain⟨rfl,rfl⟩:=Hz.2 am;obtain rfl:M=K:=ft am;have P:Hid (Vp wr r 110 (D5 (Yk tab) t (Zx (Yk tab) x) m (M+1))):=LH (by rw[mid_skip _ _ am,<-Zvo];exact V);clear ae;go_wp2_with fail;go_roundw
  case rel=>exact⟨M+1,AA,AF,P,L,da⟩
  simp[intOf] <;> omega
 have f7:(Y=true)\/(Y=false/\(0:Int)<(B:Int)):=by
  rcases Y with _ | _
  ·exact .inr ⟨rfl,by have h7:B≠0:=λh=>am (Hz.1 ⟨rfl,h⟩);omega⟩
  exact .inl rfl
 rcases f7 with rfl | ⟨rfl,h3⟩
 case inl =>
  as_aux_lemma =>
   go_upto_region 14 with fail;obtain⟨A1,n1,c1,d1,r0,r1,ag⟩:=V.get (j:=M) (by rw[J2];omega);obtain⟨A2,n2,c2,d2,s0,s1,ah⟩:=L.get (j:=M-K) (by rw[Zwg];omega);rw[mid_get _ _ _ bj] at ag;rw[Zy6 _ _ (AA:M-K<=m)] at ah;have bu:Hid (Z1 wr D B F true (Yk tab t K)):=LH (fe.kept (Zf.of_off E λg hg=>by rw[hg];exact b8.noInt));have bs:=LH ag;have bt:=LH ah;have a7:=V.lt;have a6:=L.lt;have cd:((M:Int)-(K:Int))=((M-K:Nat):Int):=AA
   have gj:IntKind.i64.wrap ((M:Int)-(K:Int))=(M:Int)-(K:Int):=Cc _ AA;have gc:(0:Int)<=(M:Int)-(K:Int):=AA
   have gd:(M:Int)-(K:Int)<(m:Int)+1:=AA
   have ge:((M:Int)-(K:Int)).toNat=M-K:=AA
   have f3:(M:Int)<(m:Int)+1:=AA
   have bn:Hid (Hw (Yk tab) t (Zx (Yk tab) x) (K+1) M=Hw (Yk tab) t (Zx (Yk tab) x) K M+Yk tab t K*Zx (Yk tab) x (M-K)):=Ah _ _ _ dv;clear ag ah cd ae;refine Xh (λX=>Below wr wr X) (λX X'=>Below X X X') (λu=>(⟨(Value.slice A n c::Value.slice (some ⟨lb,I,none⟩) l.length W::Value.int .i64 (m:Int)::undef::undef::undef::Value.pointer (some ⟨w,0,none⟩)::Value.slice (some ⟨y,0,none⟩) (m+1) (m+1)::Value.int .i64 (z:Int)::Value.slice (some ⟨r,0,none⟩) (m+1) (m+1)::Value.int .i64 (K:Int)::Value.pointer (some ⟨H,0,none⟩)::Value.int .i64 (M:Int)::Value.int .i64 (m:Int)::Value.int .i64 ((m:Int)+1)::Value.slice (some ⟨w+1,0,none⟩) (m+1) (m+1)::Value.slice (some ⟨w+1,0,none⟩) (m+1) (m+1)::Value.agg #[Value.slice A3 m3 c3,Value.bool b3]::Value.pointer (some ⟨w+1,0,none⟩)::Value.slice (some ⟨lb,I,none⟩) l.length W::Value.int .i64 (l.length:Int)::Value.int .i64 ((l.length:Int)-1)::Value.int .i64 (z:Int)::Value.bool true::u24::u25::Value.int .i64 (m:Int)::Value.int .i64 ((m:Int)+1)::Value.slice (some ⟨r,0,none⟩) (m+1) (m+1)::Value.int .i64 (K:Int)::Value.int .i64 (m:Int)::Value.bool true::u32::u33::Value.slice A n c::Value.slice (some ⟨lb,I,none⟩) l.length W::Value.int .i64 (z:Int)::Value.pointer (some ⟨lb,I+z,none⟩)::Value.int .i64 t::Value.int .i64 (K:Int)::Value.agg #[Value.slice D B F,Value.bool true]::Value.int .i64 (K:Int)::Value.int .i64 (M:Int)::Value.int .i64 (m:Int)::Value.bool true::Value.bool true::Value.pointer (some ⟨H,1,none⟩)::Value.bool true::Value.bool true::undef::undef::undef::undef::Value.bool true::Value.bool true::u55::u56::u 0::u 1::u 2::u 3::u 4::u 5::u 6::u 7::u 8::u 9::u 10::u 11::u 12::u 13::u 14::u 15::u73::undef::undef::undef::undef::[]).toArray,[]⟩:Act)) [u57,u58,u59,u60,u61,u62,u63,u64,u65,u66,u67,u68,u69,u70,u71,u72] [λv X=>v=Value.slice (some ⟨r,0,none⟩) (m+1) (m+1),λv X=>v=Value.int .i64 (M:Int),λv X=>v=Value.slice (some ⟨r,0,none⟩) (m+1) (m+1),λv X=>v=Value.int .i64 (M:Int),λv X=>v=Value.pointer (some ⟨r,M*2,none⟩),λv X=>v=Value.agg #[Value.slice A1 n1 c1,Value.bool d1],λv X=>v=Value.agg #[Value.slice D B F,Value.bool true],λv X=>v=Value.slice (some ⟨y,0,none⟩) (m+1) (m+1),λv X=>v=Value.int .i64 (M:Int),λv X=>v=Value.int .i64 (K:Int),λv X=>v=Value.int .i64 ((M:Int)-(K:Int)),λv X=>v=Value.pointer (some ⟨y,(M-K)*2,none⟩),λv X=>v=Value.agg #[Value.slice A2 n2 c2,Value.bool d2],λv X=>∃A n c b,v=Value.agg #[Value.slice A n c,Value.bool b]/\Z1 X A n c b (Yk tab t K*Zx (Yk tab) x (M-K)),λv X=>∃A n c b,v=Value.agg #[Value.slice A n c,Value.bool b]/\Z1 X A n c b (Hw (Yk tab) t (Zx (Yk tab) x) (K+1) M),λv X=>v=Value.pointer (some ⟨r,M*2,none⟩)] (λu X=>Vp X r 110 (Gx (Yk tab) t (Zx (Yk tab) x) m K (M+1))/\Vp X y 110 (Gs (Yk tab) x m)/\Off (λk=>k=r) wr X) (l:=[_,_,_,_,_,_,_,_,_,_,_,_,_,_,_,_]) AB AB AB rfl rfl (AL _ _).drew ⟨AI,AI,AI,AI,AI,AI,AI,AI,AI,AI,AI,AI,AI,(λ_ _ _ ⟨A,n,c,b,e,h⟩ hb=>⟨A,n,c,b,e,h.below hb⟩),(λ_ _ _ ⟨A,n,c,b,e,h⟩ hb=>⟨A,n,c,b,e,h.below hb⟩),AI,trivial⟩ ?_ ?_ ?_
   ·refine Zk.con (λQ u X d f KK o=>?_) ?_
    ·go_simp;exact o _ _ d (AL _ _) rfl
    iterate 3
     refine Zk.con (λQ u X d f KK o=>?_) ?_
     ·go_simp;exact o _ _ d (AL _ _) rfl
    refine Zk.con (λQ u X d f KK o=>?_) ?_
    ·have p2:u 2=_:=f 2 rfl;have p3:u 3=_:=f 3 rfl;clear f;rw[p2,p3] at o⊢;go_simp;exact o _ _ d (AL _ _) rfl
    refine Zk.con (λQ u X d f KK o=>?_) ?_
    ·have p4:u 4=_:=f 4 rfl;clear f;rw[p4] at o⊢;have ax:=(d.cell (p:=⟨r,M*2,none⟩) a7).trans r0;have ay:=(d.cell (p:=⟨r,M*2+1,none⟩) a7).trans r1;go_simp;exact o _ _ d (AL _ _) rfl
    refine Zk.con (λQ u X d f KK o=>?_) ?_
    ·have ax:=(d.cell (p:=⟨H,0,none⟩) xl).trans x0;have ay:=(d.cell (p:=⟨H,1,none⟩) xl).trans x1;go_simp;exact o _ _ d (AL _ _) rfl
    iterate 3
     refine Zk.con (λQ u X d f KK o=>?_) ?_
     ·go_simp;exact o _ _ d (AL _ _) rfl
    refine Zk.con (λQ u X d f KK o=>?_) ?_
    ·have p8:u 8=_:=f 8 rfl;have p9:u 9=_:=f 9 rfl;clear f;rw[p8,p9] at o⊢;go_simp;exact o _ _ d (AL _ _) rfl
    refine Zk.con (λQ u X d f KK o=>?_) ?_
    ·have p7:u 7=_:=f 7 rfl;have ck:u 10=_:=f 10 rfl;clear f;rw[p7,ck] at o⊢;go_simp;exact o _ _ d (AL _ _) rfl
    refine Zk.con (λQ u X d f KK o=>?_) ?_
    ·have cm:u 11=_:=f 11 rfl;clear f;rw[cm] at o⊢;have ax:=(d.cell (p:=⟨y,(M-K)*2,none⟩) a6).trans s0;have ay:=(d.cell (p:=⟨y,(M-K)*2+1,none⟩) a6).trans s1;go_simp;exact o _ _ d (AL _ _) rfl
    refine Zk.con (λQ u X d f KK o=>?_) ?_
    ·have p6:u 6=_:=f 6 rfl;have cn:u 12=_:=f 12 rfl;clear f;rw[p6,cn] at o⊢;have ch:=bu.below d;have ci:=bt.below d;go_simp;refine (Gt D B F true _ A2 n2 c2 d2 _ X ch ci).mono ?_;rintro e w2⟨C,Ar,nr,cr,Z,rfl,ai⟩;go_simp;exact o _ _ (Zz d C) C ⟨Ar,nr,cr,Z,rfl,ai⟩
    refine Zk.con (λQ u X d f KK o=>?_) ?_
    ·have p5:u 5=_:=f 5 rfl;obtain⟨Ar,nr,cr,Z,co,ai⟩:=f 13 rfl;clear f;rw[p5] at o⊢;generalize u 13=gr at *;subst co;have cg:=bs.below d;go_simp;refine (Zuc A1 n1 c1 d1 _ Ar nr cr Z _ X cg ai).mono ?_;rintro e w2⟨C,J,ns,cs,ds,rfl,U⟩;rw[<-bn] at U;go_simp;exact o _ _ (Zz d C) C ⟨J,ns,cs,ds,rfl,U⟩
    refine Zk.con (λQ u X d f KK o=>?_) ?_
    ·have p0:u 0=_:=f 0 rfl;have p1:u 1=_:=f 1 rfl;clear f;rw[p0,p1] at o⊢;go_simp;exact o _ _ d (AL _ _) rfl
    exact Zk.nil
   ·intro Q u X d f KK o;obtain⟨J,ns,cs,ds,cp,U⟩:=f 14 AC;have ct:u 15=_:=f 15 AC;clear f;generalize u 14=gs at *;subst cp;generalize u 15=gt at *;subst ct;have G:=V.below d;have ab:=L.below d;obtain⟨Aq,nq,cq,dq,q0,q1,_⟩:=G.get (j:=M) (by rw[J2];omega);have bx:=G.frozen (M*2);have b0:=G.frozen (M*2+1);have gh:=G.lt;have T:=G.put (j:=M) (by rw[J2];omega) U;rw[mid_set _ _ _ bj] at T;have af:Off (λk=>k=r) X ((X.setCell ⟨r,M*2,none⟩ (.slice J ns cs)).setCell ⟨r,M*2+1,none⟩ (.bool ds)):=(Off.of_set X r (M*2) (.slice J ns cs)).trans (Off.of_set _ r (M*2+1) (.bool ds)) λ_ _ h=>h;have R:Vp _ r 110 (Gx (Yk tab) t (Zx (Yk tab) x) m K (M+1))/\Vp _ y 110 (Gs (Yk tab) x m)/\Off (λk=>k=r) wr _:=⟨T.1,ab.kept T.2 (af.keep y ab.lt (Nat.ne_of_lt fa)),(Off.of_below (S:=λk=>k=r) d).trans af λ_ _ h=>h⟩;have P:=LH R;clear R T af G ab;go_simp;exact o (λi=>([u 0,u 1,u 2,u 3,u 4,u 5,u 6,u 7,u 8,u 9,u 10,u 11,u 12,u 13,Value.agg #[Value.slice J ns cs,Value.bool ds],Value.pointer (some ⟨r,M*2,none⟩)]:List Value).getD i undef) _ (P)
   intro u W9 R;obtain⟨g1,g2,g3⟩:=R;have bp:=LH g1;have bq:=LH g2;have br:=LH (E.trans g3 λ_ _ h=>h);clear g1 g2 g3 r0 r1 s0 s1;go_wp2_with fail;go_roundw
   case rel=>exact⟨M+1,AA,AA,AF,LH λh=>absurd h am,bp,bq,br⟩
   simp[intOf] <;> omega
 as_aux_lemma =>
  go_upto_region 14 with fail;have f8:decide (0<B)=true:=by rw[BA];omega
  rw[f8];obtain⟨A1,n1,c1,d1,r0,r1,ag⟩:=V.get (j:=M) (by rw[J2];omega);obtain⟨A2,n2,c2,d2,s0,s1,ah⟩:=L.get (j:=M-K) (by rw[Zwg];omega);rw[mid_get _ _ _ bj] at ag;rw[Zy6 _ _ (AA:M-K<=m)] at ah;have bu:Hid (Z1 wr D B F false (Yk tab t K)):=LH (fe.kept (Zf.of_off E λg hg=>by rw[hg];exact b8.noInt));have bs:=LH ag;have bt:=LH ah;have a7:=V.lt;have a6:=L.lt;have cd:((M:Int)-(K:Int))=((M-K:Nat):Int):=AA
  have gj:IntKind.i64.wrap ((M:Int)-(K:Int))=(M:Int)-(K:Int):=Cc _ AA;have gc:(0:Int)<=(M:Int)-(K:Int):=AA
  have gd:(M:Int)-(K:Int)<(m:Int)+1:=AA
  have ge:((M:Int)-(K:Int)).toNat=M-K:=AA
  have f3:(M:Int)<(m:Int)+1:=AA
  have bn:Hid (Hw (Yk tab) t (Zx (Yk tab) x) (K+1) M=Hw (Yk tab) t (Zx (Yk tab) x) K M+Yk tab t K*Zx (Yk tab) x (M-K)):=Ah _ _ _ dv;clear ag ah cd ae;refine Xh (λX=>Below wr wr X) (λX X'=>Below X X X') (λu=>(⟨(Value.slice A n c::Value.slice (some ⟨lb,I,none⟩) l.length W::Value.int .i64 (m:Int)::undef::undef::undef::Value.pointer (some ⟨w,0,none⟩)::Value.slice (some ⟨y,0,none⟩) (m+1) (m+1)::Value.int .i64 (z:Int)::Value.slice (some ⟨r,0,none⟩) (m+1) (m+1)::Value.int .i64 (K:Int)::Value.pointer (some ⟨H,0,none⟩)::Value.int .i64 (M:Int)::Value.int .i64 (m:Int)::Value.int .i64 ((m:Int)+1)::Value.slice (some ⟨w+1,0,none⟩) (m+1) (m+1)::Value.slice (some ⟨w+1,0,none⟩) (m+1) (m+1)::Value.agg #[Value.slice A3 m3 c3,Value.bool b3]::Value.pointer (some ⟨w+1,0,none⟩)::Value.slice (some ⟨lb,I,none⟩) l.length W::Value.int .i64 (l.length:Int)::Value.int .i64 ((l.length:Int)-1)::Value.int .i64 (z:Int)::Value.bool true::u24::u25::Value.int .i64 (m:Int)::Value.int .i64 ((m:Int)+1)::Value.slice (some ⟨r,0,none⟩) (m+1) (m+1)::Value.int .i64 (K:Int)::Value.int .i64 (m:Int)::Value.bool true::u32::u33::Value.slice A n c::Value.slice (some ⟨lb,I,none⟩) l.length W::Value.int .i64 (z:Int)::Value.pointer (some ⟨lb,I+z,none⟩)::Value.int .i64 t::Value.int .i64 (K:Int)::Value.agg #[Value.slice D B F,Value.bool false]::Value.int .i64 (K:Int)::Value.int .i64 (M:Int)::Value.int .i64 (m:Int)::Value.bool true::Value.bool true::Value.pointer (some ⟨H,1,none⟩)::Value.bool false::Value.bool false::Value.pointer (some ⟨H,0,none⟩)::Value.slice D B F::Value.int .i64 (B:Int)::Value.bool true::Value.bool true::Value.bool true::u55::u56::u 0::u 1::u 2::u 3::u 4::u 5::u 6::u 7::u 8::u 9::u 10::u 11::u 12::u 13::u 14::u 15::u73::undef::undef::undef::undef::[]).toArray,[]⟩:Act)) [u57,u58,u59,u60,u61,u62,u63,u64,u65,u66,u67,u68,u69,u70,u71,u72] [λv X=>v=Value.slice (some ⟨r,0,none⟩) (m+1) (m+1),λv X=>v=Value.int .i64 (M:Int),λv X=>v=Value.slice (some ⟨r,0,none⟩) (m+1) (m+1),λv X=>v=Value.int .i64 (M:Int),λv X=>v=Value.pointer (some ⟨r,M*2,none⟩),λv X=>v=Value.agg #[Value.slice A1 n1 c1,Value.bool d1],λv X=>v=Value.agg #[Value.slice D B F,Value.bool false],λv X=>v=Value.slice (some ⟨y,0,none⟩) (m+1) (m+1),λv X=>v=Value.int .i64 (M:Int),λv X=>v=Value.int .i64 (K:Int),λv X=>v=Value.int .i64 ((M:Int)-(K:Int)),λv X=>v=Value.pointer (some ⟨y,(M-K)*2,none⟩),λv X=>v=Value.agg #[Value.slice A2 n2 c2,Value.bool d2],λv X=>∃A n c b,v=Value.agg #[Value.slice A n c,Value.bool b]/\Z1 X A n c b (Yk tab t K*Zx (Yk tab) x (M-K)),λv X=>∃A n c b,v=Value.agg #[Value.slice A n c,Value.bool b]/\Z1 X A n c b (Hw (Yk tab) t (Zx (Yk tab) x) (K+1) M),λv X=>v=Value.pointer (some ⟨r,M*2,none⟩)] (λu X=>Vp X r 110 (Gx (Yk tab) t (Zx (Yk tab) x) m K (M+1))/\Vp X y 110 (Gs (Yk tab) x m)/\Off (λk=>k=r) wr X) (l:=[_,_,_,_,_,_,_,_,_,_,_,_,_,_,_,_]) AB AB AB rfl rfl (AL _ _).drew ⟨AI,AI,AI,AI,AI,AI,AI,AI,AI,AI,AI,AI,AI,(λ_ _ _ ⟨A,n,c,b,e,h⟩ hb=>⟨A,n,c,b,e,h.below hb⟩),(λ_ _ _ ⟨A,n,c,b,e,h⟩ hb=>⟨A,n,c,b,e,h.below hb⟩),AI,trivial⟩ ?_ ?_ ?_
  ·refine Zk.con (λQ u X d f KK o=>?_) ?_
   ·go_simp;exact o _ _ d (AL _ _) rfl
   iterate 3
    refine Zk.con (λQ u X d f KK o=>?_) ?_
    ·go_simp;exact o _ _ d (AL _ _) rfl
   refine Zk.con (λQ u X d f KK o=>?_) ?_
   ·have p2:u 2=_:=f 2 rfl;have p3:u 3=_:=f 3 rfl;clear f;rw[p2,p3] at o⊢;go_simp;exact o _ _ d (AL _ _) rfl
   refine Zk.con (λQ u X d f KK o=>?_) ?_
   ·have p4:u 4=_:=f 4 rfl;clear f;rw[p4] at o⊢;have ax:=(d.cell (p:=⟨r,M*2,none⟩) a7).trans r0;have ay:=(d.cell (p:=⟨r,M*2+1,none⟩) a7).trans r1;go_simp;exact o _ _ d (AL _ _) rfl
   refine Zk.con (λQ u X d f KK o=>?_) ?_
   ·have ax:=(d.cell (p:=⟨H,0,none⟩) xl).trans x0;have ay:=(d.cell (p:=⟨H,1,none⟩) xl).trans x1;go_simp;exact o _ _ d (AL _ _) rfl
   iterate 3
    refine Zk.con (λQ u X d f KK o=>?_) ?_
    ·go_simp;exact o _ _ d (AL _ _) rfl
   refine Zk.con (λQ u X d f KK o=>?_) ?_
   ·have p8:u 8=_:=f 8 rfl;have p9:u 9=_:=f 9 rfl;clear f;rw[p8,p9] at o⊢;go_simp;exact o _ _ d (AL _ _) rfl
   refine Zk.con (λQ u X d f KK o=>?_) ?_
   ·have p7:u 7=_:=f 7 rfl;have ck:u 10=_:=f 10 rfl;clear f;rw[p7,ck] at o⊢;go_simp;exact o _ _ d (AL _ _) rfl
   refine Zk.con (λQ u X d f KK o=>?_) ?_
   ·have cm:u 11=_:=f 11 rfl;clear f;rw[cm] at o⊢;have ax:=(d.cell (p:=⟨y,(M-K)*2,none⟩) a6).trans s0;have ay:=(d.cell (p:=⟨y,(M-K)*2+1,none⟩) a6).trans s1;go_simp;exact o _ _ d (AL _ _) rfl
   refine Zk.con (λQ u X d f KK o=>?_) ?_
   ·have p6:u 6=_:=f 6 rfl;have cn:u 12=_:=f 12 rfl;clear f;rw[p6,cn] at o⊢;have ch:=bu.below d;have ci:=bt.below d;go_simp;refine (Gt D B F false _ A2 n2 c2 d2 _ X ch ci).mono ?_;rintro e w2⟨C,Ar,nr,cr,Z,rfl,ai⟩;go_simp;exact o _ _ (Zz d C) C ⟨Ar,nr,cr,Z,rfl,ai⟩
   refine Zk.con (λQ u X d f KK o=>?_) ?_
   ·have p5:u 5=_:=f 5 rfl;obtain⟨Ar,nr,cr,Z,co,ai⟩:=f 13 rfl;clear f;rw[p5] at o⊢;generalize u 13=gr at *;subst co;have cg:=bs.below d;go_simp;refine (Zuc A1 n1 c1 d1 _ Ar nr cr Z _ X cg ai).mono ?_;rintro e w2⟨C,J,ns,cs,ds,rfl,U⟩;rw[<-bn] at U;go_simp;exact o _ _ (Zz d C) C ⟨J,ns,cs,ds,rfl,U⟩
   refine Zk.con (λQ u X d f KK o=>?_) ?_
   ·have p0:u 0=_:=f 0 rfl;have p1:u 1=_:=f 1 rfl;clear f;rw[p0,p1] at o⊢;go_simp;exact o _ _ d (AL _ _) rfl
   exact Zk.nil
  ·intro Q u X d f KK o;obtain⟨J,ns,cs,ds,cp,U⟩:=f 14 AC;have ct:u 15=_:=f 15 AC;clear f;generalize u 14=gs at *;subst cp;generalize u 15=gt at *;subst ct;have G:=V.below d;have ab:=L.below d;obtain⟨Aq,nq,cq,dq,q0,q1,_⟩:=G.get (j:=M) (by rw[J2];omega);have bx:=G.frozen (M*2);have b0:=G.frozen (M*2+1);have gh:=G.lt;have T:=G.put (j:=M) (by rw[J2];omega) U;rw[mid_set _ _ _ bj] at T;have af:Off (λk=>k=r) X ((X.setCell ⟨r,M*2,none⟩ (.slice J ns cs)).setCell ⟨r,M*2+1,none⟩ (.bool ds)):=(Off.of_set X r (M*2) (.slice J ns cs)).trans (Off.of_set _ r (M*2+1) (.bool ds)) λ_ _ h=>h;have R:Vp _ r 110 (Gx (Yk tab) t (Zx (Yk tab) x) m K (M+1))/\Vp _ y 110 (Gs (Yk tab) x m)/\Off (λk=>k=r) wr _:=⟨T.1,ab.kept T.2 (af.keep y ab.lt (Nat.ne_of_lt fa)),(Off.of_below (S:=λk=>k=r) d).trans af λ_ _ h=>h⟩;have P:=LH R;clear R T af G ab;go_simp;exact o (λi=>([u 0,u 1,u 2,u 3,u 4,u 5,u 6,u 7,u 8,u 9,u 10,u 11,u 12,u 13,Value.agg #[Value.slice J ns cs,Value.bool ds],Value.pointer (some ⟨r,M*2,none⟩)]:List Value).getD i undef) _ (P)
  intro u W9 R;obtain⟨g1,g2,g3⟩:=R;have bp:=LH g1;have bq:=LH g2;have br:=LH (E.trans g3 λ_ _ h=>h);clear g1 g2 g3 r0 r1 s0 s1;go_wp2_with fail;go_roundw
  case rel=>exact⟨M+1,AA,AA,AF,LH λh=>absurd h am,bp,bq,br⟩
  simp[intOf] <;> omega
section
open Go.ChangeShapes Go.WideShapes Go.ChangeAt Go.RowKit
theorem Nj.ints{k:IntKind}{w:World}{a:Option Addr}{len cap:Nat}{c:List Int}(h:Nj k w a len cap c):
 ∃xs:List Int,Za k w a len cap xs/\∀x∈xs,(Lit.int k x).wf=true:=by
 rcases h with ⟨rfl,rfl,rfl,rfl⟩ | ⟨x,rfl,p,q,A,l,t⟩
 ·exact⟨[],Za.nil _ _ _ _ AE,λx u=>by cases u⟩
 have g:(c.take len).length=len:=by rw[BS];omega
 have o:∀j,j<len->(c.take len)[j]? = some (c.getD j 0):=λj d=>by
  rw[El,if_pos d,AP,AM AA];rfl
 refine⟨c.take len,⟨?_,p,by simpa [maxLen] using q,λr=>?_⟩,λz v=>t z (List.mem_of_mem_take v)⟩
 ·rw[Y9,g]
 rw[Y9,g] at r;obtain⟨b,f,y⟩:=x;have h0:=l 0 AA;have s:y=none:=by simpa [Addr.add] using World.cell?_spot h0
 subst s;have n:w.cell? ⟨b,f,none⟩=some (.int k (c.getD 0 0)):=by simpa [Addr.add] using h0
 refine⟨b,f,rfl,Zyg n,λj d=>?_⟩;rw[Y9,g] at d;have m:=l j AA;have e:(⟨b,f,none⟩:Addr).add j=⟨b,f+j,none⟩:=by
  unfold Addr.add;split
  ·rename_i h0;subst h0;rfl
  rfl
 rw[e] at m;rw[m];simp only[Go.Proofs.YtaagompdgiobeaaGreatDoor.ints,BB,o j d,Ek]
end
section
open Go.ChangeShapes Go.WideShapes Go.ChangeAt Go.RowKit
open Go.ChangeShapes Go.WideShapes Go.ChangeAt Go.RowKit
open Go.ChangeShapes Go.WideShapes Go.ChangeAt Go.RowKit Go.Lib Go.Deep
open Go.ChangeShapes Go.WideShapes Go.ChangeAt Go.RowKit Go.Lib Go.Deep
variable {H:Type} {enc:TypeId × Value->H} {w:World} {base:Nat} {held:Bool}
theorem open_intsG{x:DataW H × List MemPlace}(h:DataW.trod enc prog w base (λ_=>true) held fuel 30 [v]=some x):
 ∃A n c f,v = .slice A n c/\Za .i64 w A n c f/\∀z∈f,U3 z:=by
 rcases open_ints underlying30 underlying3 AB h with ⟨b,_⟩ | ⟨a,len,cap,f,b,_,l,m,d,_,j,p⟩
 ·simp at b;exact⟨none,0,0,[],b,Za.nil _ _ _ _ AA,λz d=>by cases d⟩
 simp at b;obtain⟨xs,g,o⟩:=Nj.ints (k := .i64) (w:=w) (.inr ⟨a,rfl,l,m,by simpa using d,j,p⟩:Nj .i64 w (some a) len cap f);exact⟨some a,len,cap,xs,b,g,λz d=>bounds_i64 (o z d)⟩
theorem open_strsG{x:DataW H × List MemPlace}(h:DataW.trod enc prog w base (λ_=>true) held fuel 23 [v]=some x):
 ∃A n c ss,v = .slice A n c/\Js w A n c ss:=by
 rcases open_strings underlying23 underlying9 AB h with ⟨b,_⟩ | ⟨a,l,c,ss,b,_,f,g,j,_,d,_⟩
 ·simp at b;exact⟨none,0,0,[],b,Sl.nil _ _ _ AC⟩
 simp at b;exact⟨some a,l,c,_,b,Js.of_row f g (by simpa using j) d⟩
theorem open_rules{x:DataW H × List MemPlace}(h:DataW.trod enc prog w base (λ_=>true) held fuel 24 [v]=some x):
 ∃A n c E,v = .slice A n c/\Dv w A n c E/\∀r∈E,∀s∈r.right,U3 s:=by
 rcases open_slice underlying24 h with ⟨g,_⟩ | ⟨a,len,cap,m,n,D,X,g,_,J,L,M,_,P⟩
 ·simp at g;exact⟨none,0,0,[],g,⟨rfl,AJ _,AA,λh=>AA⟩,λt d=>by cases d⟩
 simp at g;have Z:len<=m:=by rw[M];split <;> omega
 have each:∀i,∃r:Rul,i<len->(w.cell? (a.add (i*3))=some (.int .i64 r.left)/\(∃Ar cr,w.cell? (a.add (i*3+1))=some (.slice Ar r.right.length cr)/\Za .i64 w Ar r.right.length cr r.right)/\w.cell? (a.add (i*3+2))=some (.int .i64 r.prec)/\∀s∈r.right,U3 s):=λi=>by
  by_cases hi:i<len
  ·obtain⟨Y,h1,I⟩:=P i AA;have u:prog.cellsOf 60=3:=AB
   rw[u] at h1;obtain⟨v0,v1,v2,y0,y1,y2,k,S,T,U,g0,F,G⟩:=elem3 underlying60 u rfl rfl rfl AB AB AB h1 I;obtain⟨n1,y,_,_⟩:=DataW.trod_int underlying3 g0;obtain⟨Ar,nr,cr,W,rfl,l,O⟩:=open_intsG F;obtain⟨n2,z,_,_⟩:=DataW.trod_int underlying3 G;simp at y z;subst y z;obtain rfl:=l.len;exact⟨⟨n1,W,n2⟩,λ_=>⟨S,⟨Ar,cr,T,l⟩,U,O⟩⟩
  exact⟨⟨0,[],0⟩,λh=>absurd h hi⟩
 obtain⟨f,q⟩:=Classical.axiomOfChoice each;refine⟨some a,len,cap,(List.range len).map f,g,⟨AE,J,by simpa [maxLen] using L,λh0=>?_⟩,λt d=>?_⟩
 ·obtain⟨b,R,V⟩:=a;have p:=(q 0 h0).1;have N:V=none:=by simpa [Addr.add] using World.cell?_spot p
  subst N;rw[Bi] at p;refine⟨b,R,rfl,by have:=Zyg p;simpa using this,λj t d=>?_⟩;rw[BB] at d;have o:j<len:=by
   rcases BD j len with h | h
   ·exact h
   simp[BE (show (List.range len).length<=j by simpa using h)] at d
  simp[o] at d;subst d;obtain⟨p0,⟨Ar,cr,B,l⟩,C,_⟩:=q j o;rw[Bi] at p0 B C;exact⟨Ar,cr,p0,by rw[DZ];exact B,by rw[DZ];exact C,l⟩
 obtain⟨j,o,rfl⟩:=CW.1 d;exact (q j (BQ.1 o)).2.2.2
end
