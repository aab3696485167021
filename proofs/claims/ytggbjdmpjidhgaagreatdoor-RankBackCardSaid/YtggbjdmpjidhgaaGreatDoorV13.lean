/- reading, plainly: the rules of a text, as they are written; the grammar that they make. -/
import Derived.Test.YtggbjdmpjidhgaaGreatDoorV09
import Derived.Test.YtggbjdmpjidhgaaGreatDoorV10
import Derived.Test.YtggbjdmpjidhgaaGreatDoorV11
set_option linter.all false
set_option maxHeartbeats 1500000
set_option maxRecDepth 100000
namespace Go.Proofs.YtggbjdmpjidhgaaGreatDoor
open Go.RowKit Go.Proofs.Tryz
variable{w w' l f:World}{p q xs:List Nat}{h:GH}{G:Gr}{c n m o:Nat}{d g j A:Option Addr}{s:Value}{a:Nat × Nat}{N:List Bool}{t e:TypeId}{r:List (Value × Nat)}{S:Nat->Prop}{tab:Nat->Nat->Nat}{cs:Array Value}
theorem Wk.below{p B:Nat}(k:Wk w p B h G)(a:Below w w w'):Wk w' p B h G:=by
 obtain⟨cs,d,g⟩:=k.r3;exact⟨k.blk.ext a,Yq k.r1 λb _ _ c=>a.block b c,Yq k.r2 λb _ _ c=>a.block b c,
  ⟨cs,Yq d λb _ _ c=>a.block b c,g.keep a.size λk j f=>⟨a.block k j,f⟩⟩,k.d12,k.d13,k.d23,k.st,k.wf,k.b1,k.b2,k.b3⟩
theorem V6.below{p B:Nat}{c:GH}(t:V6 w w' p h c)(k:Wk w p B h G):Below p w w':=by
 refine⟨t.os,t.tape,t.output,t.size,λb f=>t.keep b (Nat.lt_trans f k.lt) ?_⟩;rintro (a | a | a | a)
 ·omega
 ·have:=(k.r1.lt b a).1;omega
 ·have:=(k.r2.lt b a).1;omega
 obtain⟨cs,d,_⟩:=k.r3;have:=(d.lt b a).1;omega
theorem Wc.below{p:Nat}{ts:List Tk}(h:Wc w p ts)(a:Below w w w'):Wc w' p ts:=by
 obtain⟨d,A,c,x,y,g,j,b,f⟩:=h;exact⟨d,A,c,x,y,g,j,b.ext a,f.below a⟩
theorem tr_reach1(r:Rul)(Ar:Option Addr)(cr g x d n:Nat)(N P:List Bool)(w:World)(I:Za .i64 w Ar r.right.length cr r.right)(D:Z8 w g N)(V:Z8 w x P)(H:w.cell? ⟨d,0,none⟩=some (.slice (some ⟨x,0,none⟩) n n))(hn:N.length=n)(ax:P.length=n)(aw:n<=1000)(hl:0<=r.left/\r.left<(n:Int))(J:∀s∈r.right,-(n:Int)<=s/\s<=1000)(a3:r.right.length<=1000):
 Calls prog 169 #[.agg #[.int .i64 r.left,.slice Ar r.right.length cr,.int .i64 r.prec],.slice (some ⟨g,0,none⟩) n n,.pointer (some ⟨d,0,none⟩)] w λe w'=>Below w w w'/\∃A m c,e = .returned (.slice A m c)/\Za .i64 w' A m c (Yp P r N)/\Apart A g:=by
 have a1:g<w.heap.size:=D.lt;have ap:d<w.heap.size:=World.block_lt_of_cell? w ⟨d,0,none⟩ H;have j:=Zy w (.cells #[.int .i64 r.left,.slice Ar r.right.length cr,.int .i64 r.prec] 52);have E:=Fl.new w 52 r.left Ar r.right.length cr r.prec;have ae:=Zty P r.right;obtain⟨a,Z⟩:∃a:Nat,r.left=(a:Int):=⟨r.left.toNat,AA⟩;have aq:a<n:=AA
 have W:(w.alloc (.cells #[.int .i64 r.left,.slice Ar r.right.length cr,.int .i64 r.prec] 52)).cell? ⟨g,a,none⟩=some (.bool (N.getD a false)):=Z8.at (Blk.ext D j) (by rw[hn];exact aq);have ab:(w.alloc (.cells #[.int .i64 r.left,.slice Ar r.right.length cr,.int .i64 r.prec] 52)).cell? ⟨d,0,none⟩=some (.slice (some ⟨x,0,none⟩) n n):=(j.cell (p:=⟨d,0,none⟩) ap).trans H;have f:=λw' (X:Below w w w')=>F7 r.left Ar cr x n r.right r.prec P w' (I.below X) (Blk.ext V X) ax aw J;have ad:Yp P r N=if N.getD a false&&Xj true P r.right then Uq r.right else []:=by unfold Yp Dr;rw[show r.left.toNat=a by omega]
 rw[ae] at f;have C:=LH ad;have S:=LH I;have z:=LH f;have Hs:=LH J;rw[Z] at W ab j E z;clear ad f ae I J D V H hl;rw[Z];go_enter func169,ntmps169;have⟨z5,z0,z1,z2⟩:=E;go_upto_region 1 with fail;generalize w.alloc (.cells #[.int .i64 (a:Int),.slice Ar r.right.length cr,.int .i64 r.prec] 52)=W0 at *;have O:=LH j;have f:=(z.out W0 j).mono λe w' G=>And.intro G.1 (And.intro (Jd G.2).1 (LH (Zz O.out G.2)));have M:=LH f;have a0:=S.out.cap;clear f z j E;generalize N.getD a false=y at *;generalize Xj true P r.right=L at *;rcases (by cases y <;> cases L <;> simp:y=false\/(y=true/\L=false)\/(y=true/\L=true)) with rfl | ⟨rfl,rfl⟩ | ⟨rfl,rfl⟩
 ·go_wp2_with fail;go_ret;exact⟨O.out,none,0,0,rfl,by rw[C.out];exact Za.nil _ _ _ _ AA,λb o h=>by cases h⟩
 ·go_wp2_with (go_at_call 108;(with_reducible refine M.out.mono ?_);rintro e w2⟨rfl,F,B⟩);go_ret;exact⟨B.out,none,0,0,rfl,by rw[C.out];exact Za.nil _ _ _ _ AA,λb o h=>by cases h⟩
 go_wp2_with (go_at_call 108;(with_reducible refine M.out.mono ?_);rintro e w2⟨rfl,F,B⟩;have x1:=(F _ 1 z5).trans z1);have ai:=LH Tryz.infoI64C;clear F x1 z0 z1 z2 z5 W ab;go_loopw [5,23] (λv i wr=>∃(k m c:Nat) (A:Option Addr),v = .slice A m c/\i = .int .i64 (k:Int)/\k<=r.right.length/\m<=k/\Hid (m=(Uq (r.right.take k)).length)/\Hid (wr.ownsRow w 3 1 (.slice A m c) m (ints .i64 (Uq (r.right.take k))))/\Hid (Below w w wr)) (λ_ i _=>r.right.length-(intOf i).toNat)
 case atStart=>exact⟨0,0,0,none,rfl,rfl,AU _,AI _,LH rfl,LH (BJ _ _ _ _),B⟩
 obtain⟨k,m,c,A,rfl,rfl,hk,hm,R,u,q⟩:=hrel;have ao:w.heap.size<=wr.heap.size:=q.out.size;by_cases ar:k<r.right.length
 ·obtain⟨sb,so,s,rfl,a6,T,qs⟩:=(S.out.below q.out).get ar;have a5:=Hs.out s (AL T.out);have l:=Zxl T.out;by_cases U:s<0
  ·have a7:IntKind.i64.wrap (-1-s)=-1-s:=BT _ AA;rw[if_pos U] at l;have t:=LH l;clear l;go_wp2_with (first
    | (at_builtin;refine Ye rfl _ _ 27 rfl w 3 _ 1 8 underlying27 ai.out AC AC A m c (ints .i64 (Uq (r.right.take k))) rfl u.out [.int .i64 (-1-s)] rfl rfl (by simp[Value.oneCell']) AA AA AA ?_;intro A4 c4 w4 ho Y ha
       have aj:=LH ho;have ag:=LH (X6 q.out Y u.out ao);clear ho Y ha))
   go_roundw
   case rel=>exact⟨k+1,m+1,c4,A4,rfl,AF,AA,AA,LH (by rw[t.out,R.out];simp),LH (by rw[t.out,Gj];exact aj.out),ag⟩
   simp[intOf];omega
  rw[if_neg U] at l;have t:=LH l;clear l;go_wp2_with fail;go_roundw
  case rel=>exact⟨k+1,m,c,A,rfl,AF,AA,AA,LH (by rw[t.out];exact R.out),LH (by rw[t.out];exact u.out),q⟩
  simp[intOf];omega
 have Hf:Hid (Za .i64 wr A m c (Yp P r N)):=LH (by
  have:=Yl u.out;rw[AQ AA] at this;rw[C.out];exact this)
 go_wp2_with fail;go_ret;refine⟨q.out,A,m,c,rfl,Hf.out,λb o h=>?_⟩;have:=u.out.lt b (by rw[h];rfl);omega
theorem Ll.start(G:Gr)(a:List Nat):Ll G a (λ_ _=>0) 0 0:=⟨λk b=>AA,λi hi=>by simp at hi,λ_ _=>rfl⟩
theorem Red2.below{d:Nat}(r:Red2 l c d n s G w g m j o p q)(a:Below w w w'):Red2 l c d n s G w' g m j o p q :=
 ⟨r.off.trans (Off.of_below (S:=λk=>k=d\/k=c) a) λ_ _ h=>h,Blk.ext r.tos a,Blk.ext r.out a,Wv r.kept λb _ f=>a.block b f,Wv r.nons λb _ f=>a.block b f⟩
theorem Zyu.below{j l:Value}{c3:Nat}{g:List Rul}(r:Zyu f c j l w d c3 g)(a:Below w w w'):Zyu f c j l w' d c3 g:=by
 obtain⟨cs,h1,m⟩:=r.rules;exact⟨r.off.trans (Off.of_below (S:=λk=>k=c) a) λ_ _ h=>h,Blk.ext r.out a,cs,Wv h1 λb _ p=>a.block b p,m.keep a.size λk o n=>⟨a.block k o,n⟩⟩
def Xp(G:Gr):Bool:=G.right&&(Zt G).getD G.start.toNat false
theorem Zwl.ext{W:World}{a g:Nat}(h:Zwl w a g n N)(d:a<w.heap.size)(c:g<w.heap.size)(b:Below w w W):Zwl W a g n N :=
 ⟨(b.cell (p:=⟨a,0,none⟩) d).trans h.1,λi hi=>(b.cell (p:=⟨g,i,none⟩) c).trans (h.2 i hi)⟩
theorem eqG_yes{A B:Gr}(h1:A.terms=B.terms)(f:A.nons=B.nons)(g:A.rules=B.rules)(h:A.start=B.start):eqG A B=true:=by
 rw[Ztp];obtain⟨a,b,c,d⟩:=A;obtain⟨j,k,l,m⟩:=B;simp only at h1 f g h;rw[h1,f,g,h]
theorem Jc.start(w:World)(B N:Nat)(tab:Nat->Nat->Nat):Jc w B none 0 0 N [] tab:=⟨BJ _ _ _ _,λg h=>(by cases h),List.nodup_nil,λm g h=>by simp at h⟩
theorem tr_cof1(h:GH)(G:Gr)(c:Nat)(s:Int)(w:World)(g:Yf w h G)(j:U3 s)(h1:h.n1<=1000)(d:h.n2<=1000)(k:Y1 w c h G.start):
 Calls prog 45 #[.int .i64 s,.pointer (some ⟨c,0,none⟩)] w λe w'=>e = .returned (.bool (!G.has s))/\Below w w w':=by
 have a:=cf_has h G s w g j h1 d;generalize G.has s=b at *;obtain⟨a1,n1,c1,a2,n2,c2,a3,n3,c3⟩:=h;have⟨z5,z0,z1,z2,z3⟩:=k;simp only[] at z0 z1 z2 z3;have CH:=LH a;clear a;go_enter func45,ntmps45;go_wp2_with fail;(with_reducible refine CH.out.mono ?_);rintro e l⟨rfl,f⟩;go_wp2_with fail;go_ret;exact⟨rfl,f⟩
theorem Zz5.start(w:World)(B:Nat):Zz5 w B none 0 0 [] []:=⟨BJ _ _ _ _,λg h=>(by cases h),rfl,λj xs h=>by simp at h⟩
theorem Fa{H:Gr}(a:H.Fits):-1-H.start<0/\Zp (-1-H.start)=H.start.toNat/\Zp (-1-H.start)<H.nons.length:=by
 have:=a.st;have e:Zp (-1-H.start)=H.start.toNat:=by unfold Zp;omega
 exact⟨AA,e,by rw[e];omega⟩
section
open Go.Maps (Keyed IsMap Tidy)
theorem Dm.below{d:Nat}{q:Value}{o:List Nat}(r:Dm l d c q G w g m j n o p)(a:Below w w w'):Dm l d c q G w' g m j n o p :=
 ⟨r.off.trans (Off.of_below (S:=λk=>k=c\/k=d) a) λ_ _ h=>h,r.num.block (a.block c r.num.lt),Blk.ext r.out a,Wv r.kept λb _ f=>a.block b f,Wv r.nons λb _ f=>a.block b f⟩
theorem Zvs.below{m:World}{d:Nat}{l:Nat}(r:Zvs m d c s G w g n j o p q l)(a:Below w w w'):Zvs m d c s G w' g n j o p q l :=
 ⟨r.off.trans (Off.of_below (S:=λk=>k=c\/k=d) a) λ_ _ h=>h,r.num.block (a.block c r.num.lt),Blk.ext r.out a,Wv r.kept λb _ f=>a.block b f,Wv r.nons λb _ f=>a.block b f⟩
theorem Z1.below{b:Bool}{x:Nat}(h:Z1 w A n c b x)(a:Below w w w'):Z1 w' A n c b x:=⟨h.1,h.2.below a⟩
theorem Vp.get{g:Nat}(h:Vp w g t xs){j:Nat}(d:j<xs.length):∃A n c b,w.cell? ⟨g,j*2,none⟩=some (.slice A n c)/\w.cell? ⟨g,j*2+1,none⟩=some (.bool b)/\Z1 w A n c b (xs.getD j 0):=by
 obtain⟨cs,a,m,l⟩:=h;obtain⟨A,n,c,b,h1,f,k⟩:=l j _ (AM d);refine⟨A,n,c,b,(a.cell _).trans h1,(a.cell _).trans f,?_⟩;rw[AO,AM d];exact k
theorem Vp.below{g:Nat}(h:Vp w g t xs)(a:Below w w w'):Vp w' g t xs:=h.kept (.of_below a) (a.block g h.lt)
theorem Zb(A:Option Addr)(n c:Nat)(xs:List Nat)(w:World)(h:Zq .u32 w A n c xs):
 Calls prog 75 #[.slice A n c] w λe w'=>e = .returned (.bool (Zm xs))/\w=w':=by
 have a:=h.len;have o:=h.cap;by_cases h0:n=0
 ·subst h0;go_enter func75,ntmps75;go_wp2;go_ret;exact⟨by simp[Zm,a],rfl⟩
 obtain⟨b,q,x,rfl,l,Hx,m⟩:=h.get (j:=n-1) AA;have g:=Hx.out;by_cases d:n<=32
 ·have p:((n:Int)==0)=false:=AG
  have f:Zm xs=((x:Int) != 0):=by
   simp[Zm,a,d,h0,g,Zux]
  have k:=LH f;clear f g;go_enter func75,ntmps75;go_wp2;go_ret;rw[k.out];exact⟨rfl,rfl⟩
 go_enter func75,ntmps75;go_wp2;go_ret;exact⟨by simp[Zm,a,d],rfl⟩
theorem Z4(A:Option Addr)(n c:Nat)(xs:List Nat)(w:World)(h:Zq .u32 w A n c xs):
 Calls prog 78 #[.slice A n c] w λe w'=>e = .returned (.bool (Zm xs))/\w=w':=by
 have a:=h.len;have o:=h.cap;by_cases h0:n=0
 ·subst h0;go_enter func78,ntmps78;go_wp2;go_ret;exact⟨by simp[Zm,a],rfl⟩
 obtain⟨b,q,x,rfl,l,Hx,m⟩:=h.get (j:=n-1) AA;have g:=Hx.out;by_cases d:n<=32
 ·have p:((n:Int)==0)=false:=AG
  have f:Zm xs=((x:Int) != 0):=by
   simp[Zm,a,d,h0,g,Zux]
  have k:=LH f;clear f g;go_enter func78,ntmps78;go_wp2;go_ret;rw[k.out];exact⟨rfl,rfl⟩
 go_enter func78,ntmps78;go_wp2;go_ret;exact⟨by simp[Zm,a,d],rfl⟩
theorem Q3(A:Option Addr)(n c:Nat)(xs:List Nat)(w:World)(h:Zq .u32 w A n c xs):
 Calls prog 199 #[.slice A n c] w λe w'=>e = .returned (.slice A (Xx xs).length (Xx xs).length)/\Zq .u32 w A (Xx xs).length (Xx xs).length (Xx xs)/\w=w':=by
 have r:=h.len;have q:=h.cap;go_enter func199,ntmps199;go_wp2;go_loop [3] (λi=>∃k:Nat,k<=n/\i = .int .i64 k/\Xx xs=Xx (xs.take k)) (λi=>(intOf i).toNat)
 case atStart=>exact⟨n,AI _,rfl,by rw[AQ AA]⟩
 obtain⟨k,m,rfl,hrel⟩:=hrel;have f:=LH hrel;clear hrel;by_cases s:0<k
 ·obtain⟨b,u,x,rfl,o,Hx,p⟩:=h.get (j:=k-1) AA;by_cases h0:x=0
  ·subst h0;go_wp2;go_round
   case rel =>
    refine⟨k-1,AA,AF,?_⟩;rw[f.out];have:=Zws xs (k-1) AA (by simp[Hx.out]);rw[<-this,show k-1+1=k from by omega]
   simp[intOf];omega
  have t:((x:Int)==0)=false:=by simp[h0]
  have a:=Zxp xs (k-1) AA (by simpa [Hx.out] using h0);rw[show k-1+1=k from by omega,<-f.out] at a;have g:(Xx xs).length=k:=by rw[a];simp;omega
  have d:=LH a;have l:=LH g;clear a g;go_wp2;go_ret;rw[l.out];refine⟨rfl,?_,rfl⟩;rw[d.out];exact h.take k k m (AI _) AA
 have a:Xx xs=[]:=by rw[f.out,show k=0 from by omega];simp[Xx]
 have d:=LH a;clear a;obtain rfl:k=0:=AA
 go_wp2;go_ret;rw[d.out];exact⟨rfl,Zq.nil _ _ _ _ AE,rfl⟩
theorem Ztv(A:Option Addr)(n c:Nat)(xs:List Nat)(w:World)(h:Zq .u32 w A n c xs)(g:Lim xs):
 Calls prog 207 #[.slice A n c] w (Xr w (Xm (val xs))):=by
 have a:=Zs4 xs g;by_cases d:(Xx xs).length<=32
 ·rw[if_pos d] at a;have b:=LH a;clear a;go_enter func207,ntmps207;go_wp2_with (go_at_call 199;refine (Q3 _ _ _ _ _ h).mono ?_;rintro e w'⟨rfl,f,rfl⟩);go_ret2;rw[<-b.out];exact⟨_,_,rfl,AH,AK _ _⟩
 rw[if_neg d] at a;have b:=LH a;clear a;go_enter func207,ntmps207;go_wp2_with (go_at_call 199;refine (Q3 _ _ _ _ _ h).mono ?_;rintro e w'⟨rfl,f,rfl⟩);go_ret2;rw[<-b.out];exact⟨none,0,rfl,Zq.nil _ _ _ _ AE,AK _ _⟩
theorem nat_of(x:Nat)(w:World)(j:x<18446744073709551616):
 Calls prog 153 #[.int .u64 (x:Int)] w (Bq w (limbs x)):=by
 have h:Lim [x % 4294967296,x / 4294967296]:=Lim.mk AA (Lim.mk AA Lim.nil);have f:val [x % 4294967296,x / 4294967296]=x:=by simp[val];omega
 have a:=Vg _ h;rw[f] at a;have g:=LH a;clear a f;have d:=(Own.new w 49 .u32 [x % 4294967296,x / 4294967296]).nums (n:=2) (c:=2) rfl (AI _) AA;have e:(nums .u32 [x % 4294967296,x / 4294967296]).toArray=#[.int .u32 ((x:Int) % 4294967296),.int .u32 ((x:Int) / 4294967296)]:=by simp[nums]
 rw[e] at d;clear e;go_enter func153,ntmps153;go_wp2_with (go_at_call 199;refine (Q3 _ _ _ _ _ d).mono ?_;rintro e w'⟨rfl,b,rfl⟩);go_ret;rw[g.out] at b ⊢;exact⟨_,_,rfl,b,(AK _ _).alloc (AI _) _⟩
theorem nat_add_ge(l:Option Addr)(n c1:Nat)(xs:List Nat)(o:Option Addr)(m c2:Nat)(ys:List Nat)(w:World)(h1:Zq .u32 w l n c1 xs)(g:Zq .u32 w o m c2 ys)(G:Lim xs)(H:Lim ys)(I:Zm xs=true)(X:Zm ys=true)(ah:m<=n):
 Calls prog 178 #[.slice l n c1,.slice o m c2] w (Xr w (Mu xs ys)):=by
 have E:=h1.len;have F:=g.len;have ai:n<=32:=by simp[Zm] at I;omega
 have t:¬(n<m):=AA
 have u:=Wm (P:=prog) 31 49 .u32 4 underlying31 Tryz.info34 (n+1) AA AA;have ag:∀w:World,(Instr.makeSlice 31 (.int .i64 ((n:Int)+1)) (.int .i64 ((n:Int)+1))).run prog w = .ok (.slice (some ⟨w,0,none⟩) (n+1) (n+1)) (w.alloc (.cells (nums .u32 (List.replicate (n+1) 0)).toArray 49)):=u;clear u;have L:=LH E;have p:=LH F;clear E F;go_enter func178,ntmps178;go_wp2_with (first
  | (go_at_call 75;(with_reducible refine (Zb _ _ _ _ _ h1).mono ?_);rintro e w'⟨rfl,rfl⟩)
  | (go_at_call 75;(with_reducible refine (Zb _ _ _ _ _ g).mono ?_);rintro e w'⟨rfl,rfl⟩))
 go_loopw [7,31] (AddRel w xs ys n w) (λ_ i _=>n-(intOf i).toNat)
 case atStart=>exact⟨0,AU _,rfl,rfl,Own.new _ _ _ _,(AK _ _).alloc (AI _) _⟩
 obtain⟨k,hk,rfl,rfl,a,d⟩:=hrel;have r:=Lg xs ys G H k;have v:=Mq xs ys k;have b:=LH v;clear v;by_cases t:k<n
 ·obtain⟨Y,o1,x,rfl,aa,Hx,ad⟩:=(h1.below d).get (j:=k) t;have C:=G.of_get Hx.out;have T:=a.frozen k;obtain⟨z,N,S⟩:=a.cell (i:=k) (by simp[b.out];omega);by_cases U:k<m
  ·obtain⟨Z,o2,y,rfl,ab,f,ae⟩:=(g.below d).get (j:=k) U;have W:=H.of_get f.out;go_wp2_with (go_at_call 208;(with_reducible refine (Dg x y _ _ C W r).mono ?_);rintro e w'⟨rfl,rfl⟩);go_roundw
   case rel =>
    refine⟨k+1,AA,AF,?_,?_,d.setCell AE _⟩
    ·simp only[V4,Yg Hx.out,Yg f.out];go_num
    have:=a.set_ k ((x+y+(V4 xs ys k).2) % 4294967296);rw[M8 _ k (n+1) _ b.out AA] at this;simpa [V4,Hx.out,f.out] using this
   simp[intOf];omega
  have q:=LH (K8 (xs:=ys) (j:=k) (by have:=p.out;omega));go_wp2_with (go_at_call 208;(with_reducible refine (L5 x _ _ C r).mono ?_);rintro e w'⟨rfl,rfl⟩);go_roundw
  case rel =>
   refine⟨k+1,AA,AF,?_,?_,d.setCell AE _⟩
   ·simp only[V4,Yg Hx.out,q.out];go_num
   have:=a.set_ k ((x+0+(V4 xs ys k).2) % 4294967296);rw[M8 _ k (n+1) _ b.out AA] at this;have D:=q.out;rw[AO] at D;simpa [V4,Hx.out,D] using this
  simp[intOf];omega
 obtain rfl:k=n:=AA
 have T:=a.frozen k;obtain⟨z,N,S⟩:=a.cell (i:=k) (by simp[b.out]);have h:=a.set_ k (V4 xs ys k).2;rw[M8 _ k (k+1) _ b.out AA,Nat.sub_self,List.replicate_zero,DK] at h;have V:=h.nums (n:=k+1) (c:=k+1) (by simp[b.out]) (AI _) AA;have B:=Zx4 xs ys k (by have:=L.out;omega) (by have:=p.out;omega);have M:=LH B;have s:Mu xs ys=Xm (val xs+val ys):=by simp[Mu,I,X]
 have J:=LH s;clear B s h;go_wp2_with (go_at_call 207;(with_reducible refine (Ztv _ _ _ _ _ V ((Zxn xs ys k).append (Lim.mk AA Lim.nil))).mono ?_);rintro e w'⟨A,c,rfl,R,O⟩);go_ret2;rw[J.out,<-M.out];exact⟨A,c,rfl,R,Zz (d.setCell AE _) O⟩
theorem nat_add_lt(l:Option Addr)(n c1:Nat)(xs:List Nat)(o:Option Addr)(m c2:Nat)(ys:List Nat)(w:World)(h1:Zq .u32 w l n c1 xs)(g:Zq .u32 w o m c2 ys)(G:Lim xs)(H:Lim ys)(I:Zm xs=true)(Y:Zm ys=true)(V:m<n):
 Calls prog 178 #[.slice o m c2,.slice l n c1] w (Xr w (Mu ys xs)):=by
 have E:=h1.len;have F:=g.len;have ai:n<=32:=by simp[Zm] at I;omega
 have t:m<n:=V;have u:=Wm (P:=prog) 31 49 .u32 4 underlying31 Tryz.info34 (n+1) AA AA;have ah:∀w:World,(Instr.makeSlice 31 (.int .i64 ((n:Int)+1)) (.int .i64 ((n:Int)+1))).run prog w = .ok (.slice (some ⟨w,0,none⟩) (n+1) (n+1)) (w.alloc (.cells (nums .u32 (List.replicate (n+1) 0)).toArray 49)):=u;clear u;have L:=LH E;have p:=LH F;clear E F;go_enter func178,ntmps178;go_wp2_with (first
  | (go_at_call 75;(with_reducible refine (Zb _ _ _ _ _ g).mono ?_);rintro e w'⟨rfl,rfl⟩)
  | (go_at_call 75;(with_reducible refine (Zb _ _ _ _ _ h1).mono ?_);rintro e w'⟨rfl,rfl⟩))
 go_loopw [7,31] (AddRel w xs ys n w) (λ_ i _=>n-(intOf i).toNat)
 case atStart=>exact⟨0,AU _,rfl,rfl,Own.new _ _ _ _,(AK _ _).alloc (AI _) _⟩
 obtain⟨k,hk,rfl,rfl,a,d⟩:=hrel;have r:=Lg xs ys G H k;have v:=Mq xs ys k;have b:=LH v;clear v;by_cases t:k<n
 ·obtain⟨Z,o1,x,rfl,ab,Hx,ae⟩:=(h1.below d).get (j:=k) t;have C:=G.of_get Hx.out;have T:=a.frozen k;obtain⟨z,N,S⟩:=a.cell (i:=k) (by simp[b.out];omega);by_cases U:k<m
  ·obtain⟨b2,o2,y,rfl,ad,f,af⟩:=(g.below d).get (j:=k) U;have X:=H.of_get f.out;go_wp2_with (go_at_call 208;(with_reducible refine (Dg x y _ _ C X r).mono ?_);rintro e w'⟨rfl,rfl⟩);go_roundw
   case rel =>
    refine⟨k+1,AA,AF,?_,?_,d.setCell AE _⟩
    ·simp only[V4,Yg Hx.out,Yg f.out];go_num
    have:=a.set_ k ((x+y+(V4 xs ys k).2) % 4294967296);rw[M8 _ k (n+1) _ b.out AA] at this;simpa [V4,Hx.out,f.out] using this
   simp[intOf];omega
  have q:=LH (K8 (xs:=ys) (j:=k) (by have:=p.out;omega));go_wp2_with (go_at_call 208;(with_reducible refine (L5 x _ _ C r).mono ?_);rintro e w'⟨rfl,rfl⟩);go_roundw
  case rel =>
   refine⟨k+1,AA,AF,?_,?_,d.setCell AE _⟩
   ·simp only[V4,Yg Hx.out,q.out];go_num
   have:=a.set_ k ((x+0+(V4 xs ys k).2) % 4294967296);rw[M8 _ k (n+1) _ b.out AA] at this;have D:=q.out;rw[AO] at D;simpa [V4,Hx.out,D] using this
  simp[intOf];omega
 obtain rfl:k=n:=AA
 have T:=a.frozen k;obtain⟨z,N,S⟩:=a.cell (i:=k) (by simp[b.out]);have h:=a.set_ k (V4 xs ys k).2;rw[M8 _ k (k+1) _ b.out AA,Nat.sub_self,List.replicate_zero,DK] at h;have W:=h.nums (n:=k+1) (c:=k+1) (by simp[b.out]) (AI _) AA;have B:=Zx4 xs ys k (by have:=L.out;omega) (by have:=p.out;omega);have M:=LH B;have s:Mu ys xs=Xm (val xs+val ys):=by simp[Mu,I,Y,Eo]
 have J:=LH s;clear B s h;go_wp2_with (go_at_call 207;(with_reducible refine (Ztv _ _ _ _ _ W ((Zxn xs ys k).append (Lim.mk AA Lim.nil))).mono ?_);rintro e w'⟨A,c,rfl,R,O⟩);go_ret2;rw[J.out,<-M.out];exact⟨A,c,rfl,R,Zz (d.setCell AE _) O⟩
theorem Ww(A:Option Addr)(n c:Nat)(xs:List Nat)(i:Nat)(w:World)(h:Zq .u32 w A n c xs)(g:Lim xs):
 Calls prog 79 #[.slice A n c,.int .i64 (i:Int)] w λe w'=>e = .returned (.int .u64 ((xs.getD i 0:Nat):Int))/\w=w':=by
 obtain rfl:=h.len;obtain⟨y,a⟩:∃y,Hid (xs.getD i 0=y):=⟨_,LH rfl⟩;rw[a.out];by_cases hi:i<xs.length
 ·obtain⟨b,o,x,rfl,k,Hx,l⟩:=h.get hi;have f:¬(xs.length:Int)<=(i:Int):=AA
  have m:=g.of_get Hx.out;go_enter func79,ntmps79;go_wp2;go_ret;rw[<-a.out,Yg Hx.out];exact⟨rfl,rfl⟩
 have f:(xs.length:Int)<=(i:Int):=AA
 have d:=LH (K8 (xs:=xs) (j:=i) AA);go_enter func79,ntmps79;go_wp2;go_ret;rw[<-a.out,d.out];exact⟨rfl,rfl⟩
theorem G6(A:Option Addr)(n c:Nat)(xs:List Nat)(w:World)(h:Zq .u32 w A n c xs):
 Calls prog 80 #[.slice A n c] w λe w'=>e = .returned (.slice A (Xx xs).length c)/\Zq .u32 w A (Xx xs).length c (Xx xs)/\w=w':=by
 have r:=h.len;have q:=h.cap;go_enter func80,ntmps80;go_wp2;go_loop [0] (λv=>∃k:Nat,k<=n/\v = .slice A k c/\Xx xs=Xx (xs.take k)) (λv=>lenOf v)
 case atStart=>exact⟨n,AI _,rfl,by rw[AQ AA]⟩
 obtain⟨k,m,rfl,hrel⟩:=hrel;have f:=LH hrel;clear hrel;by_cases s:0<k
 ·obtain⟨b,u,x,rfl,o,Hx,p⟩:=h.get (j:=k-1) AA;by_cases h0:x=0
  ·subst h0;go_wp2;go_round
   case rel =>
    refine⟨k-1,AA,AF,?_⟩;rw[f.out];have:=Zws xs (k-1) AA (by simp[Hx.out]);rw[<-this,show k-1+1=k from by omega]
   simp[lenOf];omega
  have t:((x:Int)==0)=false:=by simp[h0]
  have a:=Zxp xs (k-1) AA (by simpa [Hx.out] using h0);rw[show k-1+1=k from by omega,<-f.out] at a;have g:(Xx xs).length=k:=by rw[a];simp;omega
  have d:=LH a;have l:=LH g;clear a g;go_wp2;go_ret;rw[l.out];refine⟨rfl,?_,rfl⟩;rw[d.out];exact h.take k c m AA AA
 have a:Xx xs=[]:=by rw[f.out,show k=0 from by omega];simp[Xx]
 have d:=LH a;clear a;obtain rfl:k=0:=AA
 go_wp2;go_ret;rw[d.out];exact⟨rfl,Zq.nil _ _ _ _ AA,rfl⟩
theorem As(A:Option Addr)(n c:Nat)(xs:List Nat)(w:World)(h:Zq .u32 w A n c xs)(g:Lim xs):
 Calls prog 112 #[.slice A n c] w (Xr w (Xm (val xs))):=by
 have a:=Zs4 xs g;by_cases d:(Xx xs).length<=32
 ·rw[if_pos d] at a;have b:=LH a;clear a;go_enter func112,ntmps112;go_wp2_with (go_at_call 80;refine (G6 _ _ _ _ _ h).mono ?_;rintro e w'⟨rfl,f,rfl⟩);go_ret2;rw[<-b.out];exact⟨_,_,rfl,AH,AK _ _⟩
 rw[if_neg d] at a;have b:=LH a;clear a;go_enter func112,ntmps112;go_wp2_with (go_at_call 80;refine (G6 _ _ _ _ _ h).mono ?_;rintro e w'⟨rfl,f,rfl⟩);go_ret2;rw[<-b.out];exact⟨none,0,rfl,Zq.nil _ _ _ _ AE,AK _ _⟩
end
section
open Go.Maps (Keyed IsMap Tidy)
variable {P:Program} {k:TypeId}
theorem Vv.below{g:Nat}(h:Vv P k w g r)(a:Below w w w'):Vv P k w' g r:=h.block (a.block g h.lt)
end
section
open Go.Maps (Keyed IsMap Tidy)
open Go.Maps (Keyed IsMap Tidy)
structure Yo (W0:World) (k:CH) (h:GH) (G:Gr) (S:Nat->Prop) (w:World):Prop where
 base:Below W0.heap.size W0 w
 box:Blk w k.c 141 #[.slice h.a1 h.n1 h.c1,.slice h.a2 h.n2 h.c2,.slice h.a3 h.n3 h.c3,.int .i64 G.start,.slice (some ⟨k.n,0,none⟩) h.n2 h.n2,.map (some k.t),.map (some k.f)]
 nul:Z8 w k.n (Zj G)
 low:W0.heap.size<=k.t/\W0.heap.size<=k.f
 ne:k.t≠k.f
 trees:∃ts,Zzo w k.t G S ts
 forts:∃fs,Zue w k.f G S fs
theorem Yo.maps_noInt{a:World}{k:CH}(C:Yo a k h G S w):∀g,k.maps g->Qf w g:=by
 obtain⟨ts,c⟩:=C.trees;obtain⟨d,b⟩:=C.forts;rintro g (rfl | rfl)
 ·exact c.map.noInt
 exact b.map.noInt
theorem Yo.keep{a:World}{k:CH}(C:Yo a k h G S w)(b:Off k.maps w w'):Zf w w':=Zf.of_off b C.maps_noInt
theorem Yo.map_lt{a:World}{k:CH}(C:Yo a k h G S w):k.t<w.heap.size/\k.f<w.heap.size:=by
 obtain⟨ts,c⟩:=C.trees;obtain⟨d,b⟩:=C.forts;exact⟨c.map.lt,b.map.lt⟩
theorem Yo.move{k:CH}{P:Nat->Prop}(C:Yo l k h G S w)(d:Off P w w')(o:Zf w w')(h1:∀b,P b->S b/\l.heap.size<=b/\b≠k.c/\b≠k.n/\b≠k.t/\b≠k.f):Yo l k h G S w':=by
 obtain⟨v,y⟩:=C.map_lt;refine⟨C.base.trans (d.is_below C.base.size λb j=>(h1 b j).2.1),d.blk C.box λa=>(h1 _ a).2.2.1 rfl,d.blk C.nul λa=>(h1 _ a).2.2.2.1 rfl,C.low,C.ne,?_,?_⟩
 ·obtain⟨ts,g⟩:=C.trees;exact⟨ts,g.map.block (d.keep _ v λa=>(h1 _ a).2.2.2.2.1 rfl),g.key,λp a=>⟨(g.val p a).1.kept o (d.keep _ (g.val p a).1.lt λj=>(g.val p a).2 (h1 _ j).1),(g.val p a).2⟩⟩
 obtain⟨s,m⟩:=C.forts;refine⟨s,m.map.block (d.keep _ y λa=>(h1 _ a).2.2.2.2.2 rfl),m.key,λp a=>?_⟩;obtain⟨x,u,r,q⟩:=m.val p a;exact⟨x,u,r.kept o (d.keep _ r.lt λj=>q (h1 _ j).1),q⟩
theorem Yo.below{c:World}{k:CH}(C:Yo c k h G S w)(a:Below w w w'):Yo c k h G S w' :=
 C.move (P:=λ_=>False) (Off.of_below a) (.of_below a) λb a=>a.elim
theorem Yo.less{k:CH}{S':Nat->Prop}(C:Yo f k h G S w)(g:∀b,S' b->S b):Yo f k h G S' w:=by
 refine⟨C.base,C.box,C.nul,C.low,C.ne,?_,?_⟩
 ·obtain⟨ts,c⟩:=C.trees;exact⟨ts,c.map,c.key,λp a=>⟨(c.val p a).1,λh1=>(c.val p a).2 (g _ h1)⟩⟩
 obtain⟨j,d⟩:=C.forts;refine⟨j,d.map,d.key,λp a=>?_⟩;obtain⟨x,n,m,h1⟩:=d.val p a;exact⟨x,n,m,λl=>h1 (g _ l)⟩
end
theorem Zyq.below{N:Nat}(h:Zyq w A n c N tab)(a:Below w w w'):Zyq w' A n c N tab:=by
 refine⟨h.1,h.2.1,λl=>?_⟩;obtain⟨b,f,e,d,o⟩:=h.2.2 l;refine⟨b,f,e,AJ d a.size,λm k=>?_⟩;obtain⟨g,h1,j⟩:=o m k;exact⟨g,(a.cell (p:=⟨b,f+m,none⟩) d).trans h1,j.below a⟩
theorem nat_mul_ok(t:Option Addr)(n c1:Nat)(xs:List Nat)(u:Option Addr)(m c2:Nat)(ys:List Nat)(w:World)(h1:Zq .u32 w t n c1 xs)(r:Zq .u32 w u m c2 ys)(lx:Lim xs)(M:Lim ys)(N:Zm xs=true)(O:Zm ys=true):
 Calls prog 177 #[.slice t n c1,.slice u m c2] w (Xr w (N9 xs ys)):=by
 obtain rfl:=h1.len;obtain rfl:=r.len;have a0:xs.length<=32:=by simp[Zm] at N;omega
 have ay:ys.length<=32:=by simp[Zm] at O;omega
 have H:=Wm (P:=prog) 31 49 .u32 4 underlying31 Tryz.info34 (xs.length+ys.length) AA AA;have az:∀w:World,(Instr.makeSlice 31 (.int .i64 ((xs.length:Int)+(ys.length:Int))) (.int .i64 ((xs.length:Int)+(ys.length:Int)))).run prog w = .ok (.slice (some ⟨w,0,none⟩) (xs.length+ys.length) (xs.length+ys.length)) (w.alloc (.cells (nums .u32 (List.replicate (xs.length+ys.length) 0)).toArray 49)):=H;clear H;have G:N9 xs ys=Xm (val xs*val ys):=by simp[N9,N,O]
 rw[G];clear G;go_enter func177,ntmps177;go_wp2_with (first
  | (go_at_call 75;(with_reducible refine (Zb _ _ _ _ _ h1).mono ?_);rintro e w'⟨rfl,rfl⟩)
  | (go_at_call 75;(with_reducible refine (Zb _ _ _ _ _ r).mono ?_);rintro e w'⟨rfl,rfl⟩))
 go_loopw [29] (MulRel w xs ys) (λi _=>xs.length-(intOf i).toNat)
 case atStart =>
  refine⟨0,List.replicate (xs.length+ys.length) 0,AU _,rfl,AE,?_,?_,?_,Own.new _ _ _ _,(AK _ _).alloc (AI _) _⟩
  ·intro y hy;have:=List.eq_of_mem_replicate hy;omega
  ·have:=Ns (List.replicate (xs.length+ys.length) 0) 0 (λi _=>by simp[List.getElem?_replicate];split <;> rfl);simpa [val] using this
  intro j _;simp[List.getElem?_replicate];split <;> rfl
 obtain⟨i,a,hi,rfl,D,g,E,F,b,f⟩:=hrel;have d:=LH D;have B:=LH E;have S:=LH F;clear D E F;by_cases ah:i<xs.length
 ·obtain⟨b1,o1,x,rfl,au,Hx,ad⟩:=(h1.below f).get (j:=i) ah;have L:=lx.of_get Hx.out;go_wp2;obtain⟨R,rfl⟩:∃R:World,R=wr:=⟨_,rfl⟩;go_loopw [9,36] (MulRel2 w x ys a i) (λ_ q _=>ys.length-(intOf q).toNat)
  case atStart=>exact⟨0,AU _,rfl,rfl,by rw[Zz7];exact b,f⟩
  clear b f ad;obtain⟨k,hk,rfl,rfl,b,f⟩:=hrel;have ae:=Zy8 x ys (a.drop i) L M (g.drop _) k;by_cases ai:k<ys.length
  ·obtain⟨b2,o2,y,rfl,av,o,aw⟩:=(r.below f).get (j:=k) ai;have am:=M.of_get o.out;have l:=LH (Nq x ys a i k (by rw[d.out];omega));obtain⟨z,C,af⟩:=b.cell (i:=i+k) (by rw[l.out,d.out];omega);have ag:=b.frozen (i+k);have p:Hid (a[i+k]? = some z):=LH (by rw[<-Zwa x ys a i k (by rw[d.out];omega)];exact C.out);have ao:=g.of_get p.out;have hb:=Ag L am ao ae;have a1:(0:Int)<=(x:Int)*(y:Int):=by rw[<-Int.natCast_mul];omega
   have a2:(x:Int)*(y:Int)+(z:Int)+((Vn x ys (a.drop i) k).2:Int)<18446744073709551616:=by rw[<-Int.natCast_mul];omega
   have U:=LH (Zze x ys a i k (by rw[d.out];omega));clear hb;go_wp2;go_roundw
   case rel =>
    refine⟨k+1,AA,AF,?_,?_,f.setCell AE _⟩
    ·have an:=p.out;simp only[Vn,Yg o.out];rw[show (a.drop i).getD k 0=z from by simp[Ea,an]];go_num
    have:=b.set_ (i+k) ((x*y+z+(Vn x ys (a.drop i) k).2) % 4294967296);have J:=U.out;rw[Yg o.out,Yg p.out] at J;rw[J] at this;simpa using this
   simp[intOf];omega
  obtain rfl:k=ys.length:=AA
  have I:=mul_row x ys a i (by rw[d.out];omega) S.out;have T:=LH I;clear I;have l:=LH (Nq x ys a i ys.length (by rw[d.out];omega));obtain⟨z,C,af⟩:=b.cell (i:=i+ys.length) (by rw[l.out,d.out];omega);have ag:=b.frozen (i+ys.length);go_wp2;go_roundw
  case rel =>
   obtain⟨W,X,Y⟩:=T.out;refine⟨i+1,_,AA,AF,?_,?_,?_,Y,?_,f.setCell AE _⟩
   ·rw[X,d.out]
   ·intro v hv;rcases List.mem_or_eq_of_mem_set hv with h | h
    ·exact Zx0 x ys a i ys.length g v h
    omega
   ·rw[W,B.out,Y5,Yg Hx.out,Nat.add_mul,DV]
   have:=b.set_ (i+ys.length) (Vn x ys (a.drop i) ys.length).2;simpa using this
  simp[intOf];omega
 obtain rfl:i=xs.length:=AA
 have s:=B.out;rw[List.take_length] at s;have aj:=b.nums (n:=xs.length+ys.length) (c:=xs.length+ys.length) d.out (AI _) AA;have V:=LH s;clear s;go_wp2_with (go_at_call 207;(with_reducible refine (Ztv _ _ _ _ _ aj g).mono ?_);rintro e w'⟨A,c,rfl,hN,Z⟩);go_ret2;rw[<-V.out];exact⟨A,c,rfl,hN,Zz f Z⟩
def CRet(a:World)(k:CH)(h:GH)(G:Gr)(S:Nat->Prop)(w:World)(x:Nat)(e:Ending)(w':World):Prop :=
 Yo a k h G S w'/\Off k.maps w w'/\∃A n c d,e = .returned (.agg #[.slice A n c,.bool d])/\Z1 w' A n c d x
def Zw5(a:World)(k:CH)(h:GH)(G:Gr)(s:Int)(n:Nat):Prop:=∀(S:Nat->Prop) (w:World),Yo a k h G S w->(∀b,S b->b<w.heap.size)->
 Calls Tryz.prog 155 #[.pointer (some ⟨k.c,0,none⟩),.int .i64 s,.int .i64 (n:Int)] w (CRet a k h G S w (Zv G s n))
def RuleC(a:World)(k:CH)(h:GH)(G:Gr)(x:Rul)(i d n:Nat):Prop:=∀(S:Nat->Prop) (w:World),Yo a k h G S w->(∀b,S b->b<w.heap.size)->
 Calls Tryz.prog 201 #[.pointer (some ⟨k.c,0,none⟩),kF i d n] w (CRet a k h G S w (Zx (Zv G) (x.right.drop d) n))
def OthC(a:World)(k:CH)(h:GH)(G:Gr)(c:World)(gf:FuncId)(d:Array Value)(m x:Nat):Prop:=∀(S:Nat->Prop) (w:World),Yo a k h G S w->(∀b,S b->b<w.heap.size)->Off k.maps c w->
 Calls Tryz.prog gf (#[.int .i64 (m:Int)]++d) w (CRet a k h G S w x)
theorem Yo.cells{a:World}{k:CH}(C:Yo a k h G S w):k.c<w.heap.size/\k.n<w.heap.size/\w.cell? ⟨k.c,2,none⟩=some (.slice h.a3 h.n3 h.c3)/\w.cell? ⟨k.c,4,none⟩=some (.slice (some ⟨k.n,0,none⟩) h.n2 h.n2)/\w.cell? ⟨k.c,5,none⟩=some (.map (some k.t))/\w.cell? ⟨k.c,6,none⟩=some (.map (some k.f)) :=
 ⟨C.box.lt,Blk.lt C.nul,C.box.cell 2,C.box.cell 4,C.box.cell 5,C.box.cell 6⟩
theorem Zta{A:World}{k:CH}(Al:Option Addr)(p n:Nat)(l:List Int)(w:World)(C:Yo A k h G S w)(f:Za .i64 w Al n p l)(t:(Zj G).length=h.n2)(u:∀s∈l,-(h.n2:Int)<=s/\s<=1000)(r:h.n2<=1000)(W:n<=1000):
 Calls prog 154 #[.pointer (some ⟨k.c,0,none⟩),.slice Al n p] w λe w'=>e = .returned (.int .i64 (Uy (Zj G) l:Int))/\w=w':=by
 obtain rfl:=f.len;have T:=f.cap;obtain⟨gc,M,O,gf⟩:=k;obtain⟨a1,n1,c1,a2,n2,c2,a3,n3,c3⟩:=h;obtain⟨H,I,_,J,_,_⟩:=C.cells;have m:=LH C.nul;have y:=LH u;have g:=LH t;simp only[] at H I J r m g;clear u t C;go_enter func154,ntmps154;go_wp2_with fail;go_loop [4,9] (λv i=>∃q:Nat,q<=l.length/\i = .int .i64 (q:Int)/\v = .int .i64 (Uy (Zj G) (l.take q):Int)) (λ_ i=>l.length-(intOf i).toNat)
 case atStart=>exact⟨0,AU _,rfl,rfl⟩
 obtain⟨q,X,rfl,rfl⟩:=hrel;by_cases E:q<l.length
 case pos =>
  obtain⟨L,Z,s,rfl,R,o,q0⟩:=f.get E;obtain⟨F,s2⟩:=y.out s (AL o.out);have a:=lowN_take (N:=Zj G) o.out;have U:=Ztr (Zj G) (l.take q);have V:(l.take q).length<=q:=by rw[BY];omega
  generalize Uy (Zj G) (l.take q)=c at *;by_cases h0:0<=s
  ·have b:Xg (Zj G) s=false:=by unfold Xg;rw[BR AA];rfl
   rw[b] at a;have d:=LH a;clear a b;go_wp2_with fail;go_roundw
   case rel=>exact⟨q+1,AA,AF,by rw[d.out];go_num⟩
   simp[intOf];omega
  obtain⟨j,B,D,Y⟩:=Vy (s:=s) (n:=n2) AA F r;have P:=m.out.at (i:=j) (by rw[g.out];exact B);have b:Xg (Zj G) s=(Zj G).getD j false:=by unfold Xg;rw[DY (AA:s<0),Bool.true_and,D]
  rw[b] at a;have d:=LH a;clear a b;generalize (Zj G).getD j false=z at *;rcases (by cases z <;> simp:z=false\/z=true) with rfl | rfl;all_goals
   go_wp2_with fail;go_roundw
   case rel=>exact⟨q+1,AA,AF,by rw[d.out];go_num⟩
   simp[intOf];omega
 obtain rfl:q=l.length:=AA
 have x:Hid (Uy (Zj G) (l.take l.length)=Uy (Zj G) l):=LH (by rw[List.take_length]);generalize Uy (Zj G) (l.take l.length)=c at *;go_wp2_with fail;go_ret;exact⟨by rw[<-x.out];rfl,rfl⟩
def MidC(a:World)(k:CH)(h:GH)(G:Gr)(S:Nat->Prop)(b X:World):Prop:=Yo a k h G S X/\Off k.maps b X
def ForC(a:World)(k:CH)(h:GH)(G:Gr)(Al:Option Addr)(n0 d:Nat)(l:List Int)(n:Nat):Prop:=∀(S:Nat->Prop) (w:World),Yo a k h G S w->(∀b,S b->b<w.heap.size)->
 Calls Tryz.prog 50 #[.pointer (some ⟨k.c,0,none⟩),.slice Al n0 d,.int .i64 (n:Int)] w (CRet a k h G S w (Zx (Zv G) l n))
def RetStart(h:GH)(G:Gr)(w:World)(e:Ending)(w':World):Prop:=Below w.heap.size w w'/\∃k:CH,e = .returned (.pointer (some ⟨k.c,0,none⟩))/\Yo w k h G (λ_=>False) w'
theorem cnt_new{b:World}{k:CH}(q:Below b b w)(h1:Blk w k.c 141 #[.slice h.a1 h.n1 h.c1,.slice h.a2 h.n2 h.c2,.slice h.a3 h.n3 h.c3,.int .i64 G.start,.slice (some ⟨k.n,0,none⟩) h.n2 h.n2,.map (some k.t),.map (some k.f)])(d:Z8 w k.n (Zj G))(g:Vv prog 247 w k.t [])(j:Vv prog 251 w k.f [])(l:k.t≠k.f)(m:b.heap.size<=k.t)(o:b.heap.size<=k.f):Yo b k h G (λ_=>False) w :=
 ⟨q,h1,d,⟨m,o⟩,l,⟨[],⟨g,λp a=>(by cases a),λp a=>(by cases a)⟩⟩,⟨[],⟨j,λp a=>(by cases a),λp a=>(by cases a)⟩⟩⟩
theorem nat_bits(f:Option Addr)(n c1:Nat)(xs:List Nat)(w:World)(h1:Zq .u32 w f n c1 xs)(l:Lim xs):
 Calls prog 211 #[.slice f n c1] w λe w'=>e = .returned (.int .i64 (Zz9 xs:Int))/\w=w':=by
 obtain rfl:=h1.len;by_cases c:Zm xs=true
 case neg =>
  have s:Zm xs=false:=by simpa using c
  have b:Zz9 xs=0:=by simp[Zz9,s]
  rw[b];clear b c;go_enter func211,ntmps211;go_wp2_with (go_at_call 75;(with_reducible refine (Zb _ _ _ _ _ h1).mono ?_);rintro e w'⟨rfl,rfl⟩);go_ret;exact⟨rfl,rfl⟩
 rcases List.eq_nil_or_concat xs with rfl | ⟨a,z,rfl⟩
 ·have b:Zz9 []=0:=AC
  rw[b];clear b;simp only[DS] at h1 ⊢;go_enter func211,ntmps211;go_wp2_with (go_at_call 75;(with_reducible refine (Zb _ _ _ _ _ h1).mono ?_);rintro e w'⟨rfl,rfl⟩);go_ret;exact⟨rfl,rfl⟩
 rw[List.concat_eq_append] at *;have r:=X8 _ c a z rfl;have d:z<4294967296:=l z AE;have o:Lim a:=λy q=>l y (by simp[q]);have b:Zz9 (a++[z])=32*a.length+bitLen z:=by simp only[Zz9,c,if_true];exact bitLen_top a z o r
 have m:=LH b;clear b;have h:(a++[z]).length=a.length+1:=AE
 obtain⟨t,C,x,rfl,u,Hx,A⟩:=h1.get (j:=a.length) AA;have p:x=z:=by have:=Hx.out;simp at this;omega
 subst p;have B:a.length+1<=32:=by simp[Zm] at c;omega
 rw[h] at h1 ⊢;have v:bitLen x<=32:=by
  rw[<-Bm x d];exact Lib.bitLenAux_le 64 x 32 d
 have k:=Bm x d;have g:=LH k;clear k h;go_enter func211,ntmps211;go_wp2_with (first
  | (go_at_call 75;(with_reducible refine (Zb _ _ _ _ _ h1).mono ?_);rintro e w'⟨rfl,rfl⟩)
  | (go_at_call 233;(with_reducible refine (bits_len32 _ _ AA AA).mono ?_);rintro e w'⟨rfl,rfl⟩))
 go_ret;rw[m.out];exact⟨Bo (by rw[Wq _ AA (by have:=g.out;omega),g.out];omega),rfl⟩
section
variable {P:Program}
theorem G5{g:Nat}(c:w.heap[g]? = some (.cells cs e a))(h:∀u∈cs.toList,∀k z,u≠Value.int k z):Qf w g:=by
 intro o k z b;rw[cell_of_row w g o cs e a c] at b;have d:Value.int k z∈cs.toList:=by
  refine AL (i:=o) ?_;simpa using b
 exact h _ d k z rfl
theorem noInt_mem{g:Nat}(c:w.heap[g]? = some (.cells cs e a))(h:Qf w g):∀u∈cs.toList,∀k z,u≠Value.int k z:=by
 intro u f k z b;subst b;obtain⟨o,d⟩:=BU f;refine h o k z ?_;rw[cell_of_row w g o cs e a c];simpa using d
theorem Zxt{z:Value}(f:∀u∈z.cells.toList,∀k x,u≠Value.int k x)(q:Nat):∀u∈(Builtin.zeroCells z.cells q).toList,∀k x,u≠Value.int k x:=by
 intro u b k x a;subst a;unfold Builtin.zeroCells at b;simp only[Array.toList_map,CW,Array.toList_range,BQ] at b;obtain⟨i,hi,a⟩:=b;have d:0<z.cells.size:=by
  rcases DM z.cells.size with h | h
  ·rw[h] at hi;omega
  exact h
 have c:=Nat.mod_lt i d;rw[getElem!_pos z.cells (i % z.cells.size) c] at a;exact f _ AE k x a
theorem append_noInt(w:World)(base:Nat)(t ty e:TypeId)(i:TypeInfo)(z:Value)(B:P.underlying t=some (.slice e))(hi:P.info? e=some i)(G:i.zero=some z)(A:Option Addr)(n c:Nat)(xs:List Value)(y:w.ownsRow base e i.size (.slice A n c) n xs)(a:Addr)(m c2:Nat)(M:0<m)(f:List Value)(q:f.length=m*i.size)(v:∀j u,f[j]? = some u->w.cell? (a.add j)=some u)(h1:∀u∈f,u.oneCell'=true)(R:n+m<=9223372036854775807)(D:(n+m)*i.bytes<=140737488355328)(N:∀g,(Value.slice A n c).ownBlock=some g->Qf w g)(s:∀u∈f,∀k x,u≠Value.int k x)(O:∀u∈xs,∀k x,u≠Value.int k x)(H:∀u∈z.cells.toList,∀k x,u≠Value.int k x){I:Value}(h:(Builtin.append_ #[t,t] ty #[.slice A n c,.slice (some a) m c2]).run P w = .ok I w'):∀g,I.ownBlock=some g->Qf w' g:=by
 rcases y.2 with ⟨C,U⟩ | ⟨g,cap,r,C,S,o,V,T,J,W⟩
 ·injection C with e1 e2 e3;subst e1 e2 e3;have p:=run_append_nil (P:=P) w t ty e i z B hi G a m c2 f q v M AA (by have l:=D;simp only[BH] at l;omega);rw[p] at h;injection h with r1 r2;subst r1 r2;intro g o;have:w.heap.size=g:=by simpa [Value.ownBlock] using o
  subst this;refine G5 (heap_alloc_new w.drew _) λu d=>?_;rw[Array.toList_append,DH] at d;rcases d with d | d
  ·exact s u (by simpa using d)
  exact Zxt H _ u d
 injection C with e1 e2 e3;subst e1 e3;by_cases F:n+m<=c
 ·have L:n*i.size+f.length<=r.size:=by rw[q,J,<-Nat.add_mul];exact Eu _ F
  have p:=run_append_room (P:=P) w t ty e i B hi g n c r o a m c2 f q v h1 F L;rw[p] at h;injection h with r1 r2;subst r1 r2;intro b l;have:g=b:=by simpa [Value.ownBlock] using l
  subst this;have E:=noInt_mem o (N g rfl);refine G5 (setRow_heap w g r _ e _ o) λu d=>?_;rw[List.toList_toArray,DH,DH] at d;rcases d with (d | d) | d
  ·exact E u (List.mem_of_mem_take d)
  ·exact s u d
  exact E u (List.mem_of_mem_drop d)
 have holds:∀j u,xs[j]? = some u->w.cell? ((⟨g,0,none⟩:Addr).add j)=some u:=y.cells (g:=g) rfl;have p:=run_append_grow (P:=P) w t ty e i z B hi G ⟨g,0,none⟩ n c xs y.1 holds a m c2 f q v AA AA (growslice_fits AA D);rw[p] at h;injection h with r1 r2;subst r1 r2;intro b l;have:w.heap.size=b:=by simpa [Value.ownBlock] using l
 subst this;refine G5 (heap_alloc_new w.drew _) λu d=>?_;rw[Array.toList_append,Array.toList_append,DH,DH] at d;rcases d with (d | d) | d
 ·exact O u (by simpa using d)
 ·exact s u (by simpa using d)
 exact Zxt H _ u d
end
section
open Ieee
def Xl(G:Gr)(t:List Int):Option (List Int × List Int × Nat) :=
 if G.right&&decide (t.length<=300) then
  match Y0 G t.length ⟨t,[],[]⟩ G.start with
  | none=>none
  | some (st,n)=>if st.rest=[] then some (st.word,st.posts,n) else none
 else none
end
end Go.Proofs.YtggbjdmpjidhgaaGreatDoor
