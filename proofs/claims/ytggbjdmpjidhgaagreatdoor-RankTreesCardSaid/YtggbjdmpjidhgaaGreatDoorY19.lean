/- the reference's reading: a reader's small steps: kind, is, take. -/
import Derived.Test.YtggbjdmpjidhgaaGreatDoorY12
import Derived.Test.YtggbjdmpjidhgaaGreatDoorY13
import Derived.Test.YtggbjdmpjidhgaaGreatDoorY14
import Derived.Test.YtggbjdmpjidhgaaGreatDoorY15
set_option linter.all false
set_option maxHeartbeats 1500000
set_option maxRecDepth 100000
namespace Go.Proofs.YtggbjdmpjidhgaaGreatDoor
open Go.RowKit Go.Proofs.Tryz
variable{t ps wd:List Int}{a:Option Addr}{ops:Array Oper}{rest:List Oper}{Q:Exit->Act->World->Prop}
theorem rf_Tokens(A:Option Addr)(n c q:Nat)(xs:List Nat)(w:World)(h:Zq .u8 w A n c xs)(hb:∀x∈xs,x<256)(hn:n<=4000)(ts:List Af)(aw:Ml xs q 0=some ts)(hc:Dd ts<2):
 Calls prog 136 #[.slice A n c] w λe w'=>∃f g x y,e = .returned (.tuple #[.slice f ts.length g,.complex .f64 x y,.int .i64 0])/\Kq w' w' f ts.length g (ts.map Zyr)/\Below w w w':=by
 obtain rfl:=h.len;have be:=h.cap;have H:=LH h;have Hb:=LH hb;have Hc:=LH hc;have a3:=LH aw;have ao:(prog.info? 231).map (λi=>(i.zero,i.size,i.bytes))=some (some (.agg #[.int .i64 0,.string ⟨#[]⟩,.complex .f64 0 0]),3,40):=AB
 have a0:=LH ao;have bi:∀(w:World) (a:Addr) (k:FloatKind) (x y:Nat) (m:Mode),(store a (.complex k x y) m).run prog w=stored prog w a (.complex k x y) m:=λw a k x y m=>run_store prog w a _ m rfl;clear h hb hc ao aw;go_enter func136,ntmps136;go_wp2_with fail;go_loopw [5,6,7] (λo a m wr=>∃(i mk d g:Nat) (f:Option Addr) (done R:List Af) (cs:List Value),o = .slice f d g/\a = .int .i64 (i:Int)/\m = .int .i64 (mk:Int)/\i<=xs.length/\d<=i/\mk<2 /\
  Hid (d=done.length)/\Hid (mk=Dd done)/\Hid (∃Z,Ml xs Z i=some R)/\Hid (done++R=ts)/\Hid (wr.ownsRow w 231 3 (.slice f d g) d cs)/\Hid (Dp cs (done.map Zyr))/\Below w w wr) (λ_ a _ _=>xs.length-(intOf a).toNat)
 case atStart=>exact⟨0,0,0,0,none,[],ts,[],rfl,rfl,rfl,AA,AA,AA,LH rfl,LH rfl,LH ⟨q,a3.out⟩,LH rfl,LH (BJ _ _ _ _),LH Dp.nil,AL _ _⟩
 obtain⟨i,mk,d,g,f,done,R,cs,rfl,rfl,rfl,hi,hd,bg,U,M,X,C,W,L,v⟩:=hrel;by_cases O:i<xs.length
 case neg =>
  obtain rfl:i=xs.length:=AA
  have CT:=LH (B0 A xs.length c xs (xs.length:Int) wr (H.out.below v) AA);have V:Hid (done=ts/\d=ts.length):=LH (by
   obtain⟨Z,P⟩:=X.out;have e:=C.out;rw[toksP_end P (AJ _),DH] at e;exact⟨e,by rw[U.out,e]⟩)
  obtain⟨l,p,D⟩:∃a b,atP xs (xs.length:Int) = .complex .f64 a b:=by
   unfold atP PV;split
   ·exact⟨_,_,rfl⟩
   exact⟨_,_,rfl⟩
  rw[D] at CT;clear D;go_wp2_with (go_at_call 186;(with_reducible refine CT.out.mono ?_);rintro e B⟨rfl,rfl⟩);refine AW (results_tmp3 rfl _ _ _) rfl ?_;refine⟨f,g,l,p,by rw[<-V.out.2];rfl,?_,v⟩;have ht:=own_toks W.out L.out;rw[V.out.1,V.out.2] at ht;exact ht
 obtain⟨Z,P⟩:=X.out;obtain⟨ar,ba⟩:=toksP_step P O;have I:=LH (rf_skip7 A xs.length c i xs wr (H.out.below v) Hb.out AA O ar);clear X P ar;rcases ba with ⟨E,S,F⟩ | ⟨E,t,j,rest,S,Y,F,rfl⟩
 ·rw[E,if_pos rfl] at I;have N:=LH F;clear F E;go_wp2_with (go_at_call 185;(with_reducible refine I.out.mono ?_);rintro e B⟨rfl,rfl⟩);go_roundw
  case rel=>exact⟨i+1,mk,d,g,f,done,R,cs,rfl,rfl,rfl,AA,AA,AA,U,M,LH ⟨S,N.out⟩,C,W,L,v⟩
  simp[intOf];omega
 rw[E,if_neg DB] at I;obtain⟨bf,ap⟩:=oneP_lt O Y;have G:=LH (rf_one A xs.length c i xs wr (H.out.below v) Hb.out AA O t j Y);have N:=LH F;have a1:Hid (Dd (done++[t])<2):=LH (by
  have u:=Hc.out;rw[<-C.out,show done++t::rest=(done++[t])++rest by simp,Cw] at u;omega)
 obtain⟨l,p,D⟩:∃a b,atP xs (i:Int) = .complex .f64 a b:=by
  unfold atP PV;split
  ·exact⟨_,_,rfl⟩
  exact⟨_,_,rfl⟩
 rw[D] at G;have ag:Hid (done++[t]++rest=ts):=LH (by rw[<-C.out];simp);have az:=LH (Dp.snoc L.out (Zyr t) l p);have T:Hid (Dd [t]=if t.kind=9 then 1 else 0):=LH (by
  unfold Dd;by_cases r:t.kind=9
  ·simp[r]
  simp[r])
 have Ht:Hid (Zyr t=(t.kind,str t.text)):=rfl;clear F E Y D L C;generalize av:Zyr t=tk at *;generalize a8:t.kind=s at *;generalize ax:str t.text=z at *;unfold TokV at G;rw[ax] at G;have a2:=LH av;clear a8 ax av;have r:((s==9)=true/\Hid (Dd [t]=1))\/((s==9)=false/\Hid (Dd [t]=0)):=by
  by_cases r:s=9
  ·exact .inl ⟨by simp[r],LH (by rw[T.out,if_pos r])⟩
  exact .inr ⟨by simp[r],LH (by rw[T.out,if_neg r])⟩
 clear T;rcases r with ⟨e9,J⟩ | ⟨e9,J⟩;all_goals
  go_wp2_with (first
   | (go_at_call 185;(with_reducible refine I.out.mono ?_);rintro e B⟨rfl,rfl⟩)
   | (go_at_call 187;(with_reducible refine G.out.mono ?_);rintro e B⟨rfl,ak⟩
      have al:=Zz v ak;have a6:=Zo al (.cells #[.int .i64 s,.string z,.complex .f64 l p] 231);have bd:w.heap.size<=B.heap.size:=al.size;have p5:=Zl B (.cells #[.int .i64 s,.string z,.complex .f64 l p] 231);have ah:=LH ((M5 W.out ak).alloc (.cells #[.int .i64 s,.string z,.complex .f64 l p] 231)))
   | (at_builtin;refine Ye (w:=B.alloc (.cells #[.int .i64 s,.string z,.complex .f64 l p] 231)) rfl _ _ 185 rfl w 231 _ 3 40 underlying185 a0.out AC AC f d g cs rfl ah.out [.int .i64 s,.string z,.complex .f64 l p] rfl (by rw[p5];rfl) (by simp[Value.oneCell']) AA AA AA ?_;intro A4 c4 w4 ho a7 ha))
  have a9:mk+Dd [t]<2:=by
   have u:=a1.out;rwa [Cw,<-M.out] at u
  rw[J.out] at a9;have ab:=LH (below_appendG a6 a7 ah.out AA);have ad:Hid (Dp (cs++[.int .i64 s,.string z,.complex .f64 l p]) ((done++[t]).map Zyr)):=LH (by
   have u:=az.out;rw[Ht.out] at u;rw[DF,CJ,List.map_nil,a2.out,Ht.out];exact u)
  have af:Hid (d+1=(done++[t]).length):=LH (by rw[AU,<-U.out];rfl);go_roundw
  case rel =>
   first
    | exact⟨j,mk+1,d+1,c4,A4,done++[t],rest,_,rfl,rfl,AF,ap,AA,AA,af,LH (by have u:=M.out;have h2:=J.out;rw[Cw];omega),LH ⟨S,N.out⟩,ag,LH ho,ad,ab.out⟩
    | exact⟨j,mk,d+1,c4,A4,done++[t],rest,_,rfl,rfl,rfl,ap,AA,AA,af,LH (by have u:=M.out;have h2:=J.out;rw[Cw];omega),LH ⟨S,N.out⟩,ag,LH ho,ad,ab.out⟩
  simp[intOf];omega
theorem rf_Parse(A:Option Addr)(n c q I:Nat)(xs:List Nat)(w:World)(h:Zq .u8 w A n c xs)(D:∀x∈xs,x<256)(X:n<=4000)(ts:List Af)(H:Ml xs q 0=some ts)(F:Dd ts<2)(U:ts.length<=4000)(ps:List Prd)(G:srcP I (ts.map Zyr)=some ps):
 Calls prog 83 #[.slice A n c] w λe w'=>∃f g cs,e = .returned (.tuple #[.agg #[.slice none 0 0,.slice f ps.length g],.complex .f64 0 0,.int .i64 0])/\w'.ownsRow w 199 5 (.slice f ps.length g) ps.length cs/\Vu w' (λb=>w.heap.size<=b) cs ps/\Below w w w':=by
 have t:=Zy w (.cells #[.slice none 0 0,.slice none 0 0] 130);have S:=Blk.new w 130 #[.slice none 0 0,.slice none 0 0];have CT:=LH (rf_Tokens A n c q xs _ (h.below t) D X ts H F);have V:(ts.map Zyr).length=ts.length:=AE
 have L:=LH λ(W:World) (f:Option Addr) (g x y:Nat) (o:Kq W W f ts.length g (ts.map Zyr))=>rd_Of f ts.length g I x y (ts.map Zyr) ps W o U G;have Z:∀(w:World) (a:Addr) (k:FloatKind) (x y:Nat) (m:Mode),(store a (.complex k x y) m).run prog w=stored prog w a (.complex k x y) m:=λw a k x y m=>run_store prog w a _ m rfl;clear h D H F G V;go_enter func83,ntmps83;go_wp2_with fail;generalize w.alloc (.cells #[.slice none 0 0,.slice none 0 0] 130)=Y at *;(with_reducible refine CT.out.mono ?_);rintro e w1⟨J,c1,x,y,rfl,o,z⟩;have E:=S.ext z;have M:=LH (Zz t z);go_wp2_with fail;(with_reducible refine (L.out w1 J c1 x y o).mono ?_);rintro e l⟨d,c2,cs,rfl,P,R,B⟩;have j:=E.ext B;have N:=LH (Zz M.out B);have v0:=j.frozen 0;have v1:=j.frozen 1;have z0:l.cell? ⟨w,0,none⟩=some (.slice none 0 0):=j.cell 0;have z1:l.cell? ⟨w,1,none⟩=some (.slice none 0 0):=j.cell 1;go_wp2_with fail;have s:w.heap.size<w1.heap.size:=E.lt;have O:Blk ((l.setCell ⟨w,0,none⟩ (.slice none 0 0)).setCell ⟨w,1,none⟩ (.slice d ps.length c2)) w 130 #[.slice none 0 0,.slice d ps.length c2]:=(j.set 0 (.slice none 0 0)).set 1 (.slice d ps.length c2);have r:l.grownBy ((l.setCell ⟨w,0,none⟩ (.slice none 0 0)).setCell ⟨w,1,none⟩ (.slice d ps.length c2)) (some w):=Zc (Zd _ _ _ _) (Zd _ _ _ _);refine AW (Yu (p:=2) (u:=3) (v:=4) AB _ _ w 130 #[.slice none 0 0,.slice d ps.length c2] (0,0) _ rfl O underlying130 rfl AB) rfl ?_;exact⟨d,c2,cs,rfl,Zzw (Qg P r s) (DN s),R.keep r.size λk T C=>⟨r.block k T (by intro e;injection e with e;have:w1.heap.size<=k:=C;omega),BD (DN s) C⟩,Zg (Zg N.out _ _ _ (AJ _)) _ _ _ (AJ _)⟩
theorem rf_Read(A:Option Addr)(n c:Nat)(xs:List Nat)(G:Gr)(w:World)(h:Zq .u8 w A n c xs)(l:∀x∈xs,x<256)(hn:n<=4000)(ts:List Af)(P:Ml xs (xs.length+1) 0=some ts)(J:Dd ts<2)(hl:ts.length<=4000)(ps:List Prd)(N:srcP (ts.length+1) (ts.map Zyr)=some ps)(ag:ps.length<=4000)(M:∀q∈ps,q.right.length<=4000)(C:Zwy ps=some G):
 Calls prog 41 #[.slice A n c] w λe w'=>∃h,e = .returned (.tuple #[GV h G.start,.complex .f64 0 0,.int .i64 0])/\Yf w' h G/\h.n1<=24/\h.n2<=16/\h.n3<=40/\G.start=0/\Below w w w':=by
 have o:=Zy w (.cells #[.slice none 0 0,.slice none 0 0,.slice none 0 0,.int .i64 0] 26);have F:=Blk.new w 26 #[.slice none 0 0,.slice none 0 0,.slice none 0 0,.int .i64 0];have T:=LH (rf_Parse A n c (xs.length+1) (ts.length+1) xs _ (h.below o) l hn ts P J hl ps N);have ap:∀(w:World) (a:Addr) (k:FloatKind) (x y:Nat) (m:Mode),(store a (.complex k x y) m).run prog w=stored prog w a (.complex k x y) m:=λw a k x y m=>run_store prog w a _ m rfl;have R:=LH λ(W:World) (t:Option Addr) (B:Nat) (j:Prds W t ps.length B ps)=>rf_Build t ps.length B ps G W j ag M C;clear h l P J N M C;go_enter func41,ntmps41;go_wp2_with fail;generalize w.alloc (.cells #[.slice none 0 0,.slice none 0 0,.slice none 0 0,.int .i64 0] 26)=W0 at *;(with_reducible refine T.out.mono ?_);rintro e w1⟨g,c1,cs,rfl,E,j,r⟩;have H:=F.ext r;have D:=Zz o r;have ah:=(own_prds E j).below (Zy w1 (.cells #[.slice none 0 0,.slice g ps.length c1] 130));have I:=H.ext (Zy w1 (.cells #[.slice none 0 0,.slice g ps.length c1] 130));have U:=LH (Zo D (.cells #[.slice none 0 0,.slice g ps.length c1] 130));clear r D H E j o F;go_wp2_with fail;have S:=LH (R.out _ g c1 ah);generalize w1.alloc (.cells #[.slice none 0 0,.slice g ps.length c1] 130)=X at *;(with_reducible refine S.out.mono ?_);rintro e f⟨h,rfl,hF,O,Y,Z,b3,s⟩;have d:=I.ext s;have v0:=d.frozen 0;have v1:=d.frozen 1;have v2:=d.frozen 2;have v3:=d.frozen 3;have i0:f.cell? ⟨w,0,none⟩=some (.slice none 0 0):=d.cell 0;have i1:f.cell? ⟨w,1,none⟩=some (.slice none 0 0):=d.cell 1;have i2:f.cell? ⟨w,2,none⟩=some (.slice none 0 0):=d.cell 2;have i3:f.cell? ⟨w,3,none⟩=some (.int .i64 0):=d.cell 3;have V:=LH (Zz U.out s);have ak:w.heap.size<X.heap.size:=I.lt;have z:=LH O;clear O s;go_wp2_with fail;have ad:Blk ((((f.setCell ⟨w,0,none⟩ (.slice h.a1 h.n1 h.c1)).setCell ⟨w,1,none⟩ (.slice h.a2 h.n2 h.c2)).setCell ⟨w,2,none⟩ (.slice h.a3 h.n3 h.c3)).setCell ⟨w,3,none⟩ (.int .i64 0)) w 26 #[.slice h.a1 h.n1 h.c1,.slice h.a2 h.n2 h.c2,.slice h.a3 h.n3 h.c3,.int .i64 0] :=
  (((d.set 0 (.slice h.a1 h.n1 h.c1)).set 1 (.slice h.a2 h.n2 h.c2)).set 2 (.slice h.a3 h.n3 h.c3)).set 3 (.int .i64 0)
 have L:f.grownBy ((((f.setCell ⟨w,0,none⟩ (.slice h.a1 h.n1 h.c1)).setCell ⟨w,1,none⟩ (.slice h.a2 h.n2 h.c2)).setCell ⟨w,2,none⟩ (.slice h.a3 h.n3 h.c3)).setCell ⟨w,3,none⟩ (.int .i64 0)) (some w) :=
  Zc (Zc (Zc (Zd _ _ _ _) (Zd _ _ _ _)) (Zd _ _ _ _)) (Zd _ _ _ _)
 refine AW (Yu (p:=2) (u:=3) (v:=4) AB _ _ w 26 #[.slice h.a1 h.n1 h.c1,.slice h.a2 h.n2 h.c2,.slice h.a3 h.n3 h.c3,.int .i64 0] (0,0) _ rfl ad underlying26 rfl AB) rfl ?_;refine⟨h,by rw[z.out];rfl,hF _ L.size λb l aj=>L.block b l (by intro e;injection e with e;omega),Y,Z,b3,z.out,Zg (Zg (Zg (Zg V.out _ _ _ (AJ _)) _ _ _ (AJ _)) _ _ _ (AJ _)) _ _ _ (AJ _)⟩
theorem rf_told(A:Option Addr)(n c:Nat)(b:Bool)(x:Nat)(w:World)(h:Z1 w A n c b x):
 Calls prog 52 #[.agg #[.slice A n c,.bool b]] w (Xr w (Xm x)):=by
 have o:=Zy w (.cells #[.slice A n c,.bool b] 46);have q:=Blk.new w 46 #[.slice A n c,.bool b];have p:=(h.2.below o);have f:=h.2.len;have k:=h.cases;have l:=LH p;have j:=LH o;clear h p;go_enter func52,ntmps52;rcases k with ⟨d,rfl,ex⟩ | ⟨d,rfl,ex⟩
 ·have a:Xm x=(limbs x,0):=by unfold Xm;rw[if_pos d]
  rw[ex] at f l;have g:=LH a;have m:=LH f;clear a ex d f;go_wp2_with fail;go_ret2;unfold Xr;rw[g.out];exact⟨A,c,by rw[<-m.out];rfl,by rw[m.out];exact l.out,j.out⟩
 have a:Xm x=([],2):=by unfold Xm;rw[if_neg d]
 have g:=LH a;clear a ex d f;go_wp2_with fail;go_ret2;unfold Xr;rw[g.out];exact⟨none,0,rfl,Zq.nil _ _ _ _ AA,j.out⟩
theorem Zs0(w:World)(t:TypeId)(c1 c2:Array Value):Below w w ((w.alloc (.cells c1 t)).alloc (.cells c2 t)).drew/\Blk ((w.alloc (.cells c1 t)).alloc (.cells c2 t)).drew w t c1/\Blk ((w.alloc (.cells c1 t)).alloc (.cells c2 t)).drew (w.heap.size+1) t c2:=by
 have h1:=Blk.new w t c1;have b:=Blk.new (w.alloc (.cells c1 t)) t c2;have c:=Zy w (.cells c1 t);have a:=Zy (w.alloc (.cells c1 t)) (.cells c2 t);rw[Zl] at b;exact⟨(Zz c a).drew,Blk.drew (h1.ext a),Blk.drew b⟩
theorem rf_ReadC(A:Option Addr)(n c:Nat)(xs:List Nat)(G:Gr)(w:World)(a:readC xs=some G)(h:Zq .u8 w A n c xs)(d:∀x∈xs,x<256)(f:n<=4000):
 Calls prog 41 #[.slice A n c] w λe w'=>∃h,e = .returned (.tuple #[GV h G.start,.complex .f64 0 0,.int .i64 0])/\Yf w' h G/\h.n1<=24/\h.n2<=16/\h.n3<=40/\G.start=0/\Below w w w':=by
 unfold readC at a;split at a
 ·cases a
 rename_i ts k;split at a
 ·rename_i h1;split at a
  ·cases a
  rename_i ps g;split at a
  ·rename_i b;refine rf_Read A n c xs G w h d f ts k h1.1 h1.2 ps g b.1 (λq j=>?_) a;have:=BG.1 b.2 q j;simpa using this
  cases a
 cases a
theorem red22A:Xp Xt=true:=AB
theorem UnT.ex{G:Gr}(a:Xq G):∀(m n:Nat) (s:Int),s<0->Zp s<G.nons.length->mu G n s=m->∀r,r<Zv G s n->∃t,UnT G (Zp s) n r t:=by
 intro m
 induction m using Nat.strongRecOn with
 | ind m A =>
   intro n s h0 o D r f;rw[Uu a h0 o,<-Qj (Zv G) (AJ G.rules.length)] at f;obtain⟨i,x,v,hi,g,h,rfl,z⟩:=Zv0 f;have c:=AM g;obtain⟨t,y⟩:=UnL.ex a x.right n v (λd q E k hd b p l j B u=>by
    have C:=Zvg a c hd b p j l (s:=s) h.symm;refine A _ AA k q b (InG.rule a.fits c q (AM hd) b) rfl B u) z
   exact⟨i::t,i,x,v,t,g,h,y,rfl,rfl⟩
theorem Ztm(d:Option Addr)(c1 a:Nat)(f:Option Addr)(c2 b:Nat)(w:World)(h1:Zq .u32 w d (limbs a).length c1 (limbs a))(g:Zq .u32 w f (limbs b).length c2 (limbs b))(k:a+b<big):
 Calls prog 124 #[.slice d (limbs a).length c1,.slice f (limbs b).length c2] w λe w'=>∃A c,e = .returned (.slice A (limbs (a+b)).length c)/\Zq .u32 w' A (limbs (a+b)).length c (limbs (a+b))/\Below w w w':=by
 have CA:=nat_add d _ c1 (limbs a) f _ c2 (limbs b) w h1 g (Z9 _) (Z9 _);rw[Nz a b AA AA,Km k] at CA;have CA:=LH CA;clear h1 g;go_enter func124,ntmps124;go_wp2_with (first
  | (go_at_call 178
     (with_reducible refine CA.out.mono ?_);rintro e n⟨h,j,rfl,m,l⟩))
 go_ret;exact⟨h,j,rfl,m,l⟩
theorem Vj.one{G:Gr}{o rs':List Nat}{l er':Nat}(h:Vj G t o l)(g:Vj G t rs' er'):o=rs'/\l=er':=by
 rcases h with ⟨a,rfl,rfl⟩ | ⟨wd,ps,k,a,h⟩ <;> rcases g with ⟨d,rfl,rfl⟩ | ⟨v,s,q,d,g⟩
 ·exact⟨rfl,rfl⟩
 ·rw[a] at d;cases d
 ·rw[a] at d;cases d
 rw[a] at d;obtain⟨rfl,rfl,rfl⟩:wd=v/\ps=s/\k=q:=by simpa using d
 rcases h with ⟨b,rfl,rfl⟩ | ⟨b,c,rfl,rfl⟩ | ⟨b,c,rfl,u,r,m,e,rfl⟩ <;> rcases g with ⟨j,rfl,rfl⟩ | ⟨j,f,rfl,rfl⟩ | ⟨j,f,rfl,y,x,n,p,rfl⟩;all_goals first
  | exact⟨rfl,rfl⟩
  | omega
  | exact absurd f c
  | exact absurd c f
  | skip
 obtain rfl:=m.kept n (Ba (e.symm.trans p));have:=(m.parse (z:=[]) (z':=[]) n rfl).2.1;rw[this];exact⟨rfl,rfl⟩
theorem r23B{b:List Nat}{a:Nat}(h:Vj Xt [0] b a):b=[]/\a=1:=by
 refine h.one (.inl ⟨AB,rfl,rfl⟩)
section
open Ieee
theorem tr_walk(w0:World)(h:GH)(G:Gr)(gs:Int)(hg:Yf w0 h G)(ay:G.Fits)(p:Nat)(cu:w0.heap.size<=p):∀(q:Nat) (a:WSt) (non:Int) (w:World) (Ar:Option Addr) (cr:Nat) (l:Option Addr) (u:Nat) (g:Option Addr) (t:Nat),
 q<=400->a.rest.length<=q->a.word.length+6*a.rest.length<=4000->a.posts.length+a.rest.length<=4000->-100<=non->non<=100->Below w0 w0 w->Wr w0 w p h gs Ar cr l u g t a->
 Calls prog 175 #[.pointer (some ⟨p,0,none⟩),.int .i64 non] w (Walked w0 G q p h gs a non w):=by
 intro q
 induction q with
 | zero =>
   intro a non w Ar cr l u g t hq A V a4 bw bx hB k;have a0:a.rest=[]:=BL AA;obtain⟨hp,z2,z4,z5,z6,v4,v5,v6⟩:=k.cells;have S:a.rest.length=0:=by rw[a0];rfl
   rw[S] at z4;have m:=LH k;have f:=LH (B3 (G:=G) (q:=0) (non:=non) a0);clear k a0 A V a4 S;go_enter func175,ntmps175;go_wp2_with fail;go_ret;exact⟨Ar,cr,l,u,g,t,a,m.out,AL _ _,Less.refl _,.inl ⟨f.out,rfl⟩⟩
 | succ q ih =>
   intro a non w Ar cr l u g t hq A V a4 bw bx hB k;obtain⟨hp,z2,z4,z5,z6,v4,v5,v6⟩:=k.cells;cases B:a.rest with
   | nil =>
     have S:a.rest.length=0:=by rw[B];rfl
     rw[S] at z4;have m:=LH k;have f:=LH (B3 (G:=G) (q:=q+1) (non:=non) B);clear k B A V a4 S ih;go_enter func175,ntmps175;go_wp2_with fail;go_ret;exact⟨Ar,cr,l,u,g,t,a,m.out,AL _ _,Less.refl _,.inl ⟨f.out,rfl⟩⟩
   | cons i rest =>
     have aj:=k.rest;have cs:a.rest.length=rest.length+1:=by rw[B];rfl
     have dk:=aj.cap;obtain⟨b,C,i',rfl,hb,bj,q0⟩:=aj.get (j:=0) AA;obtain rfl:i=i':=by
      have:=bj.out;rw[B] at this;simpa using this
     rw[DG,<-hB.cell (p:=⟨b,C,none⟩) hb] at q0;rw[cs] at z4;obtain⟨a1,n1,c1,a2,n2,c2,a3,n3,c3⟩:=h;have e3:G.rules.length=n3:=hg.rules.len;have dt:n3<=40:=by have:=ay.n3;omega
     have k3:=hg.rules.cap;simp only[] at z2 k3;have m:=LH k;have N:=LH B;have Hg:=LH hg;have X:=LH ay;have HB:=LH hB;have cc:=LH aj;have IH:=LH ih;clear k B hg ay hB aj ih bj;by_cases dp:i<0
     ·have f:Hid (Y0 G (q+1) a non=none):=LH (Fd N.out λr A=>by
       obtain⟨j,hj,_⟩:=Uo A;omega)
      go_enter func175,ntmps175;go_wp2_with fail;go_ret;exact⟨_,cr,l,u,g,t,a,m.out,AL _ _,Less.refl _,.inl ⟨f.out,rfl⟩⟩
     by_cases dq:(n3:Int)<=i
     ·have f:Hid (Y0 G (q+1) a non=none):=LH (Fd N.out λr A=>by
       obtain⟨j,hj,co⟩:=Uo A;have:=(AO.1 co).1;omega)
      go_enter func175,ntmps175;go_wp2_with fail;go_ret;exact⟨_,cr,l,u,g,t,a,m.out,AL _ _,Less.refl _,.inl ⟨f.out,rfl⟩⟩
     obtain⟨d,rfl⟩:∃d:Nat,i=(d:Int):=⟨i.toNat,AA⟩;have cm:d<n3:=AA
     obtain⟨rb,a9,r,Arr,di,rfl,b0,bo,b5,dc,d6,a5⟩:=Hg.out.rules.get cm;rw[<-HB.out.cell (p:=⟨rb,a9+d*3,none⟩) b0] at b5;have ai:Ur G (d:Int)=some r:=by
      unfold Ur;rw[if_pos AA,DC];exact bo.out
     by_cases I:r.left=non
     case neg =>
      have du:(r.left != non)=true:=by rw[BM];exact I
      have f:Hid (Y0 G (q+1) a non=none):=LH (Fd N.out λr' ah=>by
       rw[ai] at ah;injection ah with ah;rw[<-ah];exact I)
      clear ai I;generalize r.left=rl at *;go_enter func175,ntmps175;go_wp2_with fail;go_ret;exact⟨_,cr,l,u,g,t,a,m.out,AL _ _,Less.refl _,.inl ⟨f.out,rfl⟩⟩
     rw[I] at b5;have bi:=LH (Zwq (q:=q) N.out ai I);rw[<-HB.out.cell (p:=⟨rb,a9+d*3+1,none⟩) b0] at dc;have dx:rb≠p:=AA
     have a6:=AM bo.out;have ds:=X.out.len r a6;have b2:=X.out.sym r a6;have dm:=X.out.n2;have dn:=X.out.n1;have dl:=a5.cap;have hT:=cc.out.tail 1 AA;rw[show a.rest.length-1=rest.length by omega,show a.rest.drop 1=rest by rw[N.out];rfl] at hT;have cd:=LH a5;have HT:=LH hT;have bu:(prog.info? 3).map (λi=>(i.zero,i.size,i.bytes))=some (some (.int .i64 0),1,8):=AB
     have bk:=LH bu;have a7:∀s∈r.right,-16<=s/\s<24:=λs hs=>by have:=b2 s hs;omega
     have ce:=LH a7;clear ai I a6 b2 a5 hT bu a7;generalize r.right=right at *;obtain⟨W,ab⟩:∃W,(if cr=1 then some (⟨b,C,none⟩:Addr) else some ⟨b,C+1,none⟩)=W:=⟨_,rfl⟩;rw[ab] at HT;have bz:=m.out.next HT.out;have Y:=LH bz;have cl:(cr=1/\W=some ⟨b,C,none⟩)\/(¬cr=1/\W=some ⟨b,C+1,none⟩):=by
      by_cases hc:cr=1
      ·exact .inl ⟨hc,by rw[<-ab,if_pos hc]⟩
      exact .inr ⟨hc,by rw[<-ab,if_neg hc]⟩
     clear bz ab;rcases cl with ⟨bt,rfl⟩ | ⟨bt,rfl⟩
     case' inl =>
      have b1:rest.length=0:=AA
      subst bt;rw[b1] at Y;go_enter func175,ntmps175;go_wp2_with fail;obtain⟨az,ax⟩:=Y.out;generalize w.setCell ⟨p,4,none⟩ (.slice (some ⟨b,C,none⟩) 0 (1-1))=W1 at *;clear b1
     case' inr =>
      go_enter func175,ntmps175;go_wp2_with fail;obtain⟨az,ax⟩:=Y.out;generalize w.setCell ⟨p,4,none⟩ (.slice (some ⟨b,C+1,none⟩) rest.length (cr-1))=W1 at *
     all_goals
      have ca:=LH az;have b8:=LH ax;clear az ax Y;go_loopw [6,65] (λv6 db wr=>∃(k top:Nat) (c:WSt) (L:Option Addr) (P:Nat) (E:Option Addr) (H:Nat) (D:Option Addr) (F:Nat),v6 = .int .i64 (top:Int)/\db = .int .i64 (k:Int)/\k<=right.length/\top<=q/\c.rest.length<=rest.length /\
       c.word.length+6*c.rest.length+(right.length-k)<=a.word.length+6*(rest.length+1)/\c.posts.length+c.rest.length+1<=a.posts.length+(rest.length+1)/\Hid (Wr w0 wr p ⟨a1,n1,c1,a2,n2,c2,some ⟨rb,a9,none⟩,n3,c3⟩ gs L P E H D F c)/\Hid (Below p W1 wr) /\
       Hid (Wt (Y0 G q) right { a with rest:=rest } 0=Wt (Y0 G q) (right.drop k) c top)) (λ_ v _=>right.length-(intOf v).toNat)
      case atStart =>
       exact⟨0,0,_,_,_,_,_,_,_,rfl,rfl,AV _,AV _,AJ _,by simp only[];omega,by simp only[];omega,ca,LH (AL _ _),LH rfl⟩
      obtain⟨k,top,c,L,P,E,H,D,F,rfl,rfl,hk,cz,m1,m2,m3,o,ap,aa⟩:=hrel;have av:Below p w wr:=b8.out.trans ap.out;have bg:=LH av;have bf:=LH (HB.out.trans (av.mono cu));obtain⟨dw,y2,y4,y5,y6,u4,u5,u6⟩:=o.out.cells;clear av;by_cases cq:k<right.length
      case neg =>
       have bv:k=right.length:=AA
       have aq:Hid (Y0 G (q+1) a non=some ({ c with posts:=c.posts++[(d:Int)] },top+1)):=LH (by
        rw[bi.out,aa.out,List.drop_eq_nil_of_le AA,Wt];rfl)
       have bm:=LH o.out.posts;have dh:=LH bv;subst bv;go_wp2_with (first
        | (at_builtin;refine Ye rfl _ _ 27 rfl (p+1) 3 _ 1 8 underlying27 bk.out AC AC D c.posts.length F (ints .i64 c.posts) rfl bm.out [.int .i64 (d:Int)] rfl rfl (by simp[Value.oneCell']) AA AA AA ?_;intro J O w4 U z R
           have y:=o.out.blk.grown z (by intro e;have:=(bm.out.lt p e.symm).1;omega);have x5:w4.cell? ⟨p,6,none⟩=some (.slice D c.posts.length F):=y.cell 6;have x6:=y.frozen 6;have M:=LH (o.out.putP (d:Int) J O U z R);clear y U z R))
       go_ret;have cv:(c.posts++[(d:Int)]).length=c.posts.length+1:=AE
       refine⟨L,P,E,H,J,O,{ c with posts:=c.posts++[(d:Int)] },M.out.1,bg.out.trans M.out.2,⟨?_,?_,?_⟩,.inr ⟨top+1,aq.out,AA,AA,?_⟩⟩
       ·show c.rest.length<=a.rest.length;omega
       ·show c.word.length+6*c.rest.length<=a.word.length+6*a.rest.length;omega
       ·show (c.posts++[(d:Int)]).length+c.rest.length<=a.posts.length+a.rest.length;rw[cv];omega
       first
        | rfl
        | (congr 2;omega)
      obtain⟨sb,so,s,rfl,a7,Z,qs⟩:=(cd.out.below bf.out).get cq;have dy:=ce.out s (AM Z.out);by_cases h0:0<=s
      case pos =>
       have bn:=LH o.out.word;have cb:=LH h0;go_wp2_with (first
        | (at_builtin;refine Ye rfl _ _ 27 rfl (p+1) 3 _ 1 8 underlying27 bk.out AC AC E c.word.length H (ints .i64 c.word) rfl bn.out [.int .i64 s] rfl rfl (by simp[Value.oneCell']) AA AA AA ?_;intro J O w4 U z R
           have y:=o.out.blk.grown z (by intro e;have:=(bn.out.lt p e.symm).1;omega);have x5:w4.cell? ⟨p,5,none⟩=some (.slice E c.word.length H):=y.cell 5;have x6:=y.frozen 5;have M:=LH (o.out.putW s J O U z R);clear y U z R))
       have V:(c.word++[s]).length=c.word.length+1:=AE
       go_roundw
       case rel=>exact⟨k+1,top,{ c with word:=c.word++[s] },L,P,J,O,D,F,rfl,AF,AA,cz,m1,by show (c.word++[s]).length+6*c.rest.length+(right.length-(k+1))<=a.word.length+6*(rest.length+1);rw[V];omega,m3,LH M.out.1,LH (ap.out.trans M.out.2),LH (by rw[aa.out,Zxx Z.out (by have:=cb.out;omega)])⟩
       simp[intOf];omega
      have bl:=LH h0;have dz:IntKind.i64.wrap (-1-s)=-1-s:=BS _ AA;have CI:=LH (IH.out c (-1-s) wr L P E H D F AA AA AA AA AA AA bf.out o.out);go_wp2_with fail;(with_reducible refine CI.out.mono ?_);rintro e w5⟨bd,br,be,bs,bc,bq,b3,k5,ae,x,⟨T,rfl⟩ | ⟨n,T,bw,bx,rfl⟩⟩
      ·have aq:Hid (Y0 G (q+1) a non=none):=LH (by rw[bi.out,aa.out,Zwv Z.out (by have:=bl.out;omega) T];rfl);have ar:=LH k5;have ao:=LH ae;have L1:=x.rest;have L2:=x.word;have L3:=x.posts;clear k5 ae x T;go_wp2_with fail;go_ret;exact⟨bd,br,be,bs,bc,bq,b3,ar.out,bg.out.trans ao.out,⟨AA,AA,AA⟩,.inl ⟨aq.out,rfl⟩⟩
      have cf:=LH (Zxs (top:=top) Z.out (by have:=bl.out;omega) T);have ar:=LH k5;have ao:=LH ae;have L1:=x.rest;have L2:=x.word;have L3:=x.posts;have dv:((n:Int)==0)=false:=by rw[AQ];omega
      clear k5 ae x T;go_wp2_with fail;refine⟨⟨k+1,max top n,b3,bd,br,be,bs,bc,bq,by rw[show max (top:Int) (n:Int)=((max top n:Nat):Int) by omega],AF,AA,AA,AA,AA,AA,ar,LH (ap.out.trans ao.out),LH (by rw[aa.out,cf.out])⟩,?_⟩;simp[intOf];omega
theorem tr_read(h:GH)(G:Gr)(At:Option Addr)(n c:Nat)(t:List Int)(w:World)(z:Yf w h G)(F:∀t∈G.terms,t.name.size<=maxLen)(u:Za .i64 w At n c t)(ar:n<=400)(h1:h.n1<=100)(U:h.n2<=100)(V:h.n3<=100):
 Calls prog 122 #[GV h G.start,.slice At n c] w λe w'=>Below w.heap.size w w' /\
  ((Xl G t=none/\∃a,e = .returned (.tuple #[.pointer a,.int .i64 0]))\/(∃wd ps k p,Xl G t=some (wd,ps,k)/\0<k/\k<=400/\e = .returned (.tuple #[.pointer (some ⟨p,0,none⟩),.int .i64 (k:Int)])/\p<w'.heap.size/\Zsu w' p wd ps)):=by
 obtain rfl:=u.len;have ao:=u.cap;obtain⟨a1,n1,c1,a2,n2,c2,a3,n3,c3⟩:=h;simp only[] at h1 U V;have B:=Zy w (.cells #[.slice a1 n1 c1,.slice a2 n2 c2,.slice a3 n3 c3,.int .i64 G.start] 26);have Y:=Y1.new w 26 ⟨a1,n1,c1,a2,n2,c2,a3,n3,c3⟩ G.start;have O:=LH z;have P:=LH u;have L:=LH (J4 ⟨a1,n1,c1,a2,n2,c2,a3,n3,c3⟩ G _ (z.below B) F (by simp only[];omega) (by simp only[];omega));clear z u F;go_enter func122,ntmps122;go_wp2_with fail;generalize w.alloc (.cells #[.slice a1 n1 c1,.slice a2 n2 c2,.slice a3 n3 c3,.int .i64 G.start] 26)=W0 at *;(with_reducible refine L.out.mono ?_);rintro e o⟨rfl,D⟩;have j:=Zz B D;have Z:=Y.below D;have⟨y5,y0,y1,y2,y3⟩:=Z;simp only[] at y0 y1 y2 y3;rcases m:G.right with _ | _
 ·have d:Hid (Xl G t=none):=LH (by unfold Xl;rw[m];rfl);clear m;go_wp2_with fail;refine AW (results_tmp2 rfl _ _ _) rfl ?_;exact⟨j,.inl ⟨d.out,_,rfl⟩⟩
 by_cases an:(300:Int)<(t.length:Int)
 ·have d:Hid (Xl G t=none):=LH (by unfold Xl;rw[m,show decide (t.length<=300)=false by rw[BA];omega];rfl);clear m;go_wp2_with fail;refine AW (results_tmp2 rfl _ _ _) rfl ?_;exact⟨j,.inl ⟨d.out,_,rfl⟩⟩
 have r:=Gr.fits m;have au:=r.st;have ap:=r.n2;have q:Hid (Xl G t=match Y0 G t.length ⟨t,[],[]⟩ G.start with | none=>none | some (st,n)=>if st.rest=[] then some (st.word,st.posts,n) else none):=LH (by
  unfold Xl;rw[m,show decide (t.length<=300)=true by rw[BB];omega];rfl)
 have E:Wr w (o.alloc (.cells #[.slice a1 n1 c1,.slice a2 n2 c2,.slice a3 n3 c3,.int .i64 G.start,.slice At t.length c,.slice none 0 0,.slice none 0 0] 167)) o.heap.size ⟨a1,n1,c1,a2,n2,c2,a3,n3,c3⟩ G.start At c none 0 none 0 ⟨t,[],[]⟩ :=
  ⟨Blk.new _ _ _,P.out,BJ _ _ _ _,BJ _ _ _ _,λb X _=>by cases X⟩
 have y:=Zo j (.cells #[.slice a1 n1 c1,.slice a2 n2 c2,.slice a3 n3 c3,.int .i64 G.start,.slice At t.length c,.slice none 0 0,.slice none 0 0] 167);have M:=LH (tr_walk w ⟨a1,n1,c1,a2,n2,c2,a3,n3,c3⟩ G G.start O.out r o.heap.size j.size t.length ⟨t,[],[]⟩ G.start _ At c none 0 none 0 AA (AJ _) (by show 0+6*t.length<=4000;omega) (by show 0+t.length<=4000;omega) AA AA y E);have ab:w.heap.size<=o.heap.size:=j.size;clear m r E;go_wp2_with fail;have aj:=LH j;have N:=LH y;generalize o.alloc (.cells #[.slice a1 n1 c1,.slice a2 n2 c2,.slice a3 n3 c3,.int .i64 G.start,.slice At t.length c,.slice none 0 0,.slice none 0 0] 167)=W2 at *;generalize o.heap.size=p at *;clear j y;(with_reducible refine M.out.mono ?_);rintro e w3⟨ai,am,J,T,I,S,g,v,C,W,A⟩;obtain⟨ad,z2,z4,z5,z6,_,_,_⟩:=v.cells;have x:=LH (N.out.trans (C.mono ab));have H:Zsu w3 p g.word g.posts:=⟨J,T,I,S,z5,z6,Yl v.word,Yl v.posts⟩;have R:=LH H;clear v C W H;by_cases l:g.rest=[]
 ·have s:g.rest.length=0:=by rw[l];rfl
  rw[s] at z4;rcases A with ⟨f,rfl⟩ | ⟨k,f,aa,aq,rfl⟩
  ·have d:Hid (Xl G t=none):=LH (by rw[q.out,f]);clear f l s;go_wp2_with fail;refine AW (results_tmp2 rfl _ _ _) rfl ?_;exact⟨x.out,.inl ⟨d.out,_,rfl⟩⟩
  have d:Hid (Xl G t=some (g.word,g.posts,k)):=LH (by rw[q.out,f];exact if_pos l);clear f l s;go_wp2_with fail;refine AW (results_tmp2 rfl _ _ _) rfl ?_;exact⟨x.out,.inr ⟨_,_,k,p,d.out,aa,AA,rfl,ad,R.out⟩⟩
 have s:0<g.rest.length:=List.length_pos_iff.2 l;have d:Hid (Xl G t=none):=LH (by
  rcases A with ⟨f,_⟩ | ⟨k,f,_⟩
  ·rw[q.out,f]
  rw[q.out,f];exact if_neg l)
 generalize g.rest.length=rl at *;rcases A with ⟨_,rfl⟩ | ⟨k,_,_,_,rfl⟩;all_goals
  clear l;go_wp2_with fail;refine AW (results_tmp2 rfl _ _ _) rfl ?_;exact⟨x.out,.inl ⟨d.out,_,rfl⟩⟩
theorem tr_Word(h:GH)(G:Gr)(At:Option Addr)(n c:Nat)(t:List Int)(w:World)(o:Yf w h G)(r:∀t∈G.terms,t.name.size<=maxLen)(s:Za .i64 w At n c t)(D:n<=400)(h1:h.n1<=100)(B:h.n2<=100)(C:h.n3<=100):
 Calls prog 69 #[GV h G.start,.slice At n c] w λe w'=>Below w w w' /\
  ((Xl G t=none/\e = .returned (.tuple #[.slice none 0 0,.int .i64 1]))\/(∃wd ps k A l,Xl G t=some (wd,ps,k)/\e = .returned (.tuple #[.slice A wd.length l,.int .i64 0])/\Za .i64 w' A wd.length l wd)):=by
 have b:=Zy w (.cells #[.slice h.a1 h.n1 h.c1,.slice h.a2 h.n2 h.c2,.slice h.a3 h.n3 h.c3,.int .i64 G.start] 26);have x:=LH (tr_read h G At n c t _ (o.below b) r (s.below b) D h1 B C);have m:=LH b;clear o r s;go_enter func69,ntmps69;go_wp2_with fail;generalize w.alloc (.cells #[.slice h.a1 h.n1 h.c1,.slice h.a2 h.n2 h.c2,.slice h.a3 h.n3 h.c3,.int .i64 G.start] 26)=I at *;(with_reducible refine x.out.mono ?_);rintro e J⟨f,⟨d,a,rfl⟩ | ⟨wd,ps,k,p,d,M,N,rfl,P,E⟩⟩
 ·have g:=LH (Zz m.out f);have j:=LH d;clear d f b;go_wp2_with fail;refine AW (results_tmp2 rfl _ _ _) rfl ?_;exact⟨g.out,.inl ⟨j.out,rfl⟩⟩
 have g:=LH (Zz m.out f);have j:=LH d;obtain⟨v,z,F,L,R,S,u,q⟩:=E;have y:=LH u;have H:=LH q;have O:((k:Int)==0)=false:=by rw[AQ];omega
 clear d f b u q;go_wp2_with fail;refine AW (results_tmp2 rfl _ _ _) rfl ?_;exact⟨g.out,.inr ⟨wd,ps,k,v,z,j.out,rfl,y.out⟩⟩
end
section
open Go.Maps (Keyed IsMap Tidy)
theorem red_id{G:Gr}(a:G.right=true)(p:∀i,i<G.nons.length->(Qm G).testBit i=true):Zi G=G:=by
 have c:=Gr.fits a;obtain⟨_,_,_,u,t⟩:=Nd.1 a;have g:∀i,i<G.nons.length->(Zt G).getD i false=true/\(Z5 G).getD i false=true:=λi hi=>(Gl G c i).1 (p i hi);have k:∀r∈G.rules,∀s∈r.right,s<0->Zp s<G.nons.length:=λr a s b h0=>by
  have:=c.sym r a s b;unfold Zp;omega
 have h:Yh G=G.rules:=by
  unfold Yh;rw[List.filter_eq_self];intro r a;have q:=c.left r a;unfold Ky;rw[AS];exact⟨(g _ AA).2,U8.2 λs b=>⟨λ_=>rfl,λh0=>(g _ (k r a s b h0)).1⟩⟩
 have f:Ze G=List.range G.nons.length:=by
  unfold Ze;rw[h,lefts_range G _ _ t];congr 1;omega
 have h1:(Ze G).map (Ws G)=G.nons:=by
  rw[f];refine List.ext_getElem? λj=>?_;rw[By];by_cases d:j<G.nons.length
  ·rw[List.getElem?_range d,AN d];show some (Ws G j)=_;unfold Ws;rw[AN d];rfl
  rw[BE (by simpa using d),BE AA];rfl
 have n:(Yh G).map (Wb (Ze G))=G.rules:=by
  rw[h,f]
  conv=>rhs;rw[<-List.map_id G.rules]
  refine List.map_congr_left λr a=>?_;have q:=c.left r a;have l:toI (List.range G.nons.length) r.left.toNat=r.left:=by rw[Am AA];omega
  have m:r.right.map (Xd (List.range G.nons.length))=r.right:=by
   conv=>rhs;rw[<-List.map_id r.right]
   refine List.map_congr_left λs b=>?_;unfold Xd;split
   ·rename_i h0;rw[Am (k r a s b h0)];show -1-((Zp s:Nat):Int)=s;exact Fr h0
   rfl
  unfold Wb;rw[l,m];rfl
 have o:toI (Ze G) G.start.toNat=G.start:=by rw[f,Am AA];omega
 unfold Zi;rw[h1,n,o]
end
section
open Go.Maps (Keyed IsMap Tidy)
open Go.Maps (Keyed IsMap Tidy)
variable {W0:World} {k:BkH} {h:GH} {G:Gr} {S':Nat->Prop} {w:World} {gR:Nat} {b:Nat->Bool} {u:Nat->Value} {X:World}
variable {P:Program} {w:World}
theorem Nk{o:Oper}{a:Act}(D:o.guard=none)(s x:Operand)(t:TypeId)(F:o.op = .call { callee := .builtin .append,args:=#[s,x],argTypes:=#[t,t] })(base:Nat)(bytes:Nat)(L:P.underlying t=some (.slice 3))(hi:(P.info? 3).map (λi=>(i.zero,i.size,i.bytes))=some (some (.int .i64 0),1,bytes))(A:Option Addr)(n c:Nat)(xs:List Int)(J:a.eval s = .slice A n c)(G:M4 w base A n c xs)(y:Int)(M:a.eval x = .slice (some ⟨w,0,none⟩) 1 1)(q:n+1<=maxLen)(B:(n+1)*bytes<=140737488355328)(z:base<=w.heap.size)(h:∀d f w',M4 w' base d (n+1) f (xs++[y])->(w.alloc (.cells #[.int .i64 y] 3)).grownBy w' (Value.slice A n c).ownBlock->(∀b,(Value.slice d (n+1) f).ownBlock=some b->b<w.heap.size->(Value.slice A n c).ownBlock=some b)->
   wpList P ops Q rest (a.put o.dst (.slice d (n+1) f)) w'):wpList P ops Q (o::rest) a (w.alloc (.cells #[.int .i64 y] 3)):=by
 have g:=Zy w (.cells #[.int .i64 y] 3);have H:M4 (w.alloc (.cells #[.int .i64 y] 3)) base A n c xs:=G.off (S:=λ_=>False) (Off.of_below g) λ_ _ h=>h;have C:∀(j:Nat) (u:Value),(ints .i64 [y])[j]? = some u->(w.alloc (.cells #[.int .i64 y] 3)).cell? ((⟨w,0,none⟩:Addr).add j)=some u:=λj u k=>by
  rcases j with _ | j
  ·rw[show (⟨w,0,none⟩:Addr).add 0=⟨w,0,none⟩ from rfl,cell_of_row _ w _ _ _ _ (heap_alloc_new w _)];exact k
  cases k
 obtain⟨d,f,w',I,l,m,p⟩:=run_appendR (P:=P) base t o.type bytes L hi A n c xs H ⟨w,0,none⟩ 1 1 [y] rfl AC C q B (BD z g.size);refine wpList_plain D λK r=>?_;unfold Oper.wp execOp;simp only[F,resolve,invoke,builtin,Sem.run_bind,Sem.run_pure,Result.andThen_ok,List.map_toArray,CJ,List.map_nil,J,M,I];exact r _ _ (h d f w' l m λb v E=>p b v (AK E g.size))
end
section
variable {W0:World} {k:BkH} {h:GH} {G:Gr} {tk:Nat} {z:List Int} {S:Nat->Prop} {A:Option Addr} {c:Nat} {W:World}
theorem Cc.next{i:Int}{b o:Nat}(M:Cc W0 k h G tk (i::z) S (some ⟨b,o,none⟩) c W)(m:(if c=1 then some (⟨b,o,none⟩:Addr) else some ⟨b,o+1,none⟩)=a):
 Cc W0 k h G tk z S a (c-1) (W.setCell ⟨tk,1,none⟩ (.slice a z.length (c-1)))/\Zf W (W.setCell ⟨tk,1,none⟩ (.slice a z.length (c-1))):=by
 have g:=Off.of_set W tk 1 (.slice a z.length (c-1));have n:Qf W tk:=λo k z j=>by
  rw[M.box.cell o] at j;rcases o with _ | _ | o <;> cases j
 have f:Zf W (W.setCell ⟨tk,1,none⟩ (.slice a z.length (c-1))):=Zf.of_off g λq d=>by rw[d];exact n
 have l:=M.row.tail1;rw[m,show (i::z).length-1=z.length from rfl] at l;refine⟨⟨M.bk.move g f λq d=>?_,M.box.set 1 _,l.kept f,M.own,λq d=>AK (M.lt q d) g.size,M.low⟩,f⟩;subst d;refine⟨M.own,M.low,λe=>?_,M.bk.not_map M.box⟩;have h1:=M.bk.box;rw[<-e] at h1;exact absurd (h1.same_ty M.box) AC
end
section
variable {G:Gr}
theorem fs_red(b:G.Fits){ss d:List Int}{m:Nat}(h:Fs G ss ps d wd m):(∀s∈ss,s<0->Zp s∈Ze G)->
 ∃u r,UnL (Zi G) (ss.map (Xd (Ze G))) wd.length r u/\ps=(u.map (Yr G)).map λi:Nat=>(i:Int):=by
 induction h with
 | nil=>intro _;exact⟨[],0,.nil,rfl⟩
 | @term s ss ps d wd m h0 _ C =>
   intro a;obtain⟨u,r,y,e⟩:=C λs h=>a s (.tail _ h);refine⟨u,r,?_,e⟩;rw[CJ,AZ];exact .term (by unfold Xd;rw[if_neg AA];exact h0) y
 | @non s i r ss L M w1 ps d wd J m h0 x H p _ D E =>
   intro a;obtain⟨j,rfl,f⟩:=Uo x;have l:=AM f;have I:=b.left r l;have c:=a s (AX ..) h0;have e:Zp s=r.left.toNat:=by unfold Zp;omega
   have g:r∈Yh G:=Zub b l (by rw[<-e];exact c) (U8.2 λs a=>⟨λ_=>rfl,λh0=>Ztu b p s a h0⟩);obtain⟨k,q,t⟩:=kept_at b f g;obtain⟨u1,N,z,n⟩:=D λs h=>Qz b g h;obtain⟨u2,O,A,o⟩:=E λs h=>a s (.tail _ h);have F:=G8 h0 c;have B:(Wb (Ze G) r).left.toNat=Zp (Xd (Ze G) s):=by
    show (toI (Ze G) r.left.toNat).toNat=_;rw[<-e];omega
   have v:=UnL.non ((Mk s λ_=>c).2 h0) t B z A;refine⟨k::(u1++u2),_,by rw[CJ,AU];exact v,?_⟩;rw[CJ,CJ,DF,DF,<-n,<-o,q]
theorem Zvp(a:G.Fits)(h:(Zt G).getD G.start.toNat false=true):(∀s∈[-1-G.start],s<0->Zp s∈Ze G)/\Xd (Ze G) (-1-G.start)<0/\Zp (Xd (Ze G) (-1-G.start))=(Zi G).start.toNat:=by
 have h1:=Jm a h;have d:=a.st;have e:Zp (-1-G.start)=G.start.toNat:=by unfold Zp;omega
 refine⟨λs b _=>?_,?_,?_⟩
 ·rw[BU] at b;rw[b,e];exact h1
 ·exact (Mk _ λ_=>by rw[e];exact h1).2 AA
 have c:=G8 (o:=Ze G) (s:=-1-G.start) AA (by rw[e];exact h1);rw[e] at c;show _=(toI (Ze G) G.start.toNat).toNat
 omega
theorem Zxc{k:Nat}(h:Xl G t=some (wd,ps,k)):G.right=true/\t.length<=300/\∃u r,UnT (Zi G) (Zi G).start.toNat wd.length r u/\t=(u.map (Yr G)).map λi:Nat=>(i:Int):=by
 obtain⟨f,l,b⟩:=Zz4 h;have a:=Gr.fits f;have c:=Ztu a b (-1-G.start) (AX ..) (by have:=a.st;omega);have e:Zp (-1-G.start)=G.start.toNat:=by have:=a.st;unfold Zp;omega
 rw[e] at c;obtain⟨h1,g,j⟩:=Zvp a c;obtain⟨u,r,n,m⟩:=fs_red a b h1;obtain⟨q,d⟩:=un_single g n;rw[j] at d;exact⟨f,l,u,q,d,m⟩
end
section
open Go.Shelf
theorem tr_Index(A:Option Addr)(n c:Nat)(l:List Int)(x:Int)(w:World)(h:Za .i64 w A n c l):
 Calls prog 71 #[.slice A n c,.int .i64 x] w λe w'=>e = .returned (.int .i64 (Lib.idxOf l x))/\w=w':=by
 have r:=h.cap;obtain rfl:=h.len;by_cases d:l=[]
 ·subst d;refine (Tryz.slices_Index_int_empty A c x w).mono ?_;rintro e w'⟨rfl,rfl⟩;exact⟨rfl,rfl⟩
 have o:0<l.length:=List.length_pos_iff.2 d;obtain⟨b,f,s,rfl,_⟩:=h.get o;have k:∀j,j<l.length->w.cell? ⟨b,f+j,none⟩=some (.int .i64 (l.getD j 0)):=λj m=>by
  obtain⟨q,t,u,a,_,g,p⟩:=h.get m;injection a with a;injection a with e1 e2 e3;subst e1;subst e2;rw[AP,g];exact p
 refine (Tryz.slices_Index_int b f l.length c l x w (AJ _) AA k).mono ?_;rintro e w'⟨rfl,rfl⟩;rw[AR (AJ _)];exact⟨rfl,rfl⟩
end
