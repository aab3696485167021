/- the reference's reading: a reader's small steps: kind, is, take. -/
import Derived.Test.YtaagompdgiobeaaGreatDoorV15
import Derived.Test.YtaagompdgiobeaaGreatDoorV17
import Derived.Test.YtaagompdgiobeaaGreatDoorV18
set_option linter.all false
set_option maxHeartbeats 1500000
set_option maxRecDepth 100000
namespace Go.Proofs.YtaagompdgiobeaaGreatDoor
open Go.RowKit Go.Proofs.Tryz
variable{w':World}{n:Nat}{f:List Value}{p:List (List Nat)}{a A0:Option Addr}{xs:List Nat}{S:Nat->Prop}
theorem rf_Tokens(A:Option Addr)(n c q:Nat)(xs:List Nat)(w:World)(h:Zq .u8 w A n c xs)(hb:∀x∈xs,x<256)(hn:n<=4000)(ts:List Af)(aw:Ml xs q 0=some ts)(hc:Dd ts<2):
 Calls prog 69 #[.slice A n c] w λe w'=>∃f g x y,e = .returned (.tuple #[.slice f ts.length g,.complex .f64 x y,.int .i64 0])/\Kq w' w' f ts.length g (ts.map Zyr)/\Below w w w':=by
 obtain rfl:=h.len;have be:=h.cap;have H:=LH h;have Hb:=LH hb;have Hc:=LH hc;have a3:=LH aw;have ao:(prog.info? 181).map (λi=>(i.zero,i.size,i.bytes))=some (some (.agg #[.int .i64 0,.string ⟨#[]⟩,.complex .f64 0 0]),3,40):=AB
 have a0:=LH ao;have bi:∀(w:World) (a:Addr) (k:FloatKind) (x y:Nat) (m:Mode),(store a (.complex k x y) m).run prog w=stored prog w a (.complex k x y) m:=λw a k x y m=>run_store prog w a _ m rfl;clear h hb hc ao aw;go_enter func69,ntmps69;go_wp2_with fail;go_loopw [5,6,7] (λo a m wr=>∃(i mk d g:Nat) (f:Option Addr) (done R:List Af) (cs:List Value),o = .slice f d g/\a = .int .i64 (i:Int)/\m = .int .i64 (mk:Int)/\i<=xs.length/\d<=i/\mk<2 /\
  Hid (d=done.length)/\Hid (mk=Dd done)/\Hid (∃Z,Ml xs Z i=some R)/\Hid (done++R=ts)/\Hid (wr.ownsRow w 181 3 (.slice f d g) d cs)/\Hid (Dp cs (done.map Zyr))/\Below w w wr) (λ_ a _ _=>xs.length-(intOf a).toNat)
 case atStart=>exact⟨0,0,0,0,none,[],ts,[],rfl,rfl,rfl,AA,AA,AA,LH rfl,LH rfl,LH ⟨q,a3.out⟩,LH rfl,LH (BN _ _ _ _),LH Dp.nil,AL _ _⟩
 obtain⟨i,mk,d,g,f,done,R,cs,rfl,rfl,rfl,hi,hd,bg,U,M,X,C,W,L,v⟩:=hrel;by_cases O:i<xs.length
 case neg =>
  obtain rfl:i=xs.length:=AA
  have CT:=LH (B0 A xs.length c xs (xs.length:Int) wr (H.out.below v) AA);have V:Hid (done=ts/\d=ts.length):=LH (by
   obtain⟨Z,P⟩:=X.out;have e:=C.out;rw[toksP_end P (AJ _),DK] at e;exact⟨e,by rw[U.out,e]⟩)
  obtain⟨l,p,D⟩:∃a b,atP xs (xs.length:Int) = .complex .f64 a b:=by
   unfold atP PV;split
   ·exact⟨_,_,rfl⟩
   exact⟨_,_,rfl⟩
  rw[D] at CT;clear D;go_wp2_with (go_at_call 129;(with_reducible refine CT.out.mono ?_);rintro e B⟨rfl,rfl⟩);refine AW (results_tmp3 rfl _ _ _) rfl ?_;refine⟨f,g,l,p,by rw[<-V.out.2];rfl,?_,v⟩;have ht:=own_toks W.out L.out;rw[V.out.1,V.out.2] at ht;exact ht
 obtain⟨Z,P⟩:=X.out;obtain⟨ar,ba⟩:=toksP_step P O;have I:=LH (rf_skip7 A xs.length c i xs wr (H.out.below v) Hb.out AA O ar);clear X P ar;rcases ba with ⟨E,S,F⟩ | ⟨E,t,j,rest,S,Y,F,rfl⟩
 ·rw[E,if_pos rfl] at I;have N:=LH F;clear F E;go_wp2_with (go_at_call 128;(with_reducible refine I.out.mono ?_);rintro e B⟨rfl,rfl⟩);go_roundw
  case rel=>exact⟨i+1,mk,d,g,f,done,R,cs,rfl,rfl,rfl,AA,AA,AA,U,M,LH ⟨S,N.out⟩,C,W,L,v⟩
  simp[intOf];omega
 rw[E,if_neg DG] at I;obtain⟨bf,ap⟩:=oneP_lt O Y;have G:=LH (rf_one A xs.length c i xs wr (H.out.below v) Hb.out AA O t j Y);have N:=LH F;have a1:Hid (Dd (done++[t])<2):=LH (by
  have u:=Hc.out;rw[<-C.out,show done++t::rest=(done++[t])++rest by simp,Cw] at u;omega)
 obtain⟨l,p,D⟩:∃a b,atP xs (i:Int) = .complex .f64 a b:=by
  unfold atP PV;split
  ·exact⟨_,_,rfl⟩
  exact⟨_,_,rfl⟩
 rw[D] at G;have ag:Hid (done++[t]++rest=ts):=LH (by rw[<-C.out];simp);have az:=LH (Dp.snoc L.out (Zyr t) l p);have T:Hid (Dd [t]=if t.kind=9 then 1 else 0):=LH (by
  unfold Dd;by_cases r:t.kind=9
  ·simp[r]
  simp[r])
 have Ht:Hid (Zyr t=(t.kind,str t.text)):=rfl;clear F E Y D L C;generalize av:Zyr t=tk at *;generalize a8:t.kind=s at *;generalize ax:str t.text=z at *;unfold TokV at G;rw[ax] at G;have a2:=LH av;clear a8 ax av;have r:((s==9)=true/\Hid (Dd [t]=1))\/((s==9)=false/\Hid (Dd [t]=0)):=by
  by_cases r:s=9
  ·exact .inl ⟨by simp[r],LH (by rw[T.out,if_pos r])⟩
  exact .inr ⟨by simp[r],LH (by rw[T.out,if_neg r])⟩
 clear T;rcases r with ⟨e9,J⟩ | ⟨e9,J⟩;all_goals
  go_wp2_with (first
   | (go_at_call 128;(with_reducible refine I.out.mono ?_);rintro e B⟨rfl,rfl⟩)
   | (go_at_call 130;(with_reducible refine G.out.mono ?_);rintro e B⟨rfl,ak⟩
      have al:=Zz v ak;have a6:=Zo al (.cells #[.int .i64 s,.string z,.complex .f64 l p] 181);have bd:w.heap.size<=B.heap.size:=al.size;have p5:=Zl B (.cells #[.int .i64 s,.string z,.complex .f64 l p] 181);have ah:=LH ((M5 W.out ak).alloc (.cells #[.int .i64 s,.string z,.complex .f64 l p] 181)))
   | (at_builtin;refine Ye (w:=B.alloc (.cells #[.int .i64 s,.string z,.complex .f64 l p] 181)) rfl _ _ 118 rfl w 181 _ 3 40 underlying118 a0.out AC AC f d g cs rfl ah.out [.int .i64 s,.string z,.complex .f64 l p] rfl (by rw[p5];rfl) (by simp[Value.oneCell']) AA AA AA ?_;intro A4 c4 w4 ho a7 ha))
  have a9:mk+Dd [t]<2:=by
   have u:=a1.out;rwa [Cw,<-M.out] at u
  rw[J.out] at a9;have ab:=LH (below_appendG a6 a7 ah.out AA);have ad:Hid (Dp (cs++[.int .i64 s,.string z,.complex .f64 l p]) ((done++[t]).map Zyr)):=LH (by
   have u:=az.out;rw[Ht.out] at u;rw[DJ,CU,List.map_nil,a2.out,Ht.out];exact u)
  have af:Hid (d+1=(done++[t]).length):=LH (by rw[AV,<-U.out];rfl);go_roundw
  case rel =>
   first
    | exact⟨j,mk+1,d+1,c4,A4,done++[t],rest,_,rfl,rfl,AF,ap,AA,AA,af,LH (by have u:=M.out;have h2:=J.out;rw[Cw];omega),LH ⟨S,N.out⟩,ag,LH ho,ad,ab.out⟩
    | exact⟨j,mk,d+1,c4,A4,done++[t],rest,_,rfl,rfl,rfl,ap,AA,AA,af,LH (by have u:=M.out;have h2:=J.out;rw[Cw];omega),LH ⟨S,N.out⟩,ag,LH ho,ad,ab.out⟩
  simp[intOf];omega
theorem rf_Parse(A:Option Addr)(n c q I:Nat)(xs:List Nat)(w:World)(h:Zq .u8 w A n c xs)(D:∀x∈xs,x<256)(X:n<=4000)(ts:List Af)(H:Ml xs q 0=some ts)(F:Dd ts<2)(U:ts.length<=4000)(ps:List Prd)(G:srcP I (ts.map Zyr)=some ps):
 Calls prog 33 #[.slice A n c] w λe w'=>∃f g cs,e = .returned (.tuple #[.agg #[.slice none 0 0,.slice f ps.length g],.complex .f64 0 0,.int .i64 0])/\w'.ownsRow w 132 5 (.slice f ps.length g) ps.length cs/\Vu w' (λb=>w.heap.size<=b) cs ps/\Below w w w':=by
 have t:=Zy w (.cells #[.slice none 0 0,.slice none 0 0] 79);have S:=Blk.new w 79 #[.slice none 0 0,.slice none 0 0];have CT:=LH (rf_Tokens A n c q xs _ (h.below t) D X ts H F);have V:(ts.map Zyr).length=ts.length:=AE
 have L:=LH λ(W:World) (f:Option Addr) (g x y:Nat) (o:Kq W W f ts.length g (ts.map Zyr))=>rd_Of f ts.length g I x y (ts.map Zyr) ps W o U G;have Z:∀(w:World) (a:Addr) (k:FloatKind) (x y:Nat) (m:Mode),(store a (.complex k x y) m).run prog w=stored prog w a (.complex k x y) m:=λw a k x y m=>run_store prog w a _ m rfl;clear h D H F G V;go_enter func33,ntmps33;go_wp2_with fail;generalize w.alloc (.cells #[.slice none 0 0,.slice none 0 0] 79)=Y at *;(with_reducible refine CT.out.mono ?_);rintro e w1⟨J,c1,x,y,rfl,o,z⟩;have E:=S.ext z;have M:=LH (Zz t z);go_wp2_with fail;(with_reducible refine (L.out w1 J c1 x y o).mono ?_);rintro e l⟨d,c2,cs,rfl,P,R,B⟩;have j:=E.ext B;have N:=LH (Zz M.out B);have v0:=j.frozen 0;have v1:=j.frozen 1;have z0:l.cell? ⟨w,0,none⟩=some (.slice none 0 0):=j.cell 0;have z1:l.cell? ⟨w,1,none⟩=some (.slice none 0 0):=j.cell 1;go_wp2_with fail;have s:w.heap.size<w1.heap.size:=E.lt;have O:Blk ((l.setCell ⟨w,0,none⟩ (.slice none 0 0)).setCell ⟨w,1,none⟩ (.slice d ps.length c2)) w 79 #[.slice none 0 0,.slice d ps.length c2]:=(j.set 0 (.slice none 0 0)).set 1 (.slice d ps.length c2);have r:l.grownBy ((l.setCell ⟨w,0,none⟩ (.slice none 0 0)).setCell ⟨w,1,none⟩ (.slice d ps.length c2)) (some w):=Zc (Zd _ _ _ _) (Zd _ _ _ _);refine AW (Yu (p:=2) (u:=3) (v:=4) AB _ _ w 79 #[.slice none 0 0,.slice d ps.length c2] (0,0) _ rfl O underlying79 rfl AB) rfl ?_;exact⟨d,c2,cs,rfl,Zzw (Qg P r s) (DT s),R.keep r.size λk T C=>⟨r.block k T (by intro e;injection e with e;have:w1.heap.size<=k:=C;omega),BC (DT s) C⟩,Zg (Zg N.out _ _ _ (AJ _)) _ _ _ (AJ _)⟩
theorem Wk.fresh(w:World):Wk (w.alloc (.cells (Q0 noH) 126)) w (w.alloc (.cells (Q0 noH) 126)).heap.size noH ⟨[],[],[],0⟩ :=
 ⟨Blk.new _ _ _,BN _ _ _ _,BN _ _ _ _,⟨[],BN _ _ _ _,Kz.nil _ _⟩,(λb a _=>by cases a),(λb a _=>by cases a),(λb a _=>by cases a),rfl,(λr c=>by cases c),AS _,AS _,AS _⟩
theorem rf_Build(A:Option Addr)(n c:Nat)(ps:List Prd)(G:Gr)(w:World)(B:Prds w A n c ps)(hn:n<=4000)(hr:∀q∈ps,q.right.length<=4000)(W:Zwy ps=some G):
 Calls prog 34 #[.agg #[.slice none 0 0,.slice A n c]] w λe w'=>∃h,e = .returned (.tuple #[GV h 0,.complex .f64 0 0,.int .i64 0])/\GrFrom w w' h G/\G.start=0/\h.n1<=24/\h.n2<=16/\h.n3<=40/\Below w w w':=by
 obtain⟨bm,ns,hl,ao⟩:=buildP_ways W;have ak:=B.1;have bx:=B.2.1;have bz:=B.2.2.1;rw[ak] at bm;have cb:∀(w:World) (a:Addr) (k:FloatKind) (x y:Nat) (m:Mode),(store a (.complex k x y) m).run prog w=stored prog w a (.complex k x y) m:=λw a k x y m=>run_store prog w a _ m rfl;have H:=LH B;have Hr:=LH hr;have Hl:=LH hl;have bc:=LH ao;have ae:=Blk.new w 79 #[.slice none 0 0,.slice A n c];have X:=Zy w (.cells #[.slice none 0 0,.slice A n c] 79);have L:=Blk.new (w.alloc (.cells #[.slice none 0 0,.slice A n c] 79)) 26 #[.slice none 0 0,.slice none 0 0,.slice none 0 0,.int .i64 0];have Y:=Zo X (.cells #[.slice none 0 0,.slice none 0 0,.slice none 0 0,.int .i64 0] 26);have af:=ae.ext (Zy _ (.cells #[.slice none 0 0,.slice none 0 0,.slice none 0 0,.int .i64 0] 26));have N:=Zl w (.cells #[.slice none 0 0,.slice A n c] 79);rw[N] at L;have O:=Zl (w.alloc (.cells #[.slice none 0 0,.slice A n c] 79)) (.cells #[.slice none 0 0,.slice none 0 0,.slice none 0 0,.int .i64 0] 26);rw[N] at O;clear hr B W hl ao ae X N ak;go_enter func34,ntmps34;go_wp2_with fail;have ab:=L;have C:=Wk.fresh ((w.alloc (.cells #[.slice none 0 0,.slice A n c] 79)).alloc (.cells #[.slice none 0 0,.slice none 0 0,.slice none 0 0,.int .i64 0] 26));have I:=Zo Y (.cells (Q0 noH) 126);have E:=af.ext (Zy _ (.cells (Q0 noH) 126));have ad:=ab.ext (Zy _ (.cells (Q0 noH) 126));rw[O] at C;change Calls _ _ _ (World.alloc _ (.cells (Q0 noH) 126)) _;generalize ((w.alloc (.cells #[.slice none 0 0,.slice A n c] 79)).alloc (.cells #[.slice none 0 0,.slice none 0 0,.slice none 0 0,.int .i64 0] 26)).alloc (.cells (Q0 noH) 126)=t at *;generalize bi:w.heap.size+1=f at *;generalize an:f+1=p at *;have b0:w.heap.size<f:=AA
 have b6:f<p:=AA
 clear af L ab Y O bi an;(with_reducible refine (wk_decls p noH _ t C).mono ?_);rintro e w1⟨rfl,rfl⟩;have k0:t.cell? ⟨w,0,none⟩=some (.slice none 0 0):=E.cell 0;have k1:t.cell? ⟨w,1,none⟩=some (.slice A n c):=E.cell 1;have CL:=LH (wk_lefts p noH ⟨[],[],[],0⟩ ns A n c ps t C (λw' l=>H.out.below (I.trans (l.mono AA))) hn rfl Hl.out);have a9:=LH C;have a7:=LH E;have a5:=LH ad;have az:=LH I;clear C E ad I;go_wp2_with fail;(with_reducible refine CL.out.mono ?_);rintro e w2⟨rfl,h2,M,J⟩;have T:=LH (M.mono (Nat.le_of_eq rfl));have a0:=LH J;have ah:=M.mono J.size;have T:=LH ah;clear M J k0 k1 ah;go_wp2_with fail;go_loopw [6] (λv wr=>∃(j:Nat) (d:GH) (s:Gr),v = .int .i64 (j:Int)/\j<=n/\Hid (Wk wr p wr d s)/\Hid (Gn s (ps.drop j)=some G)/\Hid (V6 t wr p noH d)) (λv _=>n-(intOf v).toNat)
 case atStart=>exact⟨0,h2,_,rfl,AS _,T,bc,a0⟩
 obtain⟨j,d,s,rfl,hj,r,U,S⟩:=hrel;have z:=S.out.below a9.out;have o:Below w w wr:=az.out.trans (z.mono AA);have F:Blk wr w 79 #[.slice none 0 0,.slice A n c]:=a7.out.below z AA;have g:Blk wr f 26 #[.slice none 0 0,.slice none 0 0,.slice none 0 0,.int .i64 0]:=a5.out.below z AA;have k0:wr.cell? ⟨w,0,none⟩=some (.slice none 0 0):=F.cell 0;have k1:wr.cell? ⟨w,1,none⟩=some (.slice A n c):=F.cell 1;obtain⟨an,z0,z1,z2,z3,z7,cj,_,_,_⟩:=r.out.cells;have R:=LH o;by_cases bj:j<n
 case pos =>
  obtain⟨b,D,q,Ar,cr,x,y,x',y',rfl,l,V,q0,q1,q2,q3,q4,aq⟩:=H.out.get bj;obtain⟨P,am,al⟩:=prodsP_step U.out V.out;rw[<-o.cell (p:=⟨b,D+j*5,none⟩) l] at q0;rw[<-o.cell (p:=⟨b,D+j*5+1,none⟩) l] at q1;rw[<-o.cell (p:=⟨b,D+j*5+2,none⟩) l] at q2;rw[<-o.cell (p:=⟨b,D+j*5+3,none⟩) l] at q3;rw[<-o.cell (p:=⟨b,D+j*5+4,none⟩) l] at q4;have ar:q.right.length<=4000:=Hr.out q (AN V.out);have CP:=LH (wk_prod p d s P q Ar cr x y x' y' wr r.out (AJ _) (λw' hw=>aq.below (R.out.trans (hw.mono AA))) ar am);have bb:=LH al;clear am al aq ar F g z o;go_wp2_with fail;(with_reducible refine CP.out.mono ?_);rintro e w5⟨rfl,h5,ai,aa⟩;have a8:=LH ai;have a4:=LH (S.out.trans aa);clear ai aa;go_wp2_with fail;go_roundw
  case rel=>exact⟨j+1,h5,P,AF,AA,a8,bb,a4⟩
  simp[intOf];omega
 have v0:=g.frozen 0;have v1:=g.frozen 1;have v2:=g.frozen 2;have v3:=g.frozen 3;have i0:wr.cell? ⟨f,0,none⟩=some (.slice none 0 0):=g.cell 0;have i1:wr.cell? ⟨f,1,none⟩=some (.slice none 0 0):=g.cell 1;have i2:wr.cell? ⟨f,2,none⟩=some (.slice none 0 0):=g.cell 2;have i3:wr.cell? ⟨f,3,none⟩=some (.int .i64 0):=g.cell 3;have a6:=LH g;clear F g z o;go_wp2_with fail;go_quiet (fail)
 go_wp2_with fail;have bh:Blk (wr.drewN nq) f 26 #[.slice none 0 0,.slice none 0 0,.slice none 0 0,.int .i64 0]:=a6.out;have hF:Blk (((((wr.drewN nq).setCell ⟨f,0,none⟩ (.slice d.a1 d.n1 d.c1)).setCell ⟨f,1,none⟩ (.slice d.a2 d.n2 d.c2)).setCell ⟨f,2,none⟩ (.slice d.a3 d.n3 d.c3)).setCell ⟨f,3,none⟩ (.int .i64 0)) f 26 #[.slice d.a1 d.n1 d.c1,.slice d.a2 d.n2 d.c2,.slice d.a3 d.n3 d.c3,.int .i64 0] :=
  (((bh.set 0 (.slice d.a1 d.n1 d.c1)).set 1 (.slice d.a2 d.n2 d.c2)).set 2 (.slice d.a3 d.n3 d.c3)).set 3 (.int .i64 0)
 have ag:(wr.drewN nq).grownBy (((((wr.drewN nq).setCell ⟨f,0,none⟩ (.slice d.a1 d.n1 d.c1)).setCell ⟨f,1,none⟩ (.slice d.a2 d.n2 d.c2)).setCell ⟨f,2,none⟩ (.slice d.a3 d.n3 d.c3)).setCell ⟨f,3,none⟩ (.int .i64 0)) (some f) :=
  Zc (Zc (Zc (Zd _ _ _ _) (Zd _ _ _ _)) (Zd _ _ _ _)) (Zd _ _ _ _)
 have Z:G=s:=by
  have:=U.out;rw[List.drop_eq_nil_of_le (by rw[H.out.1];omega)] at this;unfold Gn at this;injection this with this;exact this.symm
 refine AW (Yu (p:=2) (u:=3) (v:=4) AB _ _ f 26 #[.slice d.a1 d.n1 d.c1,.slice d.a2 d.n2 d.c2,.slice d.a3 d.n3 d.c3,.int .i64 0] (0,0) _ rfl hF underlying26 rfl AB) rfl ?_;have au:wr.heap.size<=_:=ag.size;refine⟨d,rfl,λw2 hs hk=>?_,by rw[Z];exact r.out.st,r.out.b1,r.out.b2,r.out.b3,Zg (Zg (Zg (Zg (Fp R.out nq) _ _ _ AA) _ _ _ AA) _ _ _ AA) _ _ _ AA⟩;rw[Z];exact r.out.grAt_ahead (BC au hs) λb l b5=>(hk b (AK l au) AA).trans (ag.block b l (by intro e;injection e with e;omega))
theorem rf_Read(A:Option Addr)(n c:Nat)(xs:List Nat)(G:Gr)(w:World)(h:Zq .u8 w A n c xs)(l:∀x∈xs,x<256)(hn:n<=4000)(ts:List Af)(P:Ml xs (xs.length+1) 0=some ts)(J:Dd ts<2)(hl:ts.length<=4000)(ps:List Prd)(N:srcP (ts.length+1) (ts.map Zyr)=some ps)(ag:ps.length<=4000)(M:∀q∈ps,q.right.length<=4000)(C:Zwy ps=some G):
 Calls prog 20 #[.slice A n c] w λe w'=>∃h,e = .returned (.tuple #[GV h G.start,.complex .f64 0 0,.int .i64 0])/\Yf w' h G/\h.n1<=24/\h.n2<=16/\h.n3<=40/\G.start=0/\Below w w w':=by
 have o:=Zy w (.cells #[.slice none 0 0,.slice none 0 0,.slice none 0 0,.int .i64 0] 26);have F:=Blk.new w 26 #[.slice none 0 0,.slice none 0 0,.slice none 0 0,.int .i64 0];have T:=LH (rf_Parse A n c (xs.length+1) (ts.length+1) xs _ (h.below o) l hn ts P J hl ps N);have ap:∀(w:World) (a:Addr) (k:FloatKind) (x y:Nat) (m:Mode),(store a (.complex k x y) m).run prog w=stored prog w a (.complex k x y) m:=λw a k x y m=>run_store prog w a _ m rfl;have R:=LH λ(W:World) (t:Option Addr) (B:Nat) (j:Prds W t ps.length B ps)=>rf_Build t ps.length B ps G W j ag M C;clear h l P J N M C;go_enter func20,ntmps20;go_wp2_with fail;generalize w.alloc (.cells #[.slice none 0 0,.slice none 0 0,.slice none 0 0,.int .i64 0] 26)=W0 at *;(with_reducible refine T.out.mono ?_);rintro e w1⟨g,c1,cs,rfl,E,j,r⟩;have H:=F.ext r;have D:=Zz o r;have ah:=(own_prds E j).below (Zy w1 (.cells #[.slice none 0 0,.slice g ps.length c1] 79));have I:=H.ext (Zy w1 (.cells #[.slice none 0 0,.slice g ps.length c1] 79));have U:=LH (Zo D (.cells #[.slice none 0 0,.slice g ps.length c1] 79));clear r D H E j o F;go_wp2_with fail;have S:=LH (R.out _ g c1 ah);generalize w1.alloc (.cells #[.slice none 0 0,.slice g ps.length c1] 79)=X at *;(with_reducible refine S.out.mono ?_);rintro e f⟨h,rfl,hF,O,Y,Z,b3,s⟩;have d:=I.ext s;have v0:=d.frozen 0;have v1:=d.frozen 1;have v2:=d.frozen 2;have v3:=d.frozen 3;have i0:f.cell? ⟨w,0,none⟩=some (.slice none 0 0):=d.cell 0;have i1:f.cell? ⟨w,1,none⟩=some (.slice none 0 0):=d.cell 1;have i2:f.cell? ⟨w,2,none⟩=some (.slice none 0 0):=d.cell 2;have i3:f.cell? ⟨w,3,none⟩=some (.int .i64 0):=d.cell 3;have V:=LH (Zz U.out s);have ak:w.heap.size<X.heap.size:=I.lt;have z:=LH O;clear O s;go_wp2_with fail;have ad:Blk ((((f.setCell ⟨w,0,none⟩ (.slice h.a1 h.n1 h.c1)).setCell ⟨w,1,none⟩ (.slice h.a2 h.n2 h.c2)).setCell ⟨w,2,none⟩ (.slice h.a3 h.n3 h.c3)).setCell ⟨w,3,none⟩ (.int .i64 0)) w 26 #[.slice h.a1 h.n1 h.c1,.slice h.a2 h.n2 h.c2,.slice h.a3 h.n3 h.c3,.int .i64 0] :=
  (((d.set 0 (.slice h.a1 h.n1 h.c1)).set 1 (.slice h.a2 h.n2 h.c2)).set 2 (.slice h.a3 h.n3 h.c3)).set 3 (.int .i64 0)
 have L:f.grownBy ((((f.setCell ⟨w,0,none⟩ (.slice h.a1 h.n1 h.c1)).setCell ⟨w,1,none⟩ (.slice h.a2 h.n2 h.c2)).setCell ⟨w,2,none⟩ (.slice h.a3 h.n3 h.c3)).setCell ⟨w,3,none⟩ (.int .i64 0)) (some w) :=
  Zc (Zc (Zc (Zd _ _ _ _) (Zd _ _ _ _)) (Zd _ _ _ _)) (Zd _ _ _ _)
 refine AW (Yu (p:=2) (u:=3) (v:=4) AB _ _ w 26 #[.slice h.a1 h.n1 h.c1,.slice h.a2 h.n2 h.c2,.slice h.a3 h.n3 h.c3,.int .i64 0] (0,0) _ rfl ad underlying26 rfl AB) rfl ?_;refine⟨h,by rw[z.out];rfl,hF _ L.size λb l aj=>L.block b l (by intro e;injection e with e;omega),Y,Z,b3,z.out,Zg (Zg (Zg (Zg V.out _ _ _ (AJ _)) _ _ _ (AJ _)) _ _ _ (AJ _)) _ _ _ (AJ _)⟩
theorem rf_ReadC(A:Option Addr)(n c:Nat)(xs:List Nat)(G:Gr)(w:World)(a:readC xs=some G)(h:Zq .u8 w A n c xs)(d:∀x∈xs,x<256)(f:n<=4000):
 Calls prog 20 #[.slice A n c] w λe w'=>∃h,e = .returned (.tuple #[GV h G.start,.complex .f64 0 0,.int .i64 0])/\Yf w' h G/\h.n1<=24/\h.n2<=16/\h.n3<=40/\G.start=0/\Below w w w':=by
 unfold readC at a;split at a
 ·cases a
 rename_i ts k;split at a
 ·rename_i h1;split at a
  ·cases a
  rename_i ps g;split at a
  ·rename_i b;refine rf_Read A n c xs G w h d f ts k h1.1 h1.2 ps g b.1 (λq j=>?_) a;have:=BG.1 b.2 q j;simpa using this
  cases a
 cases a
theorem Zw7(h:Option Addr)(n c1:Nat)(xs:List Nat)(bit:Nat)(w:World)(h1:Zq .u32 w h n c1 xs)(q:Lim xs)(t:bit<=1)(L:n<=1000):
 Calls prog 210 #[.slice h n c1,.int .u32 (bit:Int)] w (RetNew w (limbs (2*val xs+bit))):=by
 obtain rfl:=h1.len;have p:=run_make_cap (P:=prog) 44 41 .u32 4 underlying44 Tryz.info34 (xs.length+1) AA AA;have B:∀w:World,(Instr.makeSlice 44 (.int .i64 0) (.int .i64 ((xs.length:Int)+1))).run prog w = .ok (.slice (some ⟨w,0,none⟩) 0 (xs.length+1)) (w.alloc (.cells (nums .u32 (List.replicate (xs.length+1) 0)).toArray 41)):=p;clear p;go_enter func210,ntmps210;go_wp2;go_loopw [1,5,14] (TwRel w xs bit) (λ_ _ i _=>xs.length-(intOf i).toNat)
 case atStart=>exact⟨0,_,_,AS _,rfl,rfl,rfl,own_cap w _ .u32 (xs.length+1) _ AE AA,(AL _ _).alloc (AJ _) _⟩
 clear B;obtain⟨k,A,G,J,rfl,rfl,rfl,c,b⟩:=hrel;have u:=Ae xs bit t q k;have o:=b.size;by_cases z:k<xs.length
 ·obtain⟨F,N,x,rfl,H,Hx,I⟩:=(h1.below b).get (j:=k) z;have D:=q.of_get Hx.out;have M:=shl_or x (twP xs bit k).2 D u;go_wp2_with (at_builtin;refine Vc (w:=wr) rfl _ _ 44 rfl w 41 (.int .u32 0) 4 underlying44 Tryz.info34 rfl _ k _ _ rfl c _ rfl rfl AA AA AA ?_;intro d f r a g);go_roundw
  case rel =>
   refine⟨k+1,d,f,AA,AF,?_,rfl,?_,X6 b g c o⟩
   ·have e:x / 2147483648=(2*x+(twP xs bit k).2) / 4294967296:=AA
    simp only[twP,Yn Hx.out];rw[<-e];go_num
   have e:=Mi .u32 (twP xs bit k).1 ((2*x+(twP xs bit k).2) % 4294967296);simp only[twP,Yn Hx.out];rw[e];simpa using a
  simp[intOf];omega
 obtain rfl:k=xs.length:=AA
 have y:Lim ((twP xs bit xs.length).1++[(twP xs bit xs.length).2]):=(twP_lim xs bit xs.length).append (Lim.mk AA Lim.nil);have l:=LH (Vg _ y);rw[twP_all] at l;have E:=LH (Zye xs bit xs.length);have s:=LH (Mi .u32 (twP xs bit xs.length).1 (twP xs bit xs.length).2);go_wp2_with (first
  | (at_builtin;refine Vc (w:=wr) rfl _ _ 44 rfl w 41 (.int .u32 0) 4 underlying44 Tryz.info34 rfl _ xs.length _ _ rfl c _ rfl rfl AA AA AA ?_;intro d f r a g;rw[<-s.out] at a)
  | (go_at_call 162;have C:Zq .u32 r d (xs.length+1) f ((twP xs bit xs.length).1++[(twP xs bit xs.length).2]):=Yl a;(with_reducible refine (Q3 _ _ _ _ _ C).mono ?_);rintro e w'⟨rfl,m,rfl⟩))
 have v:=Zv3 a;go_ret;rw[l.out] at m ⊢;unfold RetNew;exact⟨_,_,rfl,m,X6 b g c o,v⟩
theorem nat_quo(C:Option Addr)(n c1:Nat)(xs:List Nat)(D:Option Addr)(m c2:Nat)(ys:List Nat)(w:World)(h1:Zq .u32 w C n c1 xs)(p:Zq .u32 w D m c2 ys)(J:Lim xs)(ly:Lim ys):
 Calls prog 167 #[.slice C n c1,.slice D m c2] w (RetQuo w (M2 xs ys)):=by
 obtain rfl:=h1.len;obtain rfl:=p.len;by_cases N:Zm xs=true
 case neg =>
  have ca:Zm xs=false:=by simpa using N
  have l:M2 xs ys=([],[],1):=by simp[M2,ca]
  rw[l];clear l N;go_enter func167,ntmps167;go_wp2_with (first
   | (go_at_call 42;(with_reducible refine (Zb _ _ _ _ _ h1).mono ?_);rintro e w'⟨rfl,rfl⟩)
   | (go_at_call 42;(with_reducible refine (Zb _ _ _ _ _ p).mono ?_);rintro e w'⟨rfl,rfl⟩))
  go_ret3
  unfold RetQuo;exact⟨none,0,none,0,rfl,Zq.nil _ _ _ _ AE,Zq.nil _ _ _ _ AE,AL _ _⟩
 by_cases O:Zm ys=true
 case neg =>
  have cb:Zm ys=false:=by simpa using O
  have l:M2 xs ys=([],[],1):=by simp[M2,cb]
  rw[l];clear l O;go_enter func167,ntmps167;go_wp2_with (first
   | (go_at_call 42;(with_reducible refine (Zb _ _ _ _ _ h1).mono ?_);rintro e w'⟨rfl,rfl⟩)
   | (go_at_call 42;(with_reducible refine (Zb _ _ _ _ _ p).mono ?_);rintro e w'⟨rfl,rfl⟩))
  go_ret3
  unfold RetQuo;exact⟨none,0,none,0,rfl,Zq.nil _ _ _ _ AE,Zq.nil _ _ _ _ AE,AL _ _⟩
 by_cases y:ys.length=0
 ·have l:M2 xs ys=([],[],1):=by simp[M2,y]
  rw[l];clear l;have b8:((ys.length:Int)==0)=true:=by simp[y]
  clear y;go_enter func167,ntmps167;go_wp2_with (first
   | (go_at_call 42;(with_reducible refine (Zb _ _ _ _ _ h1).mono ?_);rintro e w'⟨rfl,rfl⟩)
   | (go_at_call 42;(with_reducible refine (Zb _ _ _ _ _ p).mono ?_);rintro e w'⟨rfl,rfl⟩))
  go_ret3
  unfold RetQuo;exact⟨none,0,none,0,rfl,Zq.nil _ _ _ _ AE,Zq.nil _ _ _ _ AE,AL _ _⟩
 have b8:((ys.length:Int)==0)=false:=by rw[AQ];omega
 have co:xs.length<=32:=by simp[Zm] at N;omega
 have ty:=X8 ys O;have aq:0<val ys:=by
  rcases BY (val ys) with h | h
  ·have:=Mf ys ly ty;rw[h,Va] at this;rw[<-this] at y;simp at y
  exact h
 have bw:=Wm (P:=prog) 44 41 .u32 4 underlying44 Tryz.info34 xs.length AA AA;have l:M2 xs ys=(limbs (val xs / val ys),limbs (val xs % val ys),0):=by simp[M2,N,O,y]
 have a2:Zz9 xs=bitLen (val xs):=by simp[Zz9,N]
 have ch:bitLen (val xs)<=1024:=by
  rcases BD 1024 (bitLen (val xs)) with h | h
  ·have:=bit_in xs J 1024 h;omega
  exact h
 rw[l];have bh:=LH a2;clear l a2;go_enter func167,ntmps167;go_wp2_with (first
  | (go_at_call 42;(with_reducible refine (Zb _ _ _ _ _ h1).mono ?_);rintro e w'⟨rfl,rfl⟩)
  | (go_at_call 42;(with_reducible refine (Zb _ _ _ _ _ p).mono ?_);rintro e w'⟨rfl,rfl⟩)
  | (go_at_call 105;(with_reducible refine (Zqb _ _ _ _ _ (h1.below ((AL _ _).alloc (AJ _) _)) J).mono ?_);rintro e w'⟨rfl,rfl⟩;rw[bh.out]))
 go_loopw [8,9] (QuoRel w xs (val ys)) (λ_ i _=>(intOf i+1).toNat)
 case atStart =>
  have hz:val xs / 2 ^ bitLen (val xs)=0:=Nat.div_eq_of_lt (bitLen_lt _);have e1:(List.replicate xs.length 0).length=xs.length:=AE
  have e2:val (List.replicate xs.length 0)=val xs / 2 ^ bitLen (val xs) / val ys*2 ^ bitLen (val xs):=by rw[hz,zz_val];simp
  have e3:[]=limbs (val xs / 2 ^ bitLen (val xs) % val ys):=by rw[hz,Nat.zero_mod,Va]
  exact⟨bitLen (val xs),none,0,List.replicate xs.length 0,[],rfl,AJ _,rfl,Zq.nil _ _ _ _ AE,(λ_ _ h=>by cases h),Own.new w 41 .u32 (List.replicate xs.length 0),(AL _ _).alloc (AJ _) _,
   LH e1,zz_lim _,LH e2,LH e3⟩
 clear bw;obtain⟨k,A,c,qs,o,rfl,hk,rfl,an,ck,W,q,E,I,S,U⟩:=hrel;have X:=W.lt;by_cases bv:0<k
 ·obtain⟨i,rfl⟩:∃i,k=i+1:=⟨k-1,AA⟩;clear bv;have a7:((i+1:Nat):Int)-1=(i:Int):=AA
  rw[a7];clear a7;have V:=bit_in xs J i AA;have R:=LH (bit_of xs J i);have ax:=LH (Zsy (val xs) (val ys) i aq);obtain⟨j,r,a8,hr⟩:∃j r,i=32*j+r/\r<32:=⟨i / 32,i % 32,AA,AA⟩;have hj:i / 32=j:=AA
  have am:i % 32=r:=AA
  rw[hj] at V R;rw[am] at R;have cm:(i:Int) / 32=(j:Int):=AA
  have cr:(i:Int) % 32=(r:Int):=AA
  have cd:=LH a8;have Hj:=LH hj;have Hr:=LH am;clear a8 hj am;obtain⟨b1,o1,u,rfl,cg,Hu,ci⟩:=(h1.below q).get (j:=j) V;have b6:=J.of_get Hu.out;have cq:(2:Int) ^ r=((2 ^ r:Nat):Int):=AE
  have cu:(u:Int) / ((2 ^ r:Nat):Int)=((u / 2 ^ r:Nat):Int):=AE
  have a6:=Yn (d:=0) Hu.out;have a3:u / 2 ^ r % 2=val xs / 2 ^ i % 2:=by have:=R.out;rwa [a6] at this
  have b9:u / 2 ^ r<4294967296:=En (Nat.div_le_self _ _) b6;have cf:bits .and .u32 ((u / 2 ^ r:Nat):Int) 1=((u / 2 ^ r % 2:Nat):Int):=by
   have:=u32_and_nat (u / 2 ^ r) 1 b9 AC;rw[show ((1:Nat):Int)=1 from rfl] at this;rw[this,Nat.and_one_is_mod]
  have a4:u / 2 ^ r % 2<=1:=AA
  generalize u / 2 ^ r=z at *;generalize bs:z % 2=bt at *;have bi:=LH a3;clear bs a3 a6 R;have ap:val o=val xs / 2 ^ (i+1) % val ys:=by rw[U.out,Yd]
  have lr:Lim o:=by rw[U.out];exact Z9 _
  have bb:val ys<4294967296 ^ 32:=by
   have h1:=Ui ys ly;have p:ys.length<=32:=by simp[Zm] at O;omega
   exact AK h1 (CV AC p)
  have cs:o.length<=32:=by
   rw[U.out,Vt];exact Nat.lt_trans (Nat.mod_lt _ aq) bb
  have Y:=ax.out;have cv:(limbs (2*val o+bt)).length<=33:=by
   rw[Vt,Nat.pow_succ];have:val o<val ys:=by rw[ap];exact Nat.mod_lt _ aq
   generalize (4294967296:Nat) ^ 32=B at *;omega
  have bn:=LH ap;simp only[] at Y;rw[<-bi.out,<-bn.out] at Y;have T:=LH Y;clear Y ax ap bb;obtain⟨s,ae⟩:∃s,Hid (qs[j]? = some s):=⟨_,LH (AM (by rw[E.out];exact V))⟩;have a9:=set_bit qs I i (by rw[Hj.out,E.out];exact V) _ S.out;rw[Hj.out,Hr.out,Yn ae.out] at a9;obtain⟨be,cx,bf⟩:=a9;have b3:=I.of_get ae.out;have bz:2 ^ r<4294967296:=by
   have:=Nat.pow_lt_pow_right (a:=2) AC hr;simpa using this
  have cp:bits .or .u32 (s:Int) ((2 ^ r:Nat):Int)=((s+2 ^ r:Nat):Int):=by
   rw[u32_or_nat _ _ b3 bz,be]
  generalize b0:(2:Nat) ^ r=M at *;have bm:=LH bf;clear b0 be bf;have ct:IntKind.u32.wrap (M:Int)=(M:Int):=by rw[IntKind.wrap_u32];omega
  have b1:(0:Int)<=(j:Int):=AA
  have b2:(j:Int)<(xs.length:Int):=AA
  by_cases x:val ys<=2*val o+bt
  ·have ai:decide (val ys<=2*val o+bt)=true:=by simpa using x
   have ad:=LH (T.out.1 x);have bj:=LH x;clear x T;generalize H:2*val o+bt=v2 at *;have af:=LH H;clear H;go_wp2_with (first
    | (go_at_call 210;(with_reducible refine (Zw7 _ _ _ _ bt _ an lr a4 AA).mono ?_);intro e w1 f;unfold RetNew at f;rw[af.out] at f;obtain⟨C,c3,rfl,Z,g,a5⟩:=f)
    | (go_at_call 211;(with_reducible refine (nat_tk _ _ _ _ _ _ _ _ _ Z ((p.below q).below g) (Z9 _) ly ty AA).mono ?_);intro e w2 f;unfold RetTk at f;rw[Yd,ai] at f;obtain⟨D,c4,ts,rfl,ht,t,aj,ay⟩:=f))
   have G:=(W.below g X).below t (AK X g.size);have cj:=own_cell G ae.out;have cl:=G.frozen j;have F:=q.size;have ah:=g.size;have hB:=(q.trans (g.mono F)).trans (t.mono (BC F ah));go_region
   go_wp2;go_roundw
   case rel =>
    obtain⟨ar,au⟩:=ad.out;have bu:=nums_far ht (B:=w.heap.size) (λb L h=>by have:=aj b L h;omega) j (.int .u32 ((s+M:Nat):Int));have b5:=G.set_ j (s+M);refine⟨i,D,c4,qs.set j (s+M),ts,AF,AA,rfl,bu.drew,λb L h=>?_,b5.drew,(hB.setCell AE _).drew,LH (by rw[List.length_set];exact E.out),?_,LH ?_,LH ?_⟩
    ·have:=aj b L h;omega
    ·intro v hv;rcases List.mem_or_eq_of_mem_set hv with h | h
     ·exact I v h
     omega
    ·rw[bm.out,S.out,au,Nat.pow_succ,Nat.add_mul,Nat.one_mul,<-DU,Ef _ 2,DU]
    rw[ay.out bj.out,ar]
   simp[intOf] <;> omega
  have ai:decide (val ys<=2*val o+bt)=false:=by simpa using x
  have ad:=LH (T.out.2 AA);clear x T;generalize H:2*val o+bt=v2 at *;have af:=LH H;clear H;go_wp2_with (first
   | (go_at_call 210;(with_reducible refine (Zw7 _ _ _ _ bt _ an lr a4 AA).mono ?_);intro e w1 f;unfold RetNew at f;rw[af.out] at f;obtain⟨C,c3,rfl,Z,g,a5⟩:=f)
   | (go_at_call 211;(with_reducible refine (nat_tk _ _ _ _ _ _ _ _ _ Z ((p.below q).below g) (Z9 _) ly ty AA).mono ?_);intro e w2 f;unfold RetTk at f;rw[Yd,ai] at f;obtain⟨D,c4,ts,rfl,ht,t,aj,ay⟩:=f))
  have G:=(W.below g X).below t (AK X g.size);have F:=q.size;have ah:=g.size;have hB:=(q.trans (g.mono F)).trans (t.mono (BC F ah));go_roundw
  case rel =>
   obtain⟨ar,au⟩:=ad.out;refine⟨i,C,c3,qs,limbs v2,AF,AA,rfl,Z.below t,λb L h=>?_,G,hB,E,I,LH ?_,LH ?_⟩
   ·have:=a5 b L h;omega
   ·rw[S.out,au,Nat.pow_succ,<-DU,Ef _ 2,DU]
   rw[ar]
  simp[intOf] <;> omega
 obtain rfl:k=0:=AA
 have bx:=W.nums (n:=xs.length) (c:=xs.length) E.out (AJ _) AA;have av:=LH (Vg _ I);have al:=S.out;rw[Nat.pow_zero,Nat.div_one,Ej] at al;rw[al] at av;have ao:=U.out;rw[Nat.pow_zero,Nat.div_one] at ao;have bl:=LH ao;clear al ao;go_wp2_with (go_at_call 162;(with_reducible refine (Q3 _ _ _ _ _ bx).mono ?_);rintro e w'⟨rfl,hN,rfl⟩);go_ret3
 rw[av.out] at hN ⊢;rw[<-bl.out];unfold RetQuo;exact⟨_,_,_,_,rfl,hN,an,q⟩
theorem ref_quo(A1:Option Addr)(n c1:Nat)(xs:List Nat)(A2:Option Addr)(m c2:Nat)(ys:List Nat)(w:World)(h1:Zq .u32 w A1 n c1 xs)(o:Zq .u32 w A2 m c2 ys)(lx:Lim xs)(ly:Lim ys):
 Calls prog 138 #[.slice A1 n c1,.slice A2 m c2] w (RetQuo w (M2 xs ys)):=by
 obtain rfl:=h1.len;obtain rfl:=o.len;by_cases N:Zm xs=true
 case neg =>
  have cz:Zm xs=false:=by simpa using N
  have l:M2 xs ys=([],[],1):=by simp[M2,cz]
  rw[l];clear l N;go_enter func138,ntmps138;go_wp2_with (first
   | (go_at_call 35;(with_reducible refine (Z4 _ _ _ _ _ h1).mono ?_);rintro e w'⟨rfl,rfl⟩)
   | (go_at_call 35;(with_reducible refine (Z4 _ _ _ _ _ o).mono ?_);rintro e w'⟨rfl,rfl⟩))
  go_ret3
  unfold RetQuo;exact⟨none,0,none,0,rfl,Zq.nil _ _ _ _ AE,Zq.nil _ _ _ _ AE,AL _ _⟩
 by_cases O:Zm ys=true
 case neg =>
  have c0:Zm ys=false:=by simpa using O
  have l:M2 xs ys=([],[],1):=by simp[M2,c0]
  rw[l];clear l O;go_enter func138,ntmps138;go_wp2_with (first
   | (go_at_call 35;(with_reducible refine (Z4 _ _ _ _ _ h1).mono ?_);rintro e w'⟨rfl,rfl⟩)
   | (go_at_call 35;(with_reducible refine (Z4 _ _ _ _ _ o).mono ?_);rintro e w'⟨rfl,rfl⟩))
  go_ret3
  unfold RetQuo;exact⟨none,0,none,0,rfl,Zq.nil _ _ _ _ AE,Zq.nil _ _ _ _ AE,AL _ _⟩
 by_cases D:ys.length=0
 ·have l:M2 xs ys=([],[],1):=by simp[M2,D]
  rw[l];clear l;have cv:((ys.length:Int)==0)=true:=by simp[D]
  clear D;go_enter func138,ntmps138;go_wp2_with (first
   | (go_at_call 35;(with_reducible refine (Z4 _ _ _ _ _ h1).mono ?_);rintro e w'⟨rfl,rfl⟩)
   | (go_at_call 35;(with_reducible refine (Z4 _ _ _ _ _ o).mono ?_);rintro e w'⟨rfl,rfl⟩))
  go_ret3
  unfold RetQuo;exact⟨none,0,none,0,rfl,Zq.nil _ _ _ _ AE,Zq.nil _ _ _ _ AE,AL _ _⟩
 have cv:((ys.length:Int)==0)=false:=by rw[AQ];omega
 have de:xs.length<=32:=Ut xs N;have cm:ys.length<=32:=Ut ys O;have ty:=X8 ys O;have a3:0<val ys:=by
  rcases BY (val ys) with h | h
  ·have:=Mf ys ly ty;rw[h,Va] at this;rw[<-this] at D;simp at D
  exact h
 have bv:=Wm (P:=prog) 44 41 .u32 4 underlying44 Tryz.info34 33 AA AA;have bw:∀w:World,(Instr.makeSlice 44 (.int .i64 33) (.int .i64 33)).run prog w = .ok (.slice (some ⟨w,0,none⟩) 33 33) (w.alloc (.cells (nums .u32 (List.replicate 33 0)).toArray 41)):=bv;clear bv;obtain⟨E,be⟩:∃E,Hid (List.replicate 33 0=E):=⟨_,LH rfl⟩;rw[be.out] at bw;have ap:Hid (E.length=33):=LH (by rw[<-be.out];simp);have l:M2 xs ys=(limbs (val xs / val ys),limbs (val xs % val ys),0):=by simp[M2,N,O,D]
 have bc:=LH (Ul xs lx N).2;have a2:val ys<4294967296 ^ 32:=AK (Ui ys ly) (CV AC cm);have bd:=LH a2;rw[l];clear l a2;go_enter func138,ntmps138;go_wp2_with (first
  | (go_at_call 35;(with_reducible refine (Z4 _ _ _ _ _ h1).mono ?_);rintro e w'⟨rfl,rfl⟩)
  | (go_at_call 35;(with_reducible refine (Z4 _ _ _ _ _ o).mono ?_);rintro e w'⟨rfl,rfl⟩))
 go_loopw [7,8,9] (RQuoRel w xs (val ys)) (λ_ _ i _=>(intOf i+1).toNat)
 case atStart =>
  have hz:val xs / 2 ^ (32*xs.length)=0:=Nat.div_eq_of_lt (by
   have:=Ui xs lx;rwa [show (4294967296:Nat)=2 ^ 32 from rfl,<-Nat.pow_mul] at this)
  have F:[]=limbs (val xs / 2 ^ (32*xs.length) / val ys):=by rw[hz,Nat.zero_div,Va]
  have e3:[]=limbs (val xs / 2 ^ (32*xs.length) % val ys):=by rw[hz,Nat.zero_mod,Va]
  exact⟨32*xs.length,none,0,none,0,[],[],AF,AJ _,rfl,Zq.nil _ _ _ _ AE,rfl,Zq.nil _ _ _ _ AE,AL _ _,LH F,LH e3⟩
 obtain⟨k,A,c,f,g,qs,b,rfl,hk,rfl,ax,rfl,ay,X,al,W⟩:=hrel;by_cases ck:0<k
 ·obtain⟨i,rfl⟩:∃i,k=i+1:=⟨k-1,AA⟩;clear ck;have bp:((i+1:Nat):Int)-1=(i:Int):=AA
  rw[bp];clear bp;have br:i / 32<xs.length:=AA
  have S:=LH (bit_of xs lx i);have ba:=LH (Zsy (val xs) (val ys) i a3);obtain⟨j,r,bq,s⟩:∃j r,i=32*j+r/\r<32:=⟨i / 32,i % 32,AA,AA⟩;have hj:i / 32=j:=AA
  have bz:i % 32=r:=AA
  rw[hj] at br S;rw[bz] at S;have cj:(i:Int) / 32=(j:Int):=AA
  have cs:(i:Int) % 32=(r:Int):=AA
  have c3:=LH bq;clear bq hj bz;obtain⟨b1,o1,u,rfl,c9,Hu,J⟩:=(h1.below X).get (j:=j) br;have cu:=lx.of_get Hu.out;have co:(2:Int) ^ r=((2 ^ r:Nat):Int):=AE
  have cx:(u:Int) / ((2 ^ r:Nat):Int)=((u / 2 ^ r:Nat):Int):=AE
  have bo:=Yn (d:=0) Hu.out;have bl:u / 2 ^ r % 2=val xs / 2 ^ i % 2:=by have:=S.out;rwa [bo] at this
  have dg:u / 2 ^ r<4294967296:=En (Nat.div_le_self _ _) cu;have bk:((u / 2 ^ r:Nat):Int) % 2=((u / 2 ^ r % 2:Nat):Int):=AA
  have bm:u / 2 ^ r % 2<=1:=AA
  generalize u / 2 ^ r=z at *;generalize ch:z % 2=bt at *;have b6:=LH bl;clear ch bl bo S;generalize cp:(2:Nat) ^ r=pw at *;clear cp;have a1:val b=val xs / 2 ^ (i+1) % val ys:=by rw[W.out,Yd]
  have lr:Lim b:=by rw[W.out];exact Z9 _
  have ct:b.length<=32:=by
   rw[W.out,Vt];exact Nat.lt_trans (Nat.mod_lt _ a3) bd.out
  have ab:=ba.out;have b2:(limbs (2*val b+bt)).length<=33:=by
   have a2:=bd.out;rw[Vt,Nat.pow_succ];have:val b<val ys:=by rw[a1];exact Nat.mod_lt _ a3
   generalize (4294967296:Nat) ^ 32=B at *;omega
  have cc:=LH a1;simp only[] at ab;rw[<-b6.out,<-cc.out] at ab;have V:=LH ab;clear ab ba a1;obtain⟨wo,rfl⟩:∃wo:World,wo=wr:=⟨_,rfl⟩;go_wp2;go_loopw [12,13] (RDblRel wo b E bt) (λ_ q _=>(33-intOf q).toNat)
  case atStart=>exact⟨0,AS _,rfl,congrArg _ bk,by simpa [twP] using Own.new wo 41 .u32 E,(AL _ _).alloc (AJ _) _⟩
  clear J bw co cx bk cj cs;obtain⟨q,hq,rfl,rfl,C,Y⟩:=hrel;have ci:=Ae b bt bm lr q;have U:=LH (Zye b bt q);by_cases cl:q<33
  ·have cw:=lr.getD q;obtain⟨y,Hy⟩:∃y,Hid (b.getD q 0=y):=⟨_,LH rfl⟩;have hl:=Ww f b.length g b q wr (ay.below Y) lr;rw[Hy.out] at hl cw;have Hl:=LH hl;obtain⟨v,Hv,db⟩:=C.cell (i:=q) (by rw[AV,U.out,BT,ap.out];omega);have dc:=C.frozen q;clear hl;go_wp2_with (go_at_call 76;(with_reducible refine Hl.out.mono ?_);rintro e w'⟨rfl,rfl⟩);go_roundw
   case rel =>
    refine⟨q+1,AA,AF,?_,?_,Y.setCell AE _⟩
    ·simp only[twP,Hy.out];go_num
    have:=C.set_ q ((2*y+(twP b bt q).2) % 4294967296);rw[Md _ E q _ U.out (by rw[ap.out];exact cl)] at this;simp only[twP,Hy.out];simpa using this
   simp[intOf];omega
  have av:q=33:=AA
  rw[List.drop_eq_nil_of_le (by rw[ap.out];omega),DK] at C;have bx:=C.nums (n:=33) (c:=33) (by rw[U.out];exact av) (AJ _) AA;have aj:=LH (Vg _ (twP_lim b bt q));rw[dbl_done b lr bt bm ct q av] at aj;have M:qs=limbs (val xs / 2 ^ (i+1) / val ys):=al.out;have R:Hid (val xs / 2 ^ (i+1) / val ys<big):=LH (by
   have h1:=bc.out;have o:=Nat.div_le_self (val xs) (2 ^ (i+1));have h3:=Nat.div_le_self (val xs / 2 ^ (i+1)) (val ys);omega)
  have T:Hid (val xs / 2 ^ i / val ys<big):=LH (by
   have h1:=bc.out;have o:=Nat.div_le_self (val xs) (2 ^ i);have h3:=Nat.div_le_self (val xs / 2 ^ i) (val ys);omega)
  clear al;generalize cq:val xs / 2 ^ (i+1) / val ys=a at *;clear cq;subst M;have x:Below w w wr:=X.trans (Y.mono X.size);have aa:=ax.below Y;have da:=x.size;have ak:=LH b2;have ao:Hid (ys.length<=33):=LH AA;have a5:=LH ly;clear C U ci av ay ax b2;generalize hp:(twP b bt q).1=ps at *;clear hp;by_cases Z:val ys<=2*val b+bt
  ·have J:decide (Vm (2*val b+bt) (val ys)=-1)=false:=by
    unfold Vm;rw[if_neg AA];split <;> rfl
   have s:=V.out.1 Z;have Hr:=LH s;have b9:=LH Z;have L:Xm (a+a)=(limbs (a+a),0):=Km (by have:=T.out;rw[s.2] at this;omega);have bn:Xm (a+a+1)=(limbs (a+a+1),0):=Km (by have:=T.out;rw[s.2] at this;omega);have b5:Hid (a+a<big):=LH (by have:=T.out;rw[s.2] at this;omega);have ai:=LH L;have b7:=LH bn;clear L bn s Z V;generalize a0:2*val b+bt=v2 at *;clear a0;have H:∀w' A c f g,Zq .u32 w' A (limbs a).length c (limbs a)->Zq .u32 w' f (limbs a).length g (limbs a)->Calls prog 125 #[.slice A (limbs a).length c,.slice f (limbs a).length g] w' (Xr w' (limbs (a+a),0)):=by
    intro w' A c f g G I;have:=Aa A c a f g a w' G I R.out R.out;rwa [ai.out] at this
   have bj:∀w' A c f g,Zq .u32 w' A (limbs (a+a)).length c (limbs (a+a))->Zq .u32 w' f 1 g [1]->Calls prog 125 #[.slice A (limbs (a+a)).length c,.slice f 1 g] w' (Xr w' (limbs (a+a+1),0)):=by
    intro w' A c f g G I;have e:=Zqh;have cg:Zq .u32 w' f (limbs 1).length g (limbs 1):=by rw[e];exact I
    have:=Aa A c (a+a) f g 1 w' G cg b5.out (Zrf 1 AC);rw[b7.out,e] at this;exact this
   have ah:=LH H;have b4:=LH bj;clear H bj;go_wp2_with (first
    | (go_at_call 31;(with_reducible refine (G6 _ _ _ _ _ bx).mono ?_);rintro e w'⟨rfl,t,rfl⟩;rw[aj.out] at t ⊢)
    | (go_at_call 188;(with_reducible refine (Zvr _ _ _ _ _ _ _ _ _ (t.below p) ((o.below x).below p) (Z9 _) a5.out ak.out ao.out).mono ?_);rintro e w'⟨rfl,rfl⟩;rw[Yd,J])
    | (go_at_call 189;(with_reducible refine (ref_less _ _ _ _ _ _ _ _ _ (t.below p) ((o.below x).below p) (Z9 _) a5.out ak.out ao.out (by rw[Yd];exact b9.out)).mono ?_);rintro e w3⟨A5,c5,rfl,bu,bg⟩;rw[Yd] at bu ⊢)
    | (go_at_call 125;(with_reducible refine (ah.out _ _ _ _ _ aa aa).mono ?_);rintro e w1⟨A4,c4,rfl,aw,p⟩)
    | (go_at_call 125;(with_reducible refine (b4.out _ _ _ _ _ ((aw.below bg).below ((AL _ _).alloc (AJ _) _)) (Zqr w3)).mono ?_);rintro e w6⟨A6,c6,rfl,cr,bh⟩))
   have bi:Below w3 w3 (w3.alloc (.cells #[.int .u32 1] 41)):=(AL _ _).alloc (AJ _) _;have ar:=Zz (Zz (Zz (Zz x p) bg) bi) bh;go_roundw
   case rel =>
    obtain⟨e1,F⟩:=Hr.out;refine⟨i,A6,c6,A5,c5,limbs (a+a+1),limbs (v2-val ys),AF,AA,rfl,cr,rfl,(bu.below bi).below bh,ar,LH ?_,LH ?_⟩
    ·rw[F,Nat.two_mul]
    rw[e1]
   simp[intOf] <;> omega
  have J:decide (Vm (2*val b+bt) (val ys)=-1)=true:=by
   unfold Vm;rw[if_pos AA];rfl
  have s:=V.out.2 AA;have Hr:=LH s;have L:Xm (a+a)=(limbs (a+a),0):=Km (by have:=T.out;rw[s.2] at this;omega);have ai:=LH L;clear L s Z V;generalize a0:2*val b+bt=v2 at *;clear a0;have H:∀w' A c f g,Zq .u32 w' A (limbs a).length c (limbs a)->Zq .u32 w' f (limbs a).length g (limbs a)->Calls prog 125 #[.slice A (limbs a).length c,.slice f (limbs a).length g] w' (Xr w' (limbs (a+a),0)):=by
   intro w' A c f g G I;have:=Aa A c a f g a w' G I R.out R.out;rwa [ai.out] at this
  have ah:=LH H;clear H;go_wp2_with (first
   | (go_at_call 31;(with_reducible refine (G6 _ _ _ _ _ bx).mono ?_);rintro e w'⟨rfl,t,rfl⟩;rw[aj.out] at t ⊢)
   | (go_at_call 188;(with_reducible refine (Zvr _ _ _ _ _ _ _ _ _ (t.below p) ((o.below x).below p) (Z9 _) a5.out ak.out ao.out).mono ?_);rintro e w'⟨rfl,rfl⟩;rw[Yd,J])
   | (go_at_call 125;(with_reducible refine (ah.out _ _ _ _ _ aa aa).mono ?_);rintro e w1⟨A4,c4,rfl,aw,p⟩))
  have ar:=Zz x p;go_roundw
  case rel =>
   obtain⟨e1,F⟩:=Hr.out;refine⟨i,A4,c4,_,33,limbs (a+a),limbs v2,AF,AA,rfl,aw,rfl,t.below p,ar,LH ?_,LH ?_⟩
   ·rw[F,Nat.two_mul]
   rw[e1]
  simp[intOf] <;> omega
 obtain rfl:k=0:=AA
 have M:=al.out;rw[Nat.pow_zero,Nat.div_one] at M;have az:=W.out;rw[Nat.pow_zero,Nat.div_one] at az;have ca:=LH M;have cb:=LH az;clear M az;go_wp2;go_ret3
 rw[<-ca.out,<-cb.out];unfold RetQuo;exact⟨_,_,_,_,rfl,ax,ay,X⟩
theorem Zrk.snoc{w:World}{B:Nat}{A g:Option Addr}{c k:Nat}(h:Zrk w B A n c f p){d:Nat}(C:Za .i64 w a xs.length d (Zrc xs))(y:w'.ownsRow B 30 1 (.slice g (n+1) k) (n+1) (f++[Value.slice a xs.length d]))(u:w.grownBy w' (Value.slice A n c).ownBlock)(x:∀b,(Value.slice g (n+1) k).ownBlock=some b->Qf w' b):
 Zrk w' B g (n+1) k (f++[Value.slice a xs.length d]) (p++[xs]):=by
 have o:Zf w w':=Zf.of_off (Off.of_grown u) λq z=>h.noInt q z;have m:f.length=n:=by have:=h.own.1;simpa using this
 refine⟨y,x,by rw[AV,h.len];rfl,λj D l=>?_⟩;rcases H4 l with ⟨v,l⟩ | ⟨rfl,rfl⟩
 ·obtain⟨r,s,h1,t⟩:=h.row j D l;exact⟨r,s,by rw[DB (by rw[m,<-h.len];exact v)];exact h1,t.keep o⟩
 exact⟨a,d,by rw[BV (by rw[m,h.len];exact AJ _),m,h.len,Nat.sub_self];rfl,C.keep o⟩
theorem Tryz.infoIntS:(prog.info? 30).map (λi=>(i.zero,i.size,i.bytes))=some (some (.slice none 0 0),1,24):=AB
theorem rf_less(d:Option Addr)(c1 a:Nat)(f:Option Addr)(c2 b:Nat)(w:World)(h1:Zq .u32 w d (limbs a).length c1 (limbs a))(g:Zq .u32 w f (limbs b).length c2 (limbs b))(k:a<big)(l:b<=a):
 Calls prog 79 #[.slice d (limbs a).length c1,.slice f (limbs b).length c2] w λe w'=>∃A c,e = .returned (.slice A (limbs (a-b)).length c)/\Zq .u32 w' A (limbs (a-b)).length c (limbs (a-b))/\Below w w w':=by
 have CA:=ref_sub d _ c1 (limbs a) f _ c2 (limbs b) w h1 g (Z9 _) (Z9 _);rw[Zw6 k l] at CA;have CA:=LH CA;clear h1 g;go_enter func79,ntmps79;go_wp2_with (first
  | (go_at_call 111
     refine CA.out.mono ?_;rintro e o⟨h,j,rfl,n,m⟩))
 go_ret;exact⟨h,j,rfl,n,m⟩
section
open Ieee
open Go.Maps (Keyed IsMap Tidy)
open Go.Maps (Keyed IsMap Tidy)
theorem Zxm{f w W:World}{k:BkH}{h:GH}{G:Gr}{S':Nat->Prop}{g x:Nat}{A:Option Addr}{c:Nat}{b:Bool}{n0 c0:Nat}{b0:Bool}(C:Wd f k h G S' W)(a:Blk W g 168 #[.slice A0 n0 c0,.bool b0])(s:Z1 W A n c b x)(m:Off k.map w W)(o:S' g)(h0:f.heap.size<=g)(t:w.heap.size<=g)(r:∀q,S q->S' q):
 Blk ((W.setCell ⟨g,0,none⟩ (.slice A n c)).setCell ⟨g,1,none⟩ (.bool b)) g 168 #[.slice A n c,.bool b]/\Zuw f k h G S w x (.returned (.agg #[.slice A n c,.bool b])) ((W.setCell ⟨g,0,none⟩ (.slice A n c)).setCell ⟨g,1,none⟩ (.bool b)):=by
 have j:Off (λq=>q=g) W ((W.setCell ⟨g,0,none⟩ (.slice A n c)).setCell ⟨g,1,none⟩ (.bool b)):=(Off.of_set W g 0 (.slice A n c)).trans (Off.of_set _ g 1 (.bool b)) λ_ _ h=>h;have l:Zf W ((W.setCell ⟨g,0,none⟩ (.slice A n c)).setCell ⟨g,1,none⟩ (.bool b)):=Zf.of_off j λq d=>by rw[d];exact Jk a
 have p:=C.not_map a;refine⟨(a.set 0 _).set 1 _,(C.move j l λq d=>?_).less r,m.trans j λq d e=>AA,A,n,c,b,rfl,s.kept l⟩;subst d;refine⟨o,h0,?_,p⟩;rintro rfl;have h1:=C.box;unfold Blk at h1 a;rw[h1] at a;injection a with a;injection a with _ h3 _;exact absurd h3 AC
end
section
variable {W0:World} {k:BkH} {h:GH} {G:Gr} {S':Nat->Prop} {w:World} {gR:Nat} {b:Nat->Bool} {u:Nat->Value} {X:World}
theorem PM.wrote(H:PM W0 k h G S' w gR b u X)(i j p:Nat)(hi:i=14/\j=12/\p=4\/i=15/\j=13/\p=11)(x:b j=true){A:Option Addr}{c:Nat}{d:Bool}(hp:u p = .agg #[.slice A n c,.bool d])(hw:w.heap.size<=gR)(ag:W0.heap.size<=gR):
 ∃g A0 n0 c0 C,u j = .pointer (some ⟨g,0,none⟩)/\Blk X g 168 #[.slice A0 n0 c0,.bool C]/\∀v,PM W0 k h G S' w gR (Mz b i) (upd u i v) ((X.setCell ⟨g,0,none⟩ (.slice A n c)).setCell ⟨g,1,none⟩ (.bool d))/\Zf X ((X.setCell ⟨g,0,none⟩ (.slice A n c)).setCell ⟨g,1,none⟩ (.bool d)):=by
 obtain⟨⟨o,a1,a2,a3,D,E⟩,M,N,B⟩:=H;have U:Cel o gR X (u j) false undef:=by
  rcases hi with ⟨rfl,rfl,rfl⟩ | ⟨rfl,rfl,rfl⟩
  ·obtain⟨g,A,n,c,d,e,r,l,a,_⟩:=D x;exact⟨g,A,n,c,d,e,r,l,a,nofun⟩
  obtain⟨g,A,n,c,d,e,r,l,a,_⟩:=E x;exact⟨g,A,n,c,d,e,r,l,a,nofun⟩
 obtain⟨g,A0,n0,c0,C,e,r,l,a,_⟩:=U;refine⟨g,A0,n0,c0,C,e,a,λv=>?_⟩;have m:Off (λq=>q=g) X ((X.setCell ⟨g,0,none⟩ (.slice A n c)).setCell ⟨g,1,none⟩ (.bool d)):=(Off.of_set X g 0 (.slice A n c)).trans (Off.of_set _ g 1 (.bool d)) λ_ _ h=>h;have F:Zf X ((X.setCell ⟨g,0,none⟩ (.slice A n c)).setCell ⟨g,1,none⟩ (.bool d)):=Zf.of_off m λq f=>by rw[f];exact Jk a
 have P:Blk ((X.setCell ⟨g,0,none⟩ (.slice A n c)).setCell ⟨g,1,none⟩ (.bool d)) g 168 #[.slice A n c,.bool d]:=(a.set 0 _).set 1 _;have V:g≠k.c:=by
  rintro rfl;have h1:=a1.box;unfold Blk at h1 a;rw[h1] at a;injection a with a;injection a with _ h3 _;exact absurd h3 AC
 have W:=a1.not_map a;have S:=a1.move m F λq f=>by subst f;exact⟨l,AA,V,W⟩
 have Z:=M.trans m λq f e=>AA
 have i1:4≠i:=AA
 have i2:11≠i:=AA
 have y:12≠i:=AA
 have z:13≠i:=AA
 have I:∀{v:Value} {s:Bool} {L:Value},v≠u j->Cel o gR X v s L->Cel o gR ((X.setCell ⟨g,0,none⟩ (.slice A n c)).setCell ⟨g,1,none⟩ (.bool d)) v s L:=λY T=>T.mono (λq f=>f) λg' t cs O R=>m.blk R (by rintro rfl;exact Y (O.trans e.symm));have J:∀(s:Bool),Cel o gR ((X.setCell ⟨g,0,none⟩ (.slice A n c)).setCell ⟨g,1,none⟩ (.bool d)) (u j) s (u p):=λs=>⟨g,A,n,c,d,e,r,l,P,λ_=>hp⟩;refine⟨⟨⟨o,S,a2,λq f=>AK (a3 q f) m.size,?_,?_⟩,Z,m.blk N (λe=>AA),?_⟩,F⟩
 ·rw[Ys y,Yj y,Yj i1];rcases hi with ⟨rfl,rfl,rfl⟩ | ⟨rfl,rfl,rfl⟩
  ·exact λ_=>J _
  rw[Ys AA];exact λh=>I (B h x) (D h)
 ·rw[Ys z,Yj z,Yj i2];rcases hi with ⟨rfl,rfl,rfl⟩ | ⟨rfl,rfl,rfl⟩
  ·rw[Ys AA];exact λh=>I (B x h).symm (E h)
  exact λ_=>J _
 rw[Ys y,Yj y,Ys z,Yj z];exact B
theorem Wd.moveN{j w:World}{k:BkH}{h:GH}{G:Gr}{P:Nat->Prop}(C:Wd j k h G S w)(g:Off P w w')(q:Zu w w')(h1:∀b,P b->S b/\j.heap.size<=b/\b≠k.c/\b≠k.t):Wd j k h G S w':=by
 have r:=C.map_lt;refine⟨C.base.trans (g.is_below C.base.size λb l=>(h1 b l).2.1),g.blk C.box λa=>(h1 _ a).2.2.1 rfl,C.low,?_⟩;obtain⟨ts,f⟩:=C.known;refine⟨ts,f.map.block (g.keep _ r λa=>(h1 _ a).2.2.2 rfl),f.key,λp a=>⟨?_,(f.val p a).2⟩⟩;obtain⟨A,n,c,d,m,o⟩:=(f.val p a).1;exact⟨A,n,c,d,(g.keep _ m.lt λl=>(f.val p a).2 (h1 _ l).1).trans m,o.nkept q⟩
end
section
variable {W0:World} {h:GH} {G:Gr} {At:Option Addr} {nt ct wk:Nat} {cs:List Nat} {full:Bool} {A:Option Addr} {c:Nat} {W:World}
theorem Bp.apart(M:Bp W0 h G At nt ct wk cs full A c W):(Value.slice A cs.length c).ownBlock≠some wk:=λe=>by
 obtain⟨_,_,v,a⟩:=M.row.blk e;exact absurd (a.same_ty M.box) AC
end
section
open Go.ChangeShapes Go.WideShapes Go.ChangeAt Go.RowKit
open Go.ChangeShapes Go.WideShapes Go.ChangeAt Go.RowKit
open Go.ChangeShapes Go.WideShapes Go.ChangeAt Go.RowKit Go.Lib Go.Deep
open Go.ChangeShapes Go.WideShapes Go.ChangeAt Go.RowKit Go.Lib Go.Deep
variable {H:Type} {enc:TypeId × Value->H} {w:World} {base:Nat} {held:Bool}
structure GrIn (w:World) (h:GH) (G:Gr):Prop where
 at_:Yf w h G
 small:∀t∈G.terms,t.name.size<=maxLen
 start:U3 G.start
end
