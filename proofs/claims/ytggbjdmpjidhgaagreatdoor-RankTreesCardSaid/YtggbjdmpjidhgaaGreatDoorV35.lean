/- the reference's reading: a reader's small steps: kind, is, take. -/
import Derived.Test.YtggbjdmpjidhgaaGreatDoorV30
import Derived.Test.YtggbjdmpjidhgaaGreatDoorV31
import Derived.Test.YtggbjdmpjidhgaaGreatDoorV32
set_option linter.all false
set_option maxHeartbeats 1500000
set_option maxRecDepth 100000
namespace Go.Proofs.YtggbjdmpjidhgaaGreatDoor
open Go.RowKit Go.Proofs.Tryz
theorem rf_one(A:Option Addr)(n c i:Nat)(xs:List Nat)(w:World)(h:Zq .u8 w A n c xs)(f:∀x∈xs,x<256)(g:n<=100000)(hi:i<n)(t:Af)(j:Nat)(a:oneP xs i=some (t,j)):
 Calls prog 187 #[.slice A n c,.int .i64 (i:Int)] w λe w'=>e = .returned (.tuple #[TokV t.kind t.text (atP xs i),.int .i64 (j:Int),.int .i64 0])/\Below w w w':=by
 have y:=h.len;unfold oneP at a;by_cases l:Xf (xs.getD i 0)=true
 ·rw[if_pos l] at a;split at a
  ·rename_i u;simp only[BM,CZ] at a;obtain⟨rfl,rfl⟩:=a;have:=Zu3 Wa (xs.drop (i+1));rw[DC] at this;refine rf_one_name A n c i (Kk xs i) xs w h f g hi l (by unfold Kk;omega) (by unfold Kk;omega) u (λk v p=>?_) (λq=>?_)
   ·have:=tw_in Wa (xs.drop (i+1)) (k-(i+1)) (by unfold Kk at p;omega);rw[F0,show i+1+(k-(i+1))=k by omega] at this;exact this
   have:=tw_out Wa (xs.drop (i+1)) (by rw[DC];unfold Kk at q;omega);rw[F0] at this;exact this
  cases a
 rw[if_neg l] at a;have r:Xf (xs.getD i 0)=false:=by simpa using l
 by_cases b:xs.getD i 0=39
 ·rw[if_pos b] at a;split at a
  ·rename_i s;simp only[AR,decide_eq_true_eq] at s;simp only[BM,CZ] at a;obtain⟨rfl,rfl⟩:=a;exact rf_one_lit A n c i xs w h f g AA b s.1
  cases a
 rw[if_neg b] at a;by_cases d:Bz xs i [37,37]=true
 ·rw[if_pos d] at a;simp only[BM,CZ] at a;obtain⟨rfl,rfl⟩:=a;exact rf_one_cut A n c i xs w h f g hi r b d
 rw[if_neg d] at a;by_cases m:xs.getD i 0=37
 ·rw[if_pos m] at a;split at a
  ·cases a
  rename_i o;simp only[BM,CZ] at a;obtain⟨rfl,rfl⟩:=a;have:=Zu3 K7 (xs.drop (i+1));rw[DC] at this;refine rf_one_word A n c i (Kw xs i) xs w h f g hi m (by simpa using d) (by unfold Kw;omega) (by unfold Kw;omega) (λk v p=>?_) (λq=>?_) o
  ·have:=tw_in K7 (xs.drop (i+1)) (k-(i+1)) (by unfold Kw at p;omega);rw[F0,show i+1+(k-(i+1))=k by omega] at this;exact this
  have:=tw_out K7 (xs.drop (i+1)) (by rw[DC];unfold Kw at q;omega);rw[F0] at this;exact this
 rw[if_neg m] at a;split at a
 ·cases a
 rename_i o;simp only[BM,CZ] at a;obtain⟨rfl,rfl⟩:=a;exact rf_one_mark A n c i xs w h f g hi r b (by simpa using d) m o
theorem rf_Tokens(A:Option Addr)(n c q:Nat)(xs:List Nat)(w:World)(h:Zq .u8 w A n c xs)(hb:∀x∈xs,x<256)(hn:n<=4000)(ts:List Af)(aw:Ml xs q 0=some ts)(hc:Dd ts<2):
 Calls prog 136 #[.slice A n c] w λe w'=>∃f g x y,e = .returned (.tuple #[.slice f ts.length g,.complex .f64 x y,.int .i64 0])/\Kq w' w' f ts.length g (ts.map Zyr)/\Below w w w':=by
 obtain rfl:=h.len;have be:=h.cap;have H:=LH h;have Hb:=LH hb;have Hc:=LH hc;have a3:=LH aw;have ao:(prog.info? 231).map (λi=>(i.zero,i.size,i.bytes))=some (some (.agg #[.int .i64 0,.string ⟨#[]⟩,.complex .f64 0 0]),3,40):=AB
 have a0:=LH ao;have bi:∀(w:World) (a:Addr) (k:FloatKind) (x y:Nat) (m:Mode),(store a (.complex k x y) m).run prog w=stored prog w a (.complex k x y) m:=λw a k x y m=>run_store prog w a _ m rfl;clear h hb hc ao aw;go_enter func136,ntmps136;go_wp2_with fail;go_loopw [5,6,7] (λo a m wr=>∃(i mk d g:Nat) (f:Option Addr) (done R:List Af) (cs:List Value),o = .slice f d g/\a = .int .i64 (i:Int)/\m = .int .i64 (mk:Int)/\i<=xs.length/\d<=i/\mk<2 /\
  Hid (d=done.length)/\Hid (mk=Dd done)/\Hid (∃Z,Ml xs Z i=some R)/\Hid (done++R=ts)/\Hid (wr.ownsRow w 231 3 (.slice f d g) d cs)/\Hid (Dp cs (done.map Zyr))/\Below w w wr) (λ_ a _ _=>xs.length-(intOf a).toNat)
 case atStart=>exact⟨0,0,0,0,none,[],ts,[],rfl,rfl,rfl,AA,AA,AA,LH rfl,LH rfl,LH ⟨q,a3.out⟩,LH rfl,LH (BJ _ _ _ _),LH Dp.nil,AK _ _⟩
 obtain⟨i,mk,d,g,f,done,R,cs,rfl,rfl,rfl,hi,hd,bg,U,M,X,C,W,L,v⟩:=hrel;by_cases O:i<xs.length
 case neg =>
  obtain rfl:i=xs.length:=AA
  have CT:=LH (B0 A xs.length c xs (xs.length:Int) wr (H.out.below v) AA);have V:Hid (done=ts/\d=ts.length):=LH (by
   obtain⟨Z,P⟩:=X.out;have e:=C.out;rw[toksP_end P (AI _),DK] at e;exact⟨e,by rw[U.out,e]⟩)
  obtain⟨l,p,D⟩:∃a b,atP xs (xs.length:Int) = .complex .f64 a b:=by
   unfold atP PV;split
   ·exact⟨_,_,rfl⟩
   exact⟨_,_,rfl⟩
  rw[D] at CT;clear D;go_wp2_with (go_at_call 186;(with_reducible refine CT.out.mono ?_);rintro e B⟨rfl,rfl⟩);refine AV (results_tmp3 rfl _ _ _) rfl ?_;refine⟨f,g,l,p,by rw[<-V.out.2];rfl,?_,v⟩;have ht:=own_toks W.out L.out;rw[V.out.1,V.out.2] at ht;exact ht
 obtain⟨Z,P⟩:=X.out;obtain⟨ar,ba⟩:=toksP_step P O;have I:=LH (rf_skip7 A xs.length c i xs wr (H.out.below v) Hb.out AA O ar);clear X P ar;rcases ba with ⟨E,S,F⟩ | ⟨E,t,j,rest,S,Y,F,rfl⟩
 ·rw[E,if_pos rfl] at I;have N:=LH F;clear F E;go_wp2_with (go_at_call 185;(with_reducible refine I.out.mono ?_);rintro e B⟨rfl,rfl⟩);go_roundw
  case rel=>exact⟨i+1,mk,d,g,f,done,R,cs,rfl,rfl,rfl,AA,AA,AA,U,M,LH ⟨S,N.out⟩,C,W,L,v⟩
  simp[intOf];omega
 rw[E,if_neg DE] at I;obtain⟨bf,ap⟩:=oneP_lt O Y;have G:=LH (rf_one A xs.length c i xs wr (H.out.below v) Hb.out AA O t j Y);have N:=LH F;have a1:Hid (Dd (done++[t])<2):=LH (by
  have u:=Hc.out;rw[<-C.out,show done++t::rest=(done++[t])++rest by simp,Cw] at u;omega)
 obtain⟨l,p,D⟩:∃a b,atP xs (i:Int) = .complex .f64 a b:=by
  unfold atP PV;split
  ·exact⟨_,_,rfl⟩
  exact⟨_,_,rfl⟩
 rw[D] at G;have ag:Hid (done++[t]++rest=ts):=LH (by rw[<-C.out];simp);have az:=LH (Dp.snoc L.out (Zyr t) l p);have T:Hid (Dd [t]=if t.kind=9 then 1 else 0):=LH (by
  unfold Dd;by_cases r:t.kind=9
  ·simp[r]
  simp[r])
 have Ht:Hid (Zyr t=(t.kind,str t.text)):=rfl;clear F E Y D L C;generalize av:Zyr t=tk at *;generalize a8:t.kind=s at *;generalize ax:str t.text=z at *;unfold TokV at G;rw[ax] at G;have a2:=LH av;clear a8 ax av;have r:((s==9)=true/\Hid (Dd [t]=1))\/((s==9)=false/\Hid (Dd [t]=0)):=by
  by_cases r:s=9
  ·exact .inl ⟨by simp[r],LH (by rw[T.out,if_pos r])⟩
  exact .inr ⟨by simp[r],LH (by rw[T.out,if_neg r])⟩
 clear T;rcases r with ⟨e9,J⟩ | ⟨e9,J⟩;all_goals
  go_wp2_with (first
   | (go_at_call 185;(with_reducible refine I.out.mono ?_);rintro e B⟨rfl,rfl⟩)
   | (go_at_call 187;(with_reducible refine G.out.mono ?_);rintro e B⟨rfl,ak⟩
      have al:=Zz v ak;have a6:=Zo al (.cells #[.int .i64 s,.string z,.complex .f64 l p] 231);have bd:w.heap.size<=B.heap.size:=al.size;have p5:=Zl B (.cells #[.int .i64 s,.string z,.complex .f64 l p] 231);have ah:=LH ((M5 W.out ak).alloc (.cells #[.int .i64 s,.string z,.complex .f64 l p] 231)))
   | (at_builtin;refine Ye (w:=B.alloc (.cells #[.int .i64 s,.string z,.complex .f64 l p] 231)) rfl _ _ 185 rfl w 231 _ 3 40 underlying185 a0.out AC AC f d g cs rfl ah.out [.int .i64 s,.string z,.complex .f64 l p] rfl (by rw[p5];rfl) (by simp[Value.oneCell']) AA AA AA ?_;intro A4 c4 w4 ho a7 ha))
  have a9:mk+Dd [t]<2:=by
   have u:=a1.out;rwa [Cw,<-M.out] at u
  rw[J.out] at a9;have ab:=LH (below_appendG a6 a7 ah.out AA);have ad:Hid (Dp (cs++[.int .i64 s,.string z,.complex .f64 l p]) ((done++[t]).map Zyr)):=LH (by
   have u:=az.out;rw[Ht.out] at u;rw[DI,CU,List.map_nil,a2.out,Ht.out];exact u)
  have af:Hid (d+1=(done++[t]).length):=LH (by rw[AS,<-U.out];rfl);go_roundw
  case rel =>
   first
    | exact⟨j,mk+1,d+1,c4,A4,done++[t],rest,_,rfl,rfl,AF,ap,AA,AA,af,LH (by have u:=M.out;have h2:=J.out;rw[Cw];omega),LH ⟨S,N.out⟩,ag,LH ho,ad,ab.out⟩
    | exact⟨j,mk,d+1,c4,A4,done++[t],rest,_,rfl,rfl,rfl,ap,AA,AA,af,LH (by have u:=M.out;have h2:=J.out;rw[Cw];omega),LH ⟨S,N.out⟩,ag,LH ho,ad,ab.out⟩
  simp[intOf];omega
theorem rd_Of(A:Option Addr)(n c q x y:Nat)(ts:List Tk)(ps:List Prd)(w:World)(h:Kq w w.heap.size A n c ts)(hl:n<=4000)(C:srcP q ts=some ps):
 Calls prog 137 #[.slice A n c,.complex .f64 x y] w λe w'=>∃A' c' cs,e = .returned (.tuple #[.agg #[.slice none 0 0,.slice A' ps.length c'],.complex .f64 0 0,.int .i64 0])/\w'.ownsRow w.heap.size 199 5 (.slice A' ps.length c') ps.length cs/\Vu w' (λb=>w.heap.size<=b) cs ps/\Below w.heap.size w w':=by
 obtain rfl:=h.1;obtain⟨m,B,l,aa,R,rfl,a8,am,b3,rfl⟩:∃m B l aa R,ts=m::B/\m.1=9/\Fj q B=some (l,aa)/\Ku q aa=some R/\ps=l++R:=by
  cases ts with
  | nil=>cases C
  | cons m G =>
    have C:(if m.1=9 then (match Fj q G with | none=>none | some (ps,r)=>(Ku q r).map (ps++·)) else none)=some ps:=C;split at C
    ·rename_i h9;split at C
     ·cases C
     rename_i p0 r0 U;rw[Option.map_eq_some_iff] at C;obtain⟨m2,h1,h2⟩:=C;exact⟨m,G,p0,r0,m2,rfl,h9,U,h1,h2.symm⟩
    cases C
 have d3:=h.2.1;have d4:=h.2.2.1;have fk:∀(w:World) (a:Addr) (k:FloatKind) (x y:Nat) (m:Mode),(store a (.complex k x y) m).run prog w=stored prog w a (.complex k x y) m:=λw a k x y m=>run_store prog w a _ m rfl;have b5:(prog.info? 199).map (λi=>(i.zero,i.size,i.bytes))=some (some (.agg #[.string ⟨#[]⟩,.complex .f64 0 0,.slice none 0 0,.string ⟨#[]⟩,.complex .f64 0 0]),5,88):=AB
 have Hi:=LH b5;have CD:=LH λ(W:World) (p:Nat) (E:Wc W p (m::B))=>rd_decls p (m::B) W E a8;have CT:=LH λ(W:World) (p:Nat) (E:Wc W p (m::B))=>Ca p 9 9 m B W E (by simp[isP,a8]);have CG:=LH λ(W:World) (p:Nat) (E:Wc W p B)=>Zsd p q B l aa W E am;have H:=LH h;have dy:=LH am;have c7:=LH b3;have fd:=Zxb am;have d9:B.length+1<=4000:=hl;clear h a8 am b3 C b5;generalize hN:(m::B).length=N at *;go_enter func137,ntmps137;go_wp2_with fail;have a0:=Zo (Zy w (.cells #[.slice none 0 0,.slice none 0 0] 130)) (.cells #[.slice A N c,.complex .f64 x y,.complex .f64 0 0,.int .i64 0] 236);have cf:(w.alloc (.cells #[.slice none 0 0,.slice none 0 0] 130)).heap.size=w.heap.size+1:=Zl _ _;have a3:=Blk.new (w.alloc (.cells #[.slice none 0 0,.slice none 0 0] 130)) 236 #[.slice A N c,.complex .f64 x y,.complex .f64 0 0,.int .i64 0];have br:Blk (w.alloc (.cells #[.slice none 0 0,.slice none 0 0] 130)) w.heap.size 130 #[.slice none 0 0,.slice none 0 0]:=Blk.new w _ _;have a4:=br.ext (Zy _ (.cells #[.slice A N c,.complex .f64 x y,.complex .f64 0 0,.int .i64 0] 236));rw[cf] at a3;have ao:Wc ((w.alloc (.cells #[.slice none 0 0,.slice none 0 0] 130)).alloc (.cells #[.slice A N c,.complex .f64 x y,.complex .f64 0 0,.int .i64 0] 236)) (w.heap.size+1) (m::B):=by
  have ht:=(H.out.wide (DR w.heap.size)).below a0;subst hN;exact⟨hl,A,c,x,y,0,0,a3,ht⟩
 generalize (w.alloc (.cells #[.slice none 0 0,.slice none 0 0] 130)).alloc (.cells #[.slice A N c,.complex .f64 x y,.complex .f64 0 0,.int .i64 0] 236)=J at *;generalize hp:w.heap.size+1=p at *;have fe:w.heap.size<p:=AA
 clear a3 br cf hp;(with_reducible refine (CD.out _ _ ao).mono ?_);rintro e w1⟨rfl,rfl⟩;have a1:=Zo a0 (.cells #[.slice none 0 0,.slice none 0 0] 130);have Z:=ao.below (Zy J (.cells #[.slice none 0 0,.slice none 0 0] 130));have bw:=Blk.new J 130 #[.slice none 0 0,.slice none 0 0];have bs:=a4.ext (Zy J (.cells #[.slice none 0 0,.slice none 0 0] 130));have fc:=ao.lt;have d2:w.heap.size<J.heap.size:=a4.lt;go_wp2_with fail;generalize J.alloc (.cells #[.slice none 0 0,.slice none 0 0] 130)=W2 at *;generalize J.heap.size=f at *;clear ao a0 a4;(with_reducible refine (CT.out _ _ Z).mono ?_);rintro e W3⟨⟨x3,y3,rfl⟩,ba,an⟩;have a5:=bw.grown an (by intro e;injection e with e;omega);have bt:=bs.grown an (by intro e;injection e with e;omega);have a2:Below w.heap.size w W3:=a1.trans (Zn an a1.size AA);have b9:=ba.lt;have d7:=a5.lt;clear Z a1 bw bs an;go_wp2_with fail;(with_reducible refine (CG.out _ _ ba).mono ?_);rintro e j⟨z,c1,ax,rfl,Y,bm,cc,X⟩;have ak:=a5.grown X (by intro e;injection e with e;omega);have bu:=bt.grown X (by intro e;injection e with e;omega);have bk:Below w.heap.size w j:=a2.trans (Zn X a2.size AA);have v1:=ak.frozen 1;have z1:j.cell? ⟨f,1,none⟩=some (.slice none 0 0):=ak.cell 1;go_wp2_with fail;have cd:=cc.keep (w':=j.setCell ⟨f,1,none⟩ (.slice z l.length c1)) AE λk h1 h2=>Eb j ⟨f,1,none⟩ _ k (show k≠f by omega);have b8:(j.setCell ⟨f,1,none⟩ (.slice z l.length c1)).ownsRow W3.heap.size 199 5 (.slice z l.length c1) l.length ax:=Yq Y λb hb _ _=>Eb j ⟨f,1,none⟩ _ b (show b≠f by omega);have bn:Vu (j.setCell ⟨f,1,none⟩ (.slice z l.length c1)) (λb=>W3.heap.size<=b/\(Value.slice z l.length c1).ownBlock≠some b) ax l:=bm.keep AE λk O o=>⟨Eb j ⟨f,1,none⟩ _ k (show k≠f by omega),o⟩;have bx:=ak.set 1 (.slice z l.length c1);have bv:=bu.other f 1 (.slice z l.length c1) AA;have dt:W3.heap.size<=(j.setCell ⟨f,1,none⟩ (.slice z l.length c1)).heap.size:=by simpa using X.size
 have bl:=Zg bk f 1 (.slice z l.length c1) AA;generalize j.setCell ⟨f,1,none⟩ (.slice z l.length c1)=W5 at *;have db:=LH b8;have cr:=LH bn;have df:=LH cd;have co:=LH bl;have bz:Blk W5 f 130 #[.slice none 0 0,.slice z l.length c1]:=bx;have cz:=LH bz;have cx:=LH bv;clear b8 bn cd bl bx bv bz Y bm cc bk ak bu X v1 z1 ba a2 a5 bt;go_loopw [] (λwr=>∃(d c:Nat) (A:Option Addr) (done:List Prd) (G:List Tk) (cs:List Value),d+G.length<=4000/\W3.heap.size<=wr.heap.size/\Hid (d=done.length)/\Hid (∃q' P,Ku q' G=some P/\done++P=l++R) /\
  Hid (wr.ownsRow W3.heap.size 199 5 (.slice A d c) d cs)/\Hid (Vu wr (λb=>W3.heap.size<=b/\(Value.slice A d c).ownBlock≠some b) cs done)/\Hid (Wc wr p G)/\Hid (Below w.heap.size w wr) /\
  Hid (Blk wr f 130 #[.slice none 0 0,.slice A d c])/\Hid (Blk wr w.heap.size 130 #[.slice none 0 0,.slice none 0 0])) (λwr=>Zyp wr p)
 case atStart=>exact⟨l.length,c1,z,l,aa,ax,AA,dt,LH rfl,LH ⟨q,R,c7.out,rfl⟩,db,cr,df,co,cz,cx⟩
 obtain⟨d,c,A,done,G,cs,d5,ce,Hd,Hq,Ho,Hc,Hr,HB,au,I⟩:=hrel;obtain⟨q',P,cb,al⟩:=Hq.out;obtain⟨A0,c0,x0,y0,fu,fx,_,_,_,r0,r1,r2,r3⟩:=Hr.out.parts;have k0:wr.cell? ⟨f,0,none⟩=some (.slice none 0 0):=au.out.cell 0;have k1:wr.cell? ⟨f,1,none⟩=some (.slice A d c):=au.out.cell 1;have m0:=I.out.frozen 0;have m1:=I.out.frozen 1;have j0:wr.cell? ⟨w.heap.size,0,none⟩=some (.slice none 0 0):=I.out.cell 0;have j1:wr.cell? ⟨w.heap.size,1,none⟩=some (.slice none 0 0):=I.out.cell 1;have d8:f≠w.heap.size:=AA
 clear Hq;rcases groupsP_step cb with ⟨rfl,rfl⟩ | ⟨u,S,rfl,cg,q2,g,F,m2,U,b1,rfl⟩
 ·have fo:wr.cell? ⟨p,0,none⟩=some (.slice A0 0 c0):=r0;rw[DK] at al;clear r0;go_wp2_with fail;have hF:Blk ((wr.setCell ⟨w.heap.size,0,none⟩ (.slice none 0 0)).setCell ⟨w.heap.size,1,none⟩ (.slice A d c)) w.heap.size 130 #[.slice none 0 0,.slice A d c]:=(I.out.set 0 (.slice none 0 0)).set 1 (.slice A d c);have a6:wr.grownBy ((wr.setCell ⟨w.heap.size,0,none⟩ (.slice none 0 0)).setCell ⟨w.heap.size,1,none⟩ (.slice A d c)) (some w.heap.size):=Zc (Zd _ _ _ _) (Zd _ _ _ _);refine AV (Yu (p:=4) (u:=5) (v:=6) AB _ _ w.heap.size 130 #[.slice none 0 0,.slice A d c] (0,0) _ rfl hF underlying130 rfl AB) rfl ?_;have bo:w.heap.size<W3.heap.size:=AA
  rw[<-al,<-Hd.out];refine⟨A,c,cs,rfl,Zzw (Qg Ho.out a6 bo) (DP bo),Hc.out.keep a6.size λk O o=>⟨a6.block k O (by intro e;injection e with e;have:=o.1;omega),by have:=o.1;omega⟩,Zg (Zg HB.out _ _ _ (AI _)) _ _ _ (AI _)⟩
 have CK:=LH (Ztg p (u::S) wr Hr.out);have cn:=LH λ(W:World) (E:Wc W p (u::S))=>Zsd p q2 (u::S) g F W E U;have ca:=Zxb U;have dr:Hid (F.length<Zyp wr p):=LH (by rw[Hr.out.rem];omega);have ff:d+g.length+F.length<=4000:=AA
 have e9:(u.1 != 9)=true:=by rw[BN];exact cg
 have fb:0<(u::S).length:=AE
 have b6:Qy (u::S)=u.1:=rfl;rw[b6] at CK;have c8:=LH b1;have c5:=LH al;have dq:=ca.1;clear U b1 cg cb b6 al ca;generalize (u::S).length=nu at *;generalize u.1=uk at *;go_wp2_with (go_at_call 191;(with_reducible refine CK.out.mono ?_);rintro e w2⟨rfl,rfl⟩);go_region_law (first
  | (go_simp;go_at_call 190;refine (cn.out _ (by exact Hr.out)).mono ?_;rintro e w2⟨A2,c2,T,rfl,a9,aj,Z,L⟩
     have V:wr.grownBy w2 (some p):=⟨L.os,L.tape,L.output,L.size,L.block⟩;obtain⟨g2,rfl,d6,fa,b0⟩:=own_cells a9 dq;have b2:=au.out.grown V (by intro e;injection e with e;omega);have z1:w2.cell? ⟨f,1,none⟩=some (.slice A d c):=b2.cell 1;have ae:=LH (Qg Ho.out V b9);have ds:W3.heap.size<=w2.heap.size:=BC ce V.size;have dm:T.length=g.length*5:=aj.1;have dn:=LH (prdCs_one aj);have c3:=LH b0;have cq:=LH aj;have de:=LH Z;have cu:=LH b2;have ad:=LH V;have dz:=LH a9;clear b0 aj Z b2 V L a9)
  | (refine V5 rfl _ _ 128 rfl W3.heap.size 199 _ 5 88 underlying128 Hi.out AC AC A d c cs (by simp[Act.eval,Act.put]) ae.out ⟨g2,0,none⟩ g.length c2 T dm (by simp[Act.eval,Act.put]) c3.out dn.out AA AA ds ?_;intro s t j Y a7 bp
     have b4:=cu.out.grown a7 (by intro e;have:=(ae.out.lt f e.symm).1;omega);have y1:j.cell? ⟨f,1,none⟩=some (.slice A d c):=b4.cell 1;have v1:=b4.frozen 1;have cv:=LH b4;have D:=LH a7;have be:=LH bp;have da:=LH Y;clear b4 a7 bp Y))
 all_goals
  have M:j.grownBy (j.setCell ⟨f,1,none⟩ (.slice s (d+g.length) t)) (some f):=Zd _ _ _ _;have ai:∀b,(Value.slice A d c).ownBlock=some b->W3.heap.size<=b/\b<wr.heap.size:=λb hb=>Ho.out.lt b hb;have s2:=ad.out.size;have s4:=D.out.size;have sX:=M.size;have ct:Hid (Vu (j.setCell ⟨f,1,none⟩ (.slice s (d+g.length) t)) (λb=>W3.heap.size<=b/\(Value.slice s (d+g.length) t).ownBlock≠some b) (cs++T) (done++g)):=LH (Vu.app
   (Hc.out.keep AA λk O o=>⟨by rw[M.block k AA (by intro e;injection e with e;have:=o.1;omega),D.out.block k AA (λe=>o.2 e.symm),ad.out.block k O (by intro e;injection e with e;have:=o.1;omega)],o.1,λh3=>o.2 (be.out k h3 AA)⟩)
   (cq.out.keep AA λk O o=>⟨by rw[M.block k AA (by intro e;injection e with e;have:wr.heap.size<=k:=o.1;omega),D.out.block k AA (λe=>by have:=ai k e.symm;have:wr.heap.size<=k:=o.1;omega)],BC ce o.1,λh3=>by have:=ai k (be.out k h3 AA);have:wr.heap.size<=k:=o.1;omega⟩))
  have dc:Hid ((j.setCell ⟨f,1,none⟩ (.slice s (d+g.length) t)).ownsRow W3.heap.size 199 5 (.slice s (d+g.length) t) (d+g.length) (cs++T)):=LH (Qg da.out M AA);have bi:Hid (Wc (j.setCell ⟨f,1,none⟩ (.slice s (d+g.length) t)) p F):=LH ((de.out.app D.out ae.out b9).keep sX λk h1 h2=>M.block k h2 (by intro e;injection e with e;omega));have cp:Hid (Below w.heap.size w (j.setCell ⟨f,1,none⟩ (.slice s (d+g.length) t))):=LH (Zg ((HB.out.trans (Zn ad.out HB.out.size AA)).trans ⟨D.out.os,D.out.tape,D.out.output,s4,λk O=>D.out.block k (by have:=HB.out.size;omega) (λe=>by have:=(ai k e.symm).1;omega)⟩) _ _ _ AA);have cw:Hid (Blk (j.setCell ⟨f,1,none⟩ (.slice s (d+g.length) t)) f 130 #[.slice none 0 0,.slice s (d+g.length) t]):=LH (cv.out.set 1 (.slice s (d+g.length) t));have cy:Hid (Blk (j.setCell ⟨f,1,none⟩ (.slice s (d+g.length) t)) w.heap.size 130 #[.slice none 0 0,.slice none 0 0]):=LH (((I.out.grown ad.out (by intro e;injection e with e;omega)).grown D.out (by intro e;have:=(ae.out.lt _ e.symm).1;omega)).other f 1 _ AA);have c6:Hid (d+g.length=(done++g).length):=LH (by rw[AS,<-Hd.out]);have dd:Hid (∃q' P,Ku q' F=some P/\(done++g)++P=l++R):=LH ⟨q2,m2,c8.out,by rw[<-c5.out];simp⟩;have dg:Hid (Zyp (j.setCell ⟨f,1,none⟩ (.slice s (d+g.length) t)) p=F.length):=LH bi.out.rem;have du:W3.heap.size<=(j.setCell ⟨f,1,none⟩ (.slice s (d+g.length) t)).heap.size:=AA
  clear ai M s2 s4 sX;go_wp2_with fail;go_roundw
  case rel=>exact⟨d+g.length,t,s,done++g,F,cs++T,AA,du,c6,dd,dc,ct,bi,cp,cw,cy⟩
  rw[dg.out];exact dr.out
theorem rf_Parse(A:Option Addr)(n c q I:Nat)(xs:List Nat)(w:World)(h:Zq .u8 w A n c xs)(D:∀x∈xs,x<256)(X:n<=4000)(ts:List Af)(H:Ml xs q 0=some ts)(F:Dd ts<2)(U:ts.length<=4000)(ps:List Prd)(G:srcP I (ts.map Zyr)=some ps):
 Calls prog 83 #[.slice A n c] w λe w'=>∃f g cs,e = .returned (.tuple #[.agg #[.slice none 0 0,.slice f ps.length g],.complex .f64 0 0,.int .i64 0])/\w'.ownsRow w 199 5 (.slice f ps.length g) ps.length cs/\Vu w' (λb=>w.heap.size<=b) cs ps/\Below w w w':=by
 have t:=Zy w (.cells #[.slice none 0 0,.slice none 0 0] 130);have S:=Blk.new w 130 #[.slice none 0 0,.slice none 0 0];have CT:=LH (rf_Tokens A n c q xs _ (h.below t) D X ts H F);have V:(ts.map Zyr).length=ts.length:=AE
 have L:=LH λ(W:World) (f:Option Addr) (g x y:Nat) (o:Kq W W f ts.length g (ts.map Zyr))=>rd_Of f ts.length g I x y (ts.map Zyr) ps W o U G;have Z:∀(w:World) (a:Addr) (k:FloatKind) (x y:Nat) (m:Mode),(store a (.complex k x y) m).run prog w=stored prog w a (.complex k x y) m:=λw a k x y m=>run_store prog w a _ m rfl;clear h D H F G V;go_enter func83,ntmps83;go_wp2_with fail;generalize w.alloc (.cells #[.slice none 0 0,.slice none 0 0] 130)=Y at *;(with_reducible refine CT.out.mono ?_);rintro e w1⟨J,c1,x,y,rfl,o,z⟩;have E:=S.ext z;have M:=LH (Zz t z);go_wp2_with fail;(with_reducible refine (L.out w1 J c1 x y o).mono ?_);rintro e l⟨d,c2,cs,rfl,P,R,B⟩;have j:=E.ext B;have N:=LH (Zz M.out B);have v0:=j.frozen 0;have v1:=j.frozen 1;have z0:l.cell? ⟨w,0,none⟩=some (.slice none 0 0):=j.cell 0;have z1:l.cell? ⟨w,1,none⟩=some (.slice none 0 0):=j.cell 1;go_wp2_with fail;have s:w.heap.size<w1.heap.size:=E.lt;have O:Blk ((l.setCell ⟨w,0,none⟩ (.slice none 0 0)).setCell ⟨w,1,none⟩ (.slice d ps.length c2)) w 130 #[.slice none 0 0,.slice d ps.length c2]:=(j.set 0 (.slice none 0 0)).set 1 (.slice d ps.length c2);have r:l.grownBy ((l.setCell ⟨w,0,none⟩ (.slice none 0 0)).setCell ⟨w,1,none⟩ (.slice d ps.length c2)) (some w):=Zc (Zd _ _ _ _) (Zd _ _ _ _);refine AV (Yu (p:=2) (u:=3) (v:=4) AB _ _ w 130 #[.slice none 0 0,.slice d ps.length c2] (0,0) _ rfl O underlying130 rfl AB) rfl ?_;exact⟨d,c2,cs,rfl,Zzw (Qg P r s) (DP s),R.keep r.size λk T C=>⟨r.block k T (by intro e;injection e with e;have:w1.heap.size<=k:=C;omega),BC (DP s) C⟩,Zg (Zg N.out _ _ _ (AI _)) _ _ _ (AI _)⟩
theorem rf_Build(A:Option Addr)(n c:Nat)(ps:List Prd)(G:Gr)(w:World)(B:Prds w A n c ps)(hn:n<=4000)(hr:∀q∈ps,q.right.length<=4000)(W:Zwy ps=some G):
 Calls prog 84 #[.agg #[.slice none 0 0,.slice A n c]] w λe w'=>∃h,e = .returned (.tuple #[GV h 0,.complex .f64 0 0,.int .i64 0])/\GrFrom w w' h G/\G.start=0/\h.n1<=24/\h.n2<=16/\h.n3<=40/\Below w w w':=by
 obtain⟨bm,ns,hl,ao⟩:=buildP_ways W;have ak:=B.1;have bx:=B.2.1;have bz:=B.2.2.1;rw[ak] at bm;have cb:∀(w:World) (a:Addr) (k:FloatKind) (x y:Nat) (m:Mode),(store a (.complex k x y) m).run prog w=stored prog w a (.complex k x y) m:=λw a k x y m=>run_store prog w a _ m rfl;have H:=LH B;have Hr:=LH hr;have Hl:=LH hl;have bc:=LH ao;have ae:=Blk.new w 130 #[.slice none 0 0,.slice A n c];have X:=Zy w (.cells #[.slice none 0 0,.slice A n c] 130);have L:=Blk.new (w.alloc (.cells #[.slice none 0 0,.slice A n c] 130)) 26 #[.slice none 0 0,.slice none 0 0,.slice none 0 0,.int .i64 0];have Y:=Zo X (.cells #[.slice none 0 0,.slice none 0 0,.slice none 0 0,.int .i64 0] 26);have af:=ae.ext (Zy _ (.cells #[.slice none 0 0,.slice none 0 0,.slice none 0 0,.int .i64 0] 26));have N:=Zl w (.cells #[.slice none 0 0,.slice A n c] 130);rw[N] at L;have O:=Zl (w.alloc (.cells #[.slice none 0 0,.slice A n c] 130)) (.cells #[.slice none 0 0,.slice none 0 0,.slice none 0 0,.int .i64 0] 26);rw[N] at O;clear hr B W hl ao ae X N ak;go_enter func84,ntmps84;go_wp2_with fail;have ab:=L;have C:=Wk.fresh ((w.alloc (.cells #[.slice none 0 0,.slice A n c] 130)).alloc (.cells #[.slice none 0 0,.slice none 0 0,.slice none 0 0,.int .i64 0] 26));have I:=Zo Y (.cells (Q0 noH) 193);have E:=af.ext (Zy _ (.cells (Q0 noH) 193));have ad:=ab.ext (Zy _ (.cells (Q0 noH) 193));rw[O] at C;change Calls _ _ _ (World.alloc _ (.cells (Q0 noH) 193)) _;generalize ((w.alloc (.cells #[.slice none 0 0,.slice A n c] 130)).alloc (.cells #[.slice none 0 0,.slice none 0 0,.slice none 0 0,.int .i64 0] 26)).alloc (.cells (Q0 noH) 193)=t at *;generalize bi:w.heap.size+1=f at *;generalize an:f+1=p at *;have b0:w.heap.size<f:=AA
 have b6:f<p:=AA
 clear af L ab Y O bi an;(with_reducible refine (wk_decls p noH _ t C).mono ?_);rintro e w1⟨rfl,rfl⟩;have k0:t.cell? ⟨w,0,none⟩=some (.slice none 0 0):=E.cell 0;have k1:t.cell? ⟨w,1,none⟩=some (.slice A n c):=E.cell 1;have CL:=LH (wk_lefts p noH ⟨[],[],[],0⟩ ns A n c ps t C (λw' l=>H.out.below (I.trans (l.mono AA))) hn rfl Hl.out);have a9:=LH C;have a7:=LH E;have a5:=LH ad;have az:=LH I;clear C E ad I;go_wp2_with fail;(with_reducible refine CL.out.mono ?_);rintro e w2⟨rfl,h2,M,J⟩;have T:=LH (M.mono (Nat.le_of_eq rfl));have a0:=LH J;have ah:=M.mono J.size;have T:=LH ah;clear M J k0 k1 ah;go_wp2_with fail;go_loopw [6] (λv wr=>∃(j:Nat) (d:GH) (s:Gr),v = .int .i64 (j:Int)/\j<=n/\Hid (Wk wr p wr d s)/\Hid (Gn s (ps.drop j)=some G)/\Hid (V6 t wr p noH d)) (λv _=>n-(intOf v).toNat)
 case atStart=>exact⟨0,h2,_,rfl,AU _,T,bc,a0⟩
 obtain⟨j,d,s,rfl,hj,r,U,S⟩:=hrel;have z:=S.out.below a9.out;have o:Below w w wr:=az.out.trans (z.mono AA);have F:Blk wr w 130 #[.slice none 0 0,.slice A n c]:=a7.out.below z AA;have g:Blk wr f 26 #[.slice none 0 0,.slice none 0 0,.slice none 0 0,.int .i64 0]:=a5.out.below z AA;have k0:wr.cell? ⟨w,0,none⟩=some (.slice none 0 0):=F.cell 0;have k1:wr.cell? ⟨w,1,none⟩=some (.slice A n c):=F.cell 1;obtain⟨an,z0,z1,z2,z3,z7,cj,_,_,_⟩:=r.out.cells;have R:=LH o;by_cases bj:j<n
 case pos =>
  obtain⟨b,D,q,Ar,cr,x,y,x',y',rfl,l,V,q0,q1,q2,q3,q4,aq⟩:=H.out.get bj;obtain⟨P,am,al⟩:=prodsP_step U.out V.out;rw[<-o.cell (p:=⟨b,D+j*5,none⟩) l] at q0;rw[<-o.cell (p:=⟨b,D+j*5+1,none⟩) l] at q1;rw[<-o.cell (p:=⟨b,D+j*5+2,none⟩) l] at q2;rw[<-o.cell (p:=⟨b,D+j*5+3,none⟩) l] at q3;rw[<-o.cell (p:=⟨b,D+j*5+4,none⟩) l] at q4;have ar:q.right.length<=4000:=Hr.out q (AL V.out);have CP:=LH (wk_prod p d s P q Ar cr x y x' y' wr r.out (AI _) (λw' hw=>aq.below (R.out.trans (hw.mono AA))) ar am);have bb:=LH al;clear am al aq ar F g z o;go_wp2_with fail;(with_reducible refine CP.out.mono ?_);rintro e w5⟨rfl,h5,ai,aa⟩;have a8:=LH ai;have a4:=LH (S.out.trans aa);clear ai aa;go_wp2_with fail;go_roundw
  case rel=>exact⟨j+1,h5,P,AF,AA,a8,bb,a4⟩
  simp[intOf];omega
 have v0:=g.frozen 0;have v1:=g.frozen 1;have v2:=g.frozen 2;have v3:=g.frozen 3;have i0:wr.cell? ⟨f,0,none⟩=some (.slice none 0 0):=g.cell 0;have i1:wr.cell? ⟨f,1,none⟩=some (.slice none 0 0):=g.cell 1;have i2:wr.cell? ⟨f,2,none⟩=some (.slice none 0 0):=g.cell 2;have i3:wr.cell? ⟨f,3,none⟩=some (.int .i64 0):=g.cell 3;have a6:=LH g;clear F g z o;go_wp2_with fail;go_quiet (fail)
 go_wp2_with fail;have bh:Blk (wr.drewN nq) f 26 #[.slice none 0 0,.slice none 0 0,.slice none 0 0,.int .i64 0]:=a6.out;have hF:Blk (((((wr.drewN nq).setCell ⟨f,0,none⟩ (.slice d.a1 d.n1 d.c1)).setCell ⟨f,1,none⟩ (.slice d.a2 d.n2 d.c2)).setCell ⟨f,2,none⟩ (.slice d.a3 d.n3 d.c3)).setCell ⟨f,3,none⟩ (.int .i64 0)) f 26 #[.slice d.a1 d.n1 d.c1,.slice d.a2 d.n2 d.c2,.slice d.a3 d.n3 d.c3,.int .i64 0] :=
  (((bh.set 0 (.slice d.a1 d.n1 d.c1)).set 1 (.slice d.a2 d.n2 d.c2)).set 2 (.slice d.a3 d.n3 d.c3)).set 3 (.int .i64 0)
 have ag:(wr.drewN nq).grownBy (((((wr.drewN nq).setCell ⟨f,0,none⟩ (.slice d.a1 d.n1 d.c1)).setCell ⟨f,1,none⟩ (.slice d.a2 d.n2 d.c2)).setCell ⟨f,2,none⟩ (.slice d.a3 d.n3 d.c3)).setCell ⟨f,3,none⟩ (.int .i64 0)) (some f) :=
  Zc (Zc (Zc (Zd _ _ _ _) (Zd _ _ _ _)) (Zd _ _ _ _)) (Zd _ _ _ _)
 have Z:G=s:=by
  have:=U.out;rw[List.drop_eq_nil_of_le (by rw[H.out.1];omega)] at this;unfold Gn at this;injection this with this;exact this.symm
 refine AV (Yu (p:=2) (u:=3) (v:=4) AB _ _ f 26 #[.slice d.a1 d.n1 d.c1,.slice d.a2 d.n2 d.c2,.slice d.a3 d.n3 d.c3,.int .i64 0] (0,0) _ rfl hF underlying26 rfl AB) rfl ?_;have au:wr.heap.size<=_:=ag.size;refine⟨d,rfl,λw2 hs hk=>?_,by rw[Z];exact r.out.st,r.out.b1,r.out.b2,r.out.b3,Zg (Zg (Zg (Zg (Fp R.out nq) _ _ _ AA) _ _ _ AA) _ _ _ AA) _ _ _ AA⟩;rw[Z];exact r.out.grAt_ahead (BC au hs) λb l b5=>(hk b (AJ l au) AA).trans (ag.block b l (by intro e;injection e with e;omega))
theorem rf_Is(h:GH)(G:Gr)(w:World)(D:Yf w h G)(h1:h.n1<=100)(y:h.n2<=100)(z:h.n3<=100):
 Calls prog 27 #[GV h G.start] w λe w'=>e = .returned (.bool (Q9 G))/\Below w w w':=by
 obtain⟨a1,n1,c1,a2,n2,c2,a3,n3,c3⟩:=h;simp only[] at h1 y z;have v:=LH D;have t:=Zy w (.cells #[.slice a1 n1 c1,.slice a2 n2 c2,.slice a3 n3 c3,.int .i64 G.start] 26);have o:=Y1.new w 26 ⟨a1,n1,c1,a2,n2,c2,a3,n3,c3⟩ G.start;clear D;go_enter func27,ntmps27;have⟨z5,z0,z1,z2,z3⟩:=o;simp only[] at z0 z1 z2 z3;go_wp2_with fail;generalize w.alloc (.cells #[.slice a1 n1 c1,.slice a2 n2 c2,.slice a3 n3 c3,.int .i64 G.start] 26)=O at *;have g:=Zuv ⟨a1,n1,c1,a2,n2,c2,a3,n3,c3⟩ G O (v.out.below t) h1 y z;unfold Dh at g;(with_reducible refine g.mono ?_);rintro e a⟨n,⟨I,R,U,rfl⟩ | ⟨J,S,Y,nk,Z,rfl,E,V,W,X⟩⟩
 ·have b:=Zz t n;have p:Q9 G=false:=by unfold Q9;rw[I];rfl
  have ab:(R==0)=false:=by rw[AP];exact U
  clear g I z0 z1 z2 z3 z5 o;go_wp2_with fail;go_ret;exact⟨by rw[p];rfl,b.trans ((Zy a _).mono b.size)⟩
 have b:=Zz t n;have A:=o.below n;obtain⟨c,q,j,d,r,k,f,s,l⟩:=S;have p:Q9 G=eqG G (Zi G):=by unfold Q9;rw[J];rfl
 generalize Zi G=H at *;clear g z0 z1 z2 z3 z5 o J;have m:=Zy a (.cells #[.slice c q j,.slice d r k,.slice f s l,.int .i64 H.start] 26);have C:=Y1.new a 26 ⟨c,q,j,d,r,k,f,s,l⟩ H.start;have B:=A.below m;have u:=Zz b m;have F:=E.below m;go_upto_region 2 with fail;generalize a.alloc (.cells #[.slice c q j,.slice d r k,.slice f s l,.int .i64 H.start] 26)=P at *;generalize a.heap.size=gH at *;have x:=rf_Same9 ⟨a1,n1,c1,a2,n2,c2,a3,n3,c3⟩ ⟨c,q,j,d,r,k,f,s,l⟩ G H P (v.out.below u) F;have L:=LH x;have N:=LH p;have M:=LH u;have⟨y5,y0,y1,y2,y3⟩:=B;simp only[] at y0 y1 y2 y3;have⟨x5,x0,x1,x2,x3⟩:=C;simp only[] at x0 x1 x2 x3;clear x p u B C F m n b A E V W X;go_wp2_with (go_at_call 24;(with_reducible refine L.out.mono ?_);rintro e w6⟨rfl,T⟩);go_ret;exact⟨by rw[N.out];rfl,Zz M.out T⟩
theorem rf_Of22(h:GH)(G:Gr)(Al:Option Addr)(J:Nat)(l:List Int)(n:Int)(w:World)(A:Yf w h G)(h1:h.n1<=100)(h2:h.n2<=100)(h3:h.n3<=100)(T:Za .i64 w Al l.length J l)(hi:∀s∈l,U3 s):
 Calls prog 16 #[GV h G.start,.slice Al l.length J,.int .i64 n] w (Xr w (Wi G l n)):=by
 obtain⟨a1,n1,c1,a2,n2,c2,a3,n3,c3⟩:=h;have e1:G.terms.length=n1:=A.terms.len;have e2:G.nons.length=n2:=A.nons.len;simp only[] at h1 h2 h3;have b2:=T.cap;have z:=LH A;have Hl:=LH T;have Hi:=LH hi;have L:=Zy w (.cells #[.slice a1 n1 c1,.slice a2 n2 c2,.slice a3 n3 c3,.int .i64 G.start] 26);have S:=Y1.new w 26 ⟨a1,n1,c1,a2,n2,c2,a3,n3,c3⟩ G.start;clear A T hi;go_enter func16,ntmps16;have⟨z5,z0,z1,z2,z3⟩:=S;simp only[] at z0 z1 z2 z3;go_upto_region 1 with fail;generalize w.alloc (.cells #[.slice a1 n1 c1,.slice a2 n2 c2,.slice a3 n3 c3,.int .i64 G.start] 26)=W0 at *;have g:=LH (rf_Is ⟨a1,n1,c1,a2,n2,c2,a3,n3,c3⟩ G W0 (z.out.below L) h1 h2 h3);have r:=LH L;have a8:=LH S;have c:(Q9 G=false\/6<l.length\/n<0\/10<n\/(∃s∈l,G.has s=false))->Wi G l n=([],1):=λd=>by unfold Wi;rw[if_pos d]
 have t:Hid (∀w',Below w w w'->Wi G l n=([],1)->Xr w (Wi G l n) (.returned (.tuple #[.slice none 0 0,.int .i64 1])) w'):=LH λw' hb he=>by rw[he];exact⟨none,0,rfl,Zq.nil _ _ _ _ AA,hb⟩
 clear L S;cases v:Q9 G
 case false =>
  have f:=LH (c (.inl v));rw[v] at g;clear c;go_wp2_with (go_at_call 27;(with_reducible refine g.out.mono ?_);rintro e V⟨rfl,b⟩);go_ret2;exact t.out _ (Zz r.out b) f.out
 rw[v] at g;by_cases bq:6<l.length
 case pos =>
  have f:=LH (c (.inr (.inl bq)));have i1:(6:Int)<(l.length:Int):=AA
  clear c;go_wp2_with (go_at_call 27;(with_reducible refine g.out.mono ?_);rintro e V⟨rfl,b⟩);go_ret2;exact t.out _ (Zz r.out b) f.out
 have i1:¬((6:Int)<(l.length:Int)):=AA
 by_cases ar:n<0
 case pos =>
  have f:=LH (c (.inr (.inr (.inl ar))));clear c;go_wp2_with (go_at_call 27;(with_reducible refine g.out.mono ?_);rintro e V⟨rfl,b⟩);go_ret2;exact t.out _ (Zz r.out b) f.out
 by_cases au:10<n
 case pos =>
  have f:=LH (c (.inr (.inr (.inr (.inl au)))));clear c;go_wp2_with (go_at_call 27;(with_reducible refine g.out.mono ?_);rintro e V⟨rfl,b⟩);go_ret2;exact t.out _ (Zz r.out b) f.out
 obtain⟨m,rfl⟩:∃m:Nat,n=(m:Int):=⟨n.toNat,AA⟩;have hm:m<=10:=AA
 have i2:¬((m:Int)<0):=AA
 have i3:¬(10<(m:Int)):=AA
 have a7:=LH λs (a:s∈l) (d:G.has s=false)=>c (.inr (.inr (.inr (.inr ⟨s,a,d⟩))));have Hr:=LH v;clear c ar au v;go_wp2_with (go_at_call 27;(with_reducible refine g.out.mono ?_);rintro e W1⟨rfl,P⟩);have y:=LH (Zz r.out P);have ab:=LH (a8.out.below P);clear P g z0 z1 z2 z3 z5 i1 i2 i3;go_wp2_with fail;go_loopw [8] (λi wr=>∃q:Nat,q<=l.length/\i = .int .i64 (q:Int)/\Hid (∀j,j<q->∀s,l[j]? = some s->G.has s=true)/\Hid (Below W1 W1 wr)) (λi _=>l.length-(intOf i).toNat)
 case atStart=>exact⟨0,AU _,rfl,LH λj u=>absurd u (Nat.not_lt_zero j),LH (AK _ _)⟩
 obtain⟨q,hq,rfl,I,k⟩:=hrel;have⟨y5,y0,y1,y2,y3⟩:=ab.out.below k.out;simp only[] at y0 y1 y2 y3;by_cases br:q<l.length
 case pos =>
  obtain⟨lb,lo,E,rfl,b3,ag,b0⟩:=(Hl.out.below (Zz y.out k.out)).get br;have B:=AL ag.out;have bc:=Yt wr;have CH:=LH λx:Ext wr=>rf_has ⟨a1,n1,c1,a2,n2,c2,a3,n3,c3⟩ G E (bl wr x) ((z.out.below (Zz y.out k.out)).below (Zr wr x)) (Hi.out E B) (by simp only[];omega) (by simp only[];omega);cases d:G.has E
  case false =>
   have f:=LH (a7.out E B d);rw[d] at CH;clear B d;go_wp2_with fail;refine Zs AB AB ?_;repeat (go_big_quiet_step ((go_at_call 51;with_reducible exact Ve (CH.out _))))
   refine BK ?_;rintro _⟨x,rfl⟩;go_wp2_with fail;go_ret2;exact t.out _ (Zz (Zz y.out k.out) (Zr wr x)) f.out
  have be:Hid (∀j,j<q+1->∀s,l[j]? = some s->G.has s=true):=LH λj u s a=>by
   rcases (AA:j<q\/j=q) with h | rfl
   ·exact I.out j h s a
   rw[ag.out] at a;rw[<-BI a];exact d
  rw[d] at CH;clear B d;go_wp2_with fail;refine Zs AB AB ?_;repeat (go_big_quiet_step ((go_at_call 51;with_reducible exact Ve (CH.out _))))
  refine BK ?_;rintro _⟨x,rfl⟩;go_wp2_with fail;go_roundw
  case rel=>exact⟨q+1,AA,AF,be,LH (k.out.trans ((Zr wr x).mono k.out.size))⟩
  simp[intOf];omega
 obtain rfl:q=l.length:=AA
 have O:∀s∈l,G.has s=true:=λs a=>by
  obtain⟨j,u⟩:=BU a;exact I.out j (AN.1 u).1 s u
 have o:Wi G l (m:Int)=if Vh G≠0 then ([],10) else Xm (Zx (Zv G) l m):=by
  unfold Wi;rw[if_neg]
  ·rfl
  rintro (h | h | h | h | ⟨s,a,h⟩)
  ·rw[Hr.out] at h;cases h
  ·omega
  ·omega
  ·omega
  rw[O s a] at h;cases h
 have Y:=LH (Zz y.out k.out);have aa:=LH O;have ae:=LH o;clear I O o;go_wp2_with fail;(with_reducible refine (Zvc ⟨a1,n1,c1,a2,n2,c2,a3,n3,c3⟩ G wr (z.out.below Y.out) (by simp only[];omega) (by simp only[];omega) (by simp only[];omega)).mono ?_);rintro e W3⟨R,rfl⟩;have F:=LH (Zz Y.out R);have a9:=LH ((ab.out.below k.out).below R);have b4:=Ztq G;have o:=ae.out;clear y0 y1 y2 y3 y5 R ae;by_cases p:Vh G=0
 case neg =>
  have H:=LH o;have i4:(((Vh G:Nat):Int) != 0)=true:=by rw[BN];omega
  have Hc:=LH p;clear o p;go_wp2_with fail;go_ret2;rw[H.out,if_pos Hc.out];exact⟨none,0,rfl,Zq.nil _ _ _ _ AA,F.out⟩
 have i4:(((Vh G:Nat):Int) != 0)=false:=by rw[p];rfl
 rw[if_neg (by rw[p];simp)] at o;obtain⟨C,aq⟩:=Zzn.1 Hr.out;have D:G.right=true/\(Zt G).getD G.start.toNat false=true:=by unfold Xp at C;rw[AR] at C;exact C
 obtain⟨M,ao,hO⟩:=U7 D.1 D.2 aq p;have aw:(N5 G).1=(Y4 (Yz G) (Qm G) G.nons.length G.nons.length).1:=by unfold N5;rw[D.1,ao];rfl
 have H:=LH o;have HP:=LH M;have X:=LH (Ztz ⟨a1,n1,c1,a2,n2,c2,a3,n3,c3⟩ G m W3 (z.out.below F.out) (by simp only[];omega) (by simp only[];omega) (by simp only[];omega) M (by rw[aw];exact hO) AA);clear o C aq D M ao hO aw p;generalize Vh G=cy at *;have⟨y5,y0,y1,y2,y3⟩:=a9.out;simp only[] at y0 y1 y2 y3;go_wp2_with fail;(with_reducible refine X.out.mono ?_);rintro e W4⟨am,A4,c4,tab,rfl,N,ax⟩;have Z:=LH (Zz F.out am);rw[e2] at N;have an:∀s∈l,-(n2:Int)<=s/\s<=1000:=λs a=>by
  have:=H7 (aa.out s a);rw[e1,e2] at this;omega
 have ap:=told_forest ax (l:=l) (λs a h0=>by
  have:=H7 (aa.out s a);unfold Zp;omega) (AI m)
 have W:=LH (Kd A4 (m+1) c4 n2 tab Al J l m W4 N (Em m) AA AA (Hl.out.below Z.out) AA an);have bb:=LH ap;clear X am N ax an ap y0 y1 y2 y3 y5;go_wp2_with fail;(with_reducible refine W.out.mono ?_);rintro e W5⟨bo,A5,k5,c5,b5,rfl,U⟩;have a4:=LH (Zz Z.out bo);rw[bb.out] at U;go_wp2_with fail;(with_reducible refine (rf_told A5 k5 c5 b5 _ W5 U).mono ?_);rintro e W6⟨A6,c6,rfl,av,b⟩;have a6:=LH av;have a5:=LH (Zz a4.out b);clear U av b W;generalize Xm (Zx (Zv G) l m)=b9 at *;go_wp2_with fail;go_ret2;rw[H.out];exact⟨A6,c6,rfl,a6.out,a5.out⟩
theorem Lj(h:GH)(G:Gr)(n:Int)(w:World)(hg:Yf w h G)(h1:h.n1<=100)(W:h.n2<=100)(X:h.n3<=100):
 Calls prog 20 #[GV h G.start,.int .i64 n] w (Xr w (Z2 G n)):=by
 obtain⟨a1,n1,c1,a2,n2,c2,a3,n3,c3⟩:=h;simp only[] at h1 W X;have V:=LH hg;have F:=Zy w (.cells #[.slice a1 n1 c1,.slice a2 n2 c2,.slice a3 n3 c3,.int .i64 G.start] 26);have N:=Y1.new w 26 ⟨a1,n1,c1,a2,n2,c2,a3,n3,c3⟩ G.start;clear hg;go_enter func20,ntmps20;have⟨z5,z0,z1,z2,z3⟩:=N;simp only[] at z0 z1 z2 z3;go_upto_region 1 with fail;generalize w.alloc (.cells #[.slice a1 n1 c1,.slice a2 n2 c2,.slice a3 n3 c3,.int .i64 G.start] 26)=W0 at *;have b:=LH (Jr ⟨a1,n1,c1,a2,n2,c2,a3,n3,c3⟩ G W0 (V.out.below F) (by simp only[];omega) (by simp only[];omega) (by simp only[];omega));have o:=LH F;have au:=LH N;have c:(G.right=false\/n<0\/10<n)->Z2 G n=([],1):=λhh=>by unfold Z2;rw[if_pos hh]
 have p:Hid (∀w' k,Below w.heap.size w w'->Z2 G n=([],k)->Xr w (Z2 G n) (.returned (.tuple #[.slice none 0 0,.int .i64 (k:Int)])) w'):=LH λw' k hb he=>by rw[he];exact⟨none,0,rfl,Zq.nil _ _ _ _ AA,hb⟩
 clear F N;cases f:G.right
 case false =>
  have g:=LH (c (.inl f));rw[f] at b;clear c;go_wp2_with (go_at_call 29;(with_reducible refine b.out.mono ?_);rintro e w6⟨rfl,a⟩);go_ret2;exact p.out _ 1 (Zz o.out a) g.out
 rw[f] at b;by_cases ah:n<0
 case pos =>
  have g:=LH (c (.inr (.inl ah)));clear c;go_wp2_with (go_at_call 29;(with_reducible refine b.out.mono ?_);rintro e w6⟨rfl,a⟩);go_ret2;exact p.out _ 1 (Zz o.out a) g.out
 by_cases ai:10<n
 case pos =>
  have g:=LH (c (.inr (.inr ai)));clear c;go_wp2_with (go_at_call 29;(with_reducible refine b.out.mono ?_);rintro e w6⟨rfl,a⟩);go_ret2;exact p.out _ 1 (Zz o.out a) g.out
 have Hr:=LH f;have ag:Z2 G n=if Xp G=false then ([],0) else Wi (Zi G) [-1-(Zi G).start] n:=by
  unfold Z2;rw[if_neg];rintro (h | h | h)
  ·rw[f] at h;cases h
  ·exact ah h
  exact ai h
 have E:=LH ag;clear c ag f;go_wp2_with (
  go_at_call 29;(with_reducible refine b.out.mono ?_);rintro e W1⟨rfl,L⟩;obtain⟨y5,R,S,T,U⟩:=au.out.below L;simp only[] at R S T U)
 have I:=Zz o.out L;clear b z0 z1 z2 z3 z5 L;have u:=Zuv ⟨a1,n1,c1,a2,n2,c2,a3,n3,c3⟩ G W1 (V.out.below I) h1 W X;unfold Dh at u;(with_reducible refine u.mono ?_);rintro e j⟨M,⟨ak,k,a5,rfl⟩ | ⟨m,h',Ak,nk,ck,rfl,ae,m1,m2,m3⟩⟩
 ·have l:=Zz I M;have bg:(k != 0)=true:=by rw[BN];exact a5
  have D:Hid (Z2 G n=([],0)):=LH (by rw[E.out,if_pos ak]);clear u ak R S T U y5;go_wp2_with fail;go_ret2;exact p.out _ 0 (l.trans ((Zy j _).mono l.size)) D.out
 have l:=Zz I M;have P:G.right=true/\(Zt G).getD G.start.toNat false=true:=by unfold Xp at m;rw[AR] at m;exact m
 have Z:=Ju P.1 P.2;have D:Hid (Z2 G n=Wi (Zi G) [-1-(Zi G).start] n):=LH (by rw[E.out,if_neg (by rw[m];simp)]);obtain⟨q,z,v,r,A,x,t,B,y⟩:=h';generalize Zi G=H at *;obtain⟨bk,bl,bm⟩:=Zsk Z;clear u R S T U y5 m P Z E;simp only[] at m1 m2 m3;have J:=Zy j (.cells #[.slice q z v,.slice r A x,.slice t B y,.int .i64 H.start] 26);have ab:=Y1.new j 26 ⟨q,z,v,r,A,x,t,B,y⟩ H.start;have Y:=Zz l J;have af:=ae.below J;go_upto_region 4 with fail;generalize j.alloc (.cells #[.slice q z v,.slice r A x,.slice t B y,.int .i64 H.start] 26)=d at *;generalize j.heap.size=gH at *;have av:=LH af;have ao:=LH Y;have⟨x5,x0,x1,x2,x3⟩:=ab;simp only[] at x0 x1 x2 x3;have bh:IntKind.i64.wrap (-1-H.start)=-1-H.start:=BT _ AA;have O:=Zy d (.cells #[.int .i64 (-1-H.start)] 3);have hL:Za .i64 (d.alloc (.cells #[.int .i64 (-1-H.start)] 3)) (some ⟨d.heap.size,0,none⟩) 1 1 [-1-H.start]:=N6 d 3 (ints .i64 [-1-H.start]) 1 _ rfl rfl AC;have C:=LH (rf_Of22 ⟨q,z,v,r,A,x,t,B,y⟩ H (some ⟨d.heap.size,0,none⟩) 1 [-1-H.start] n (d.alloc (.cells #[.int .i64 (-1-H.start)] 3)) (av.out.below O) (by simp only[];omega) (by simp only[];omega) (by simp only[];omega) hL (λs hs=>by rw[BV.1 hs];unfold U3;omega));have ap:=LH (Zz ao.out O);simp only[AW,DS,BH] at C;clear hL O af Y J ae l M ab;go_wp2_with fail;(with_reducible refine C.out.mono ?_);rintro e W6⟨A6,c6,rfl,aj,a⟩;have ar:=LH aj;have aq:=LH (Zz ap.out a);clear aj a C;generalize Wi H [-1-H.start] n=bj at *;go_wp2_with fail;go_ret2;rw[D.out];exact⟨A6,c6,rfl,ar.out,aq.out⟩
end Go.Proofs.YtggbjdmpjidhgaaGreatDoor
