/- the reference's reading: a reader's small steps: kind, is, take. -/
import Derived.Test.YtggbjdmpjidhgaaGreatDoorV23
import Derived.Test.YtggbjdmpjidhgaaGreatDoorV24
set_option linter.all false
set_option maxHeartbeats 1500000
set_option maxRecDepth 100000
namespace Go.Proofs.YtggbjdmpjidhgaaGreatDoor
open Go.RowKit Go.Proofs.Tryz
variable{a Ar:Option Addr}{p cr B:Nat}{L:ByteArray}{d:List ByteArray}{ops:Array Oper}{rest:List Oper}{o:Oper}{Q:Exit->Act->World->Prop}
theorem Ca(p:Nat)(a b:Int)(t:Tk)(ts:List Tk)(w:World)(h:Wc w p (t::ts))(hi:isP a b (t::ts)=true):
 Calls prog 189 #[.pointer (some ⟨p,0,none⟩),.int .i64 a,.int .i64 b] w λe w'=>(∃x y,e = .returned (.agg #[.string t.2,.complex .f64 x y]))/\Wc w' p ts/\w.grownBy w' (some p):=by
 have H:=h.len;have B:=Zy w (.cells #[.string ⟨#[]⟩,.complex .f64 0 0] 191);have o:=LH (rd_is p a b (t::ts) _ (h.below B));rw[hi] at o;obtain⟨A,c,x,y,N,O,g,W,l,L,Y,Z,q3⟩:=h.parts;obtain⟨b,n,d,f,rfl,P,V,r0,r1,r2⟩:=g.head;have q:(t::ts).length=ts.length+1:=rfl;have I:=g.2.1;have T:=g.2.2.1;rw[q] at L H I;have z:=LH g;have v:=LH l;have X:∀(w:World) (a:Addr) (k:FloatKind) (x y:Nat) (m:Mode),(store a (.complex k x y) m).run prog w=stored prog w a (.complex k x y) m:=λw a k x y m=>run_store prog w a _ m rfl;have R:b≠p:=AA
 have U:=l.frozen 0;have fin:∀(S:Value) (j:Option Addr),S = .slice j ts.length (c-1)->Kq w p j ts.length (c-1) ts->
  Wc (((w.setCell ⟨p,0,none⟩ S).alloc (.cells #[.string t.2,.complex .f64 d f] 191)).alloc (.cells #[.int .i64 t.1,.string t.2,.complex .f64 d f] 231)) p ts /\
  w.grownBy (((w.setCell ⟨p,0,none⟩ S).alloc (.cells #[.string t.2,.complex .f64 d f] 191)).alloc (.cells #[.int .i64 t.1,.string t.2,.complex .f64 d f] 231)) (some p) /\
  Blk (((w.setCell ⟨p,0,none⟩ S).alloc (.cells #[.string t.2,.complex .f64 d f] 191)).alloc (.cells #[.int .i64 t.1,.string t.2,.complex .f64 d f] 231)) w 191 #[.string t.2,.complex .f64 d f]:=by
  intro S j C D;have u:w.grownBy (((w.setCell ⟨p,0,none⟩ S).alloc (.cells #[.string t.2,.complex .f64 d f] 191)).alloc (.cells #[.int .i64 t.1,.string t.2,.complex .f64 d f] 231)) (some p) :=
   Zc (Zd w p 0 S) (Xz _ (Zo (Zy _ _) _))
  have J:(w.setCell ⟨p,0,none⟩ S).heap.size=w.heap.size:=AE
  refine⟨⟨AA,j,c-1,x,y,N,O,?_,D.grown u (AI _)⟩,u,?_⟩
  ·have:=((l.set 0 S).ext (Zy _ (.cells #[.string t.2,.complex .f64 d f] 191))).ext (Zy _ (.cells #[.int .i64 t.1,.string t.2,.complex .f64 d f] 231));rw[C] at this ⊢;exact this
  have:=(Blk.new (w.setCell ⟨p,0,none⟩ S) 191 #[.string t.2,.complex .f64 d f]).ext (Zy _ (.cells #[.int .i64 t.1,.string t.2,.complex .f64 d f] 231));rwa [J] at this
 have r:=g.tail;rw[q,Nat.add_sub_cancel] at r;have Fin:=LH fin
 have s:=LH r;have G:c=1\/(¬c=1):=Classical.em _;clear h g l hi q fin r z v;rcases G with rfl | E
 ·have F:=LH (Fin.out (.slice (some ⟨b,n,none⟩) ts.length 0) (some ⟨b,n,none⟩) rfl (by have:=s.out;rwa [if_pos rfl] at this));rw[show ts.length=0 by omega] at F;go_enter func189,ntmps189;go_wp2_with (go_at_call 225;(with_reducible refine o.out.mono ?_);rintro e M⟨rfl,rfl⟩);refine AV (By (p:=6) AB _ _ w 191 #[.string t.2,.complex .f64 d f] (0,0) _ rfl F.out.2.2 underlying191 rfl AB) rfl ?_;exact⟨⟨_,_,rfl⟩,F.out.1,F.out.2.1⟩
 have F:=LH (Fin.out (.slice (some ⟨b,n+3,none⟩) ts.length (c-1)) (some ⟨b,n+3,none⟩) rfl (by have:=s.out;rwa [if_neg E] at this));go_enter func189,ntmps189;go_wp2_with (go_at_call 225;(with_reducible refine o.out.mono ?_);rintro e M⟨rfl,rfl⟩);refine AV (By (p:=6) AB _ _ w 191 #[.string t.2,.complex .f64 d f] (0,0) _ rfl F.out.2.2 underlying191 rfl AB) rfl ?_;exact⟨⟨_,_,rfl⟩,F.out.1,F.out.2.1⟩
theorem rd_refs(p:Nat)(ts:List Tk)(w:World)(h:Wc w p ts):
 Calls prog 224 #[.pointer (some ⟨p,0,none⟩)] w λe w'=>∃A c cs,e = .returned (.slice A (Xa ts).1.length c) /\
  w'.ownsRow w.heap.size 191 2 (.slice A (Xa ts).1.length c) (Xa ts).1.length cs/\Gi cs (Xa ts).1/\Wc w' p (Xa ts).2/\w.grownBy w' (some p):=by
 have hl:=h.len;have L:=h.lt;have S:=LH h;have J:(prog.info? 191).map (λi=>(i.zero,i.size,i.bytes))=some (some (.agg #[.string ⟨#[]⟩,.complex .f64 0 0]),2,32):=AB
 have T:=LH J;clear h J;go_enter func224,ntmps224;go_wp2_with fail;go_loopw [3] (λo wr=>∃(d c:Nat) (A:Option Addr) (done:List ByteArray) (a:List Tk) (cs:List Value),o = .slice A d c/\d+a.length<=4000/\Hid (d=done.length)/\Hid (done++(Xa a).1=(Xa ts).1)/\Hid ((Xa a).2=(Xa ts).2) /\
  Hid (wr.ownsRow w.heap.size 191 2 (.slice A d c) d cs)/\Hid (Gi cs done)/\Hid (Wc wr p a)/\Hid (w.grownBy wr (some p))) (λ_ wr=>Zyp wr p)
 case atStart=>exact⟨0,0,none,[],ts,[],rfl,AA,LH rfl,LH rfl,LH rfl,LH (BJ _ _ _ _),LH Gi.nil,S,LH (Jl _ _)⟩
 obtain⟨d,c,A,done,a,cs,rfl,H,B,n,q,C,z,g,l⟩:=hrel;have f:=LH (rd_is p 1 2 a wr g.out);rw[Ztj] at f;by_cases b:Fz (Qy a)=true
 case neg =>
  have r:Fz (Qy a)=false:=by simpa using b
  have k:Hid (done=(Xa ts).1/\a=(Xa ts).2):=LH (by
   have E:=n.out;have F:=q.out;rw[Zt2 r] at E F;exact⟨by simpa using E,F⟩)
  rw[r] at f;clear b r;go_wp2_with (go_at_call 225;(with_reducible refine f.out.mono ?_);rintro e v⟨rfl,rfl⟩);go_ret;have G:d=(Xa ts).1.length:=by rw[<-k.out.1];exact B.out
  refine⟨A,c,cs,by rw[<-G];rfl,?_,?_,?_,l.out⟩
  ·rw[<-G];exact C.out
  ·rw[<-k.out.1];exact z.out
  rw[<-k.out.2];exact g.out
 cases a with
 | nil=>cases b
 | cons t a =>
   have u:=Zw3 (t:=t) (ts:=a) b;have CT:=LH (Ca p 1 2 t a wr g.out (by rw[Ztj];exact b));have X:Hid ((done++[t.2])++(Xa a).1=(Xa ts).1):=LH (by rw[<-n.out,u];simp);have Y:Hid ((Xa a).2=(Xa ts).2):=LH (by rw[<-q.out,u]);have V:Hid (Zyp wr p=a.length+1):=LH (by rw[g.out.rem];rfl);have af:d+a.length+1<=4000:=by simp only[AW] at H;omega
   rw[b] at f;clear b u n q H;generalize t.2=s at *;go_wp2_with (first
    | (go_at_call 225;(with_reducible refine f.out.mono ?_);rintro e v⟨rfl,rfl⟩)
    | (go_at_call 189;(with_reducible refine CT.out.mono ?_);rintro e v⟨⟨x,y,rfl⟩,M,j⟩
       have U:=LH M;have P:=LH (Zc l.out j);have m:=LH (Qg C.out j L);have aa:w.heap.size<=v.heap.size:=BC l.out.size j.size;clear M j)
    | (at_builtin;refine Ye rfl _ _ 197 rfl w.heap.size 191 _ 2 32 underlying197 T.out AC AC A d c cs rfl m.out [.string s,.complex .f64 x y] rfl rfl (by simp[Value.oneCell']) AA AA aa ?_;intro N Z w4 ho I ha))
   have D:=LH (U.out.app I m.out L);have R:=LH (grown_app P.out I m.out (AI _));have O:Hid (d+1=(done++[s]).length):=LH (by rw[AS,<-B.out];rfl);have W:Hid (Zyp w4 p=a.length):=LH D.out.rem;go_roundw
   case rel=>exact⟨d+1,Z,N,done++[s],a,_,rfl,AA,O,X,Y,LH ho,LH (z.out.snoc s x y),D,R⟩
   rw[V.out,W.out];omega
theorem Zyt.late{wr a:World}{x y:Nat}{l:List Tk}{m:TypeId}{k:List Value}(c:wr.drew.grownBy a (some p))(j:a.ownsRow wr.drew.heap.size m 2 (.slice Ar d.length cr) d.length k)(o:Gi k d)(n:Wc a p l):
 Zyt wr (a.alloc (.cells #[.string L,.complex .f64 x y,.slice Ar d.length cr,.string ⟨#[]⟩,.complex .f64 0 0] 199)) p a Ar cr L x y d ⟨#[]⟩ 0 0 l:=by
 have g:=Zy a (.cells #[.string L,.complex .f64 x y,.slice Ar d.length cr,.string ⟨#[]⟩,.complex .f64 0 0] 199);refine⟨c.size,Blk.new _ _ _,(own_rfs j o).below g,λb q h=>?_,λb q h=>?_,n.below g,?_⟩
 ·have f:wr.heap.size<=b/\b<a.heap.size:=j.lt b (by rw[h];rfl);exact⟨f.1,AJ f.2 g.size⟩
 ·have f:wr.heap.size<=b/\b<a.heap.size:=j.lt b (by rw[h];rfl);omega
 have f:wr.grownBy a (some p):=⟨c.os,c.tape,c.output,c.size,c.block⟩;exact Zc f (Xz _ g)
theorem Zsd(p q:Nat)(ts:List Tk)(ps:List Prd)(rest:List Tk)(w:World)(h:Wc w p ts)(F:Fj q ts=some (ps,rest)):
 Calls prog 190 #[.pointer (some ⟨p,0,none⟩)] w λe w'=>∃A c cs,e = .returned (.slice A ps.length c) /\
  w'.ownsRow w.heap.size 199 5 (.slice A ps.length c) ps.length cs/\Vu w' (λb=>w.heap.size<=b/\(Value.slice A ps.length c).ownBlock≠some b) cs ps/\Wc w' p rest/\w.grownBy w' (some p):=by
 have hp:=h.lt;have hl:=h.len;obtain⟨a,b,S,rfl,ha,hb,F⟩:∃a b S,ts=a::b::S/\a.1=1/\b.1=10/\L9 a.2 q S=some (ps,rest):=by
  cases ts with
  | nil=>cases F
  | cons a ts =>
    cases ts with
    | nil=>cases F
    | cons b ts =>
      have F:(if a.1=1/\b.1=10 then L9 a.2 q ts else none)=some (ps,rest):=F;by_cases an:a.1=1/\b.1=10
      ·rw[if_pos an] at F;exact⟨a,b,ts,rfl,an.1,an.2,F⟩
      rw[if_neg an] at F;cases F
 have cn:=LH (Ca p 1 1 a (b::S) w h (by simp[isP,ha]));have C2:=LH λ(W:World) (J:Wc W p (b::S))=>Ca p 10 10 b S W J (by simp[isP,hb]);have c2:=LH F;simp only[AW] at hl;have b4:(prog.info? 199).map (λi=>(i.zero,i.size,i.bytes))=some (some (.agg #[.string ⟨#[]⟩,.complex .f64 0 0,.slice none 0 0,.string ⟨#[]⟩,.complex .f64 0 0]),5,88):=AB
 have Hi:=LH b4;have dy:∀(w:World) (a:Addr) (k:FloatKind) (x y:Nat) (m:Mode),(store a (.complex k x y) m).run prog w=stored prog w a (.complex k x y) m:=λw a k x y m=>run_store prog w a _ m rfl;clear h F ha hb b4;generalize a.2=L at *;go_enter func190,ntmps190;go_wp2_with (go_at_call 189;(with_reducible refine cn.out.mono ?_);rintro e f⟨⟨x,y,rfl⟩,P,z⟩);have ca:=P.below (Zy f (.cells #[.string L,.complex .f64 x y] 191));have bx:=Blk.new f 191 #[.string L,.complex .f64 x y];have dv:p<f.heap.size:=P.lt;have b1:f.grownBy (f.alloc (.cells #[.string L,.complex .f64 x y] 191)) (some p):=Xz _ (Zy _ _);have dx:=z.size;(with_reducible refine (C2.out _ ca).mono ?_);rintro e I⟨⟨x3,y3,rfl⟩,bc,a8⟩;have a7:=bx.grown a8 (by intro e;injection e with e;omega);have bn:=LH (Zc z (Zc b1 a8));have O:p<I.heap.size:=bc.lt;have du:=a7.lt;have c5:=LH bc;generalize f.heap.size=g at *;clear P z ca bx b1 a8 bc;go_wp2_with fail;go_loopw [3] (λo wr=>∃(d c:Nat) (A:Option Addr) (done:List Prd) (r:List Tk) (cs:List Value),o = .slice A d c/\d+r.length<=4000/\Hid (d=done.length)/\Hid (∃q' bh,L9 L q' r=some (bh,rest)/\done++bh=ps) /\
  Hid (wr.ownsRow I.heap.size 199 5 (.slice A d c) d cs)/\Hid (Vu wr (λb=>I.heap.size<=b/\(Value.slice A d c).ownBlock≠some b) cs done)/\Hid (Wc wr p r)/\Hid (I.grownBy wr (some p))) (λ_ wr=>Zyp wr p)
 case atStart=>exact⟨0,0,none,[],S,[],rfl,AA,LH rfl,LH ⟨q,ps,c2.out,rfl⟩,LH (BJ _ _ _ _),LH (Vu.nil _ _),c5,LH (Jl _ _)⟩
 obtain⟨d,c,A,done,r,cs,rfl,ds,Hd,Hq,Ho,Hc,Hr,X⟩:=hrel;obtain⟨q',bh,b9,ao⟩:=Hq.out;obtain⟨pr,dz,u,l,b7,rfl,cd⟩:=altsP_step b9;have b5:=Zvd r;have b8:=Zxq b7;have ab:=a7.grown X.out (by intro e;injection e with e;omega);have g0:wr.cell? ⟨g,0,none⟩=some (.string L):=by rw[ab.cell];rfl
 have g1:wr.cell? ⟨g,1,none⟩=some (.complex .f64 x y):=by rw[ab.cell];rfl
 have ae:g<wr.heap.size:=ab.lt;have CR:=LH λ(W:World) (J:Wc W p r)=>rd_refs p r W J;have C:=LH λ(k:Int) (ts:List Tk) (W:World) (J:Wc W p ts)=>rd_is p k k ts W J;obtain⟨A0,c0,x0,y0,d4,d7,_,_,_,_,_,_,q3⟩:=Hr.out.parts;have br:=LH cd;have cu:=LH ab;have dr:Hid ((Xa r).1.length=(Xa r).1.length):=LH rfl;clear b9 cd ab Hq b7;generalize (Xa r).1=M at *;generalize (Xa r).2=cg at *;have c1:=LH b8;clear b8;go_upto_region 5 with fail;go_cut [5] (λv wx=>∃j Ar cr,v = .pointer (some ⟨j,0,none⟩)/\Zyt wr wx p j Ar cr L x y M ⟨#[]⟩ 0 0 cg)
 case first =>
  have c7:=LH (Hr.out.below (Zy wr (.cells #[.string ⟨#[]⟩,.complex .f64 0 0,.slice none 0 0,.string ⟨#[]⟩,.complex .f64 0 0] 199)).drew);have a0:=((Zy wr (.cells #[.string ⟨#[]⟩,.complex .f64 0 0,.slice none 0 0,.string ⟨#[]⟩,.complex .f64 0 0] 199)).drew.cell (p:=⟨g,0,none⟩) ae).trans g0;have a1:=((Zy wr (.cells #[.string ⟨#[]⟩,.complex .f64 0 0,.slice none 0 0,.string ⟨#[]⟩,.complex .f64 0 0] 199)).drew.cell (p:=⟨g,1,none⟩) ae).trans g1;have b3:g<(wr.alloc (.cells #[.string ⟨#[]⟩,.complex .f64 0 0,.slice none 0 0,.string ⟨#[]⟩,.complex .f64 0 0] 199)).drew.heap.size:=AJ ae (Zy wr _).size;have b2:g≠p:=AA
  have bz:∀W f:World,W.grownBy f (some p)->g<W.heap.size->W.cell? ⟨g,0,none⟩=some (.string L)->W.cell? ⟨g,1,none⟩=some (.complex .f64 x y)->f.cell? ⟨g,0,none⟩=some (.string L)/\f.cell? ⟨g,1,none⟩=some (.complex .f64 x y) :=
   λW f h1 h2 h3 h4=>⟨(Kx h1 h2 b2).trans h3,(Kx h1 h2 b2).trans h4⟩
  go_region_with (first
   | (go_at_call 224;refine (CR.out _ (by exact Hr.out)).mono ?_;rintro e f⟨Ar,cr,dp,rfl,ba,bd,P,z⟩;obtain⟨f0,f1⟩:=bz _ _ z ae g0 g1;have dg:g<f.heap.size:=AJ ae z.size)
   | (go_at_call 224;refine (CR.out _ (by exact c7.out)).mono ?_;rintro e f⟨Ar,cr,dp,rfl,ba,bd,P,z⟩;obtain⟨f0,f1⟩:=bz _ _ z b3 a0 a1
      have dg:g<f.heap.size:=AJ b3 z.size;have s:Blk f wr.heap.size 199 #[.string ⟨#[]⟩,.complex .f64 0 0,.slice none 0 0,.string ⟨#[]⟩,.complex .f64 0 0]:=Blk.grown (Blk.drew (Blk.new wr _ _)) z (by intro e;injection e with e;omega);have v0:=s.frozen 0;have v1:=s.frozen 1;have v2:=s.frozen 2;have v3:=s.frozen 3;have v4:=s.frozen 4;have z0:f.cell? ⟨wr.heap.size,0,none⟩=some (.string ⟨#[]⟩):=s.cell 0;have z1:f.cell? ⟨wr.heap.size,1,none⟩=some (.complex .f64 0 0):=s.cell 1;have z2:f.cell? ⟨wr.heap.size,2,none⟩=some (.slice none 0 0):=s.cell 2;have z3:f.cell? ⟨wr.heap.size,3,none⟩=some (.string ⟨#[]⟩):=s.cell 3;have z4:f.cell? ⟨wr.heap.size,4,none⟩=some (.complex .f64 0 0):=s.cell 4;have ct:=LH s;clear s))
  all_goals
   go_wp2_with fail;go_meet
   first
    | exact⟨_,Ar,cr,rfl,Zyt.late z ba bd P⟩
    | exact⟨_,Ar,cr,rfl,Zyt.early AA z ba bd P ct.out⟩
 obtain⟨j,Ar,cr,rfl,B⟩:=hcut;have n:=B.blk;have k0:wc.cell? ⟨j,0,none⟩=some (.string L):=n.cell 0;have k1:wc.cell? ⟨j,1,none⟩=some (.complex .f64 x y):=n.cell 1;have k2:wc.cell? ⟨j,2,none⟩=some (.slice Ar M.length cr):=n.cell 2;have k3:wc.cell? ⟨j,3,none⟩=some (.string ⟨#[]⟩):=n.cell 3;have k4:wc.cell? ⟨j,4,none⟩=some (.complex .f64 0 0):=n.cell 4;have T:=LH (C.out 8 cg wc B.rd);have H:=LH B;have ad:I.heap.size<=wc.heap.size:=BC X.out.size B.gr.size;have ax:=LH λ(a b:Int) (t:Tk) (ts:List Tk) (W:World) (J:Wc W p (t::ts)) (hk:isP a b (t::ts)=true)=>Ca p a b t ts W J hk;have dt:p<j:=AJ (AA:p<wr.heap.size) B.lo;clear n B g0 g1 q3 CR a7 cu;have dj:p<wr.heap.size:=AA
 rcases c1.out with ⟨h8,rfl,rfl⟩ | ⟨t0,R,rfl,cc,dk,rfl⟩
 case' inl =>
  rw[show isP 8 8 (u::l)=false by simpa [isP,Qy] using h8] at T;simp only[AW] at b5;have a2:Hid (l.length<r.length):=LH AA;go_upto_region 9 with (go_at_call 225;(with_reducible refine T.out.mono ?_);rintro e f⟨rfl,rfl⟩);clear k0 k1 k2 k3 k4;obtain⟨G,px,py,aj,He⟩:∃(G:ByteArray) (px py:Nat),Hid (Zyt wr wc p j Ar cr L x y M G px py (u::l))/\Hid (G=⟨#[]⟩):=⟨_,0,0,H,LH rfl⟩;rw[<-He.out] at br;clear H ad T;generalize wc=wd at *
 case' inr =>
  rw[show isP 8 8 (t0::R::u::l)=true by simp[isP,cc]] at T;simp only[AW] at b5;have a2:Hid (l.length<r.length):=LH AA;have CA:=LH (ax.out 8 8 t0 (R::u::l) wc H.out.rd (by simp[isP,cc]));have bs:isP 1 2 (R::u::l)=true:=by rw[Ztj];exact dk
  have cq:=LH bs;clear bs;go_upto_region 9 with (first
   | (go_at_call 225;(with_reducible refine T.out.mono ?_);rintro e f⟨rfl,rfl⟩)
   | (go_at_call 189
      (with_reducible refine CA.out.mono ?_);rintro e U⟨⟨x5,y5,rfl⟩,N,D⟩;have CB:=LH (ax.out 1 2 R (u::l) U N cq.out);have cx:=LH D;clear N D CA)
   | (go_at_call 189
      (with_reducible refine CB.out.mono ?_);rintro e w6⟨⟨px,py,rfl⟩,cb,b0⟩;have bm:=LH (Zc cx.out b0);have aa:=H.out.blk.grown bm.out (λe=>by injection e with e;omega);have v3:=aa.frozen 3;have v4:=aa.frozen 4;have k3:w6.cell? ⟨j,3,none⟩=some (.string ⟨#[]⟩):=aa.cell 3;have k4:w6.cell? ⟨j,4,none⟩=some (.complex .f64 0 0):=aa.cell 4;have bj:=LH (H.out.prec (pr:=R.2) (px:=px) (py:=py) dj bm.out cb);clear cb b0 aa))
  have aj:=bj;clear bj H k0 k1 k2 k3 k4 v3 v4 ad T;generalize (w6.setCell ⟨j,3,none⟩ (.string R.2)).setCell ⟨j,4,none⟩ (.complex .f64 px py)=wd at *;generalize R.2=G at *
 all_goals
  have B:=aj.out;have n:=B.blk;have k0:wd.cell? ⟨j,0,none⟩=some (.string L):=n.cell 0;have k1:wd.cell? ⟨j,1,none⟩=some (.complex .f64 x y):=n.cell 1;have k2:wd.cell? ⟨j,2,none⟩=some (.slice Ar M.length cr):=n.cell 2;have k3:wd.cell? ⟨j,3,none⟩=some (.string G):=n.cell 3;have k4:wd.cell? ⟨j,4,none⟩=some (.complex .f64 px py):=n.cell 4;have bp:=LH (Qg Ho.out B.gr O);have ad:I.heap.size<=wd.heap.size:=BC X.out.size B.gr.size;have c8:Hid (l.length<Zyp wr p):=LH (by rw[Hr.out.rem];exact a2.out);have CT:=LH λ(k:Int) (W:World) (J:Wc W p (u::l)) (hk:u.1=k)=>ax.out k k u l W J (by simp[isP,hk]);have di:d+1+l.length<=4000:=by have:=a2.out;omega
  have H:=aj;clear n B aj;rcases br.out with ⟨hu,b6⟩ | ⟨hu,rfl,rfl⟩
  ·have cy:=LH b6;have Y:=LH hu;clear b6 hu;go_wp2_with (first
    | (go_at_call 225;(with_reducible refine V.out.mono ?_);rintro e U⟨rfl,rfl⟩)
    | (go_at_call 189;(with_reducible refine C5.out.mono ?_);rintro e U⟨⟨x5,y5,rfl⟩,N,D⟩)
    | (at_builtin;refine Ye rfl _ _ 128 rfl I.heap.size 199 _ 5 88 underlying128 Hi.out AC AC A d c cs rfl bp.out [.string L,.complex .f64 x y,.slice Ar M.length cr,.string G,.complex .f64 px py] rfl rfl (by simp[Value.oneCell']) AA AA ad ?_;intro A4 c4 w4 ho af Z
       have E:=Zs9 O X.out Ho.out Hc.out H.out af Z;have HP:=LH E.1;have HG:=LH E.2.1;have V:=LH (C.out 11 (u::l) w4 E.2.2);rw[show isP 11 11 (u::l)=true by simp[isP,Y.out]] at V;have C5:=LH (CT.out 11 w4 E.2.2 Y.out);have a4:=LH ho;clear E ho af Z))
   have c9:Hid (Zyp U p<Zyp wr p):=LH (by rw[N.rem];exact c8.out);have cz:=LH (Qg a4.out D O);have cp:=LH (HP.out.grown D O);have co:=LH (Zc HG.out D);have c6:=LH N;have cv:Hid (d+1=(done++[(⟨L,M,G⟩:Prd)]).length):=LH (by rw[AS,<-Hd.out];rfl);have c3:Hid (∃q' ce,L9 L q' l=some (ce,rest)/\(done++[⟨L,M,G⟩])++ce=ps):=LH (by
    obtain⟨q2,m2,h1,h2⟩:=cy.out;exact⟨q2,m2,h1,by rw[<-ao,h2];simp⟩)
   clear ao N D;go_roundw
   case rel=>exact⟨d+1,c4,A4,_,l,_,rfl,di,cv,c3,cz,cp,c6,co⟩
   exact c9.out
  have Y:=LH hu;clear hu;go_wp2_with (first
   | (go_at_call 225;(with_reducible refine V.out.mono ?_);rintro e U⟨rfl,rfl⟩)
   | (go_at_call 189;(with_reducible refine C5.out.mono ?_);rintro e U⟨⟨x5,y5,rfl⟩,N,D⟩)
   | (at_builtin;refine Ye rfl _ _ 128 rfl I.heap.size 199 _ 5 88 underlying128 Hi.out AC AC A d c cs rfl bp.out [.string L,.complex .f64 x y,.slice Ar M.length cr,.string G,.complex .f64 px py] rfl rfl (by simp[Value.oneCell']) AA AA ad ?_;intro A4 c4 w4 ho af Z
      have E:=Zs9 O X.out Ho.out Hc.out H.out af Z;have HP:=LH E.1;have HG:=LH E.2.1;have V:=LH (C.out 11 (u::rest) w4 E.2.2);rw[show isP 11 11 (u::rest)=false by simp[isP,Y.out]] at V;have C5:=LH (CT.out 12 w4 E.2.2 Y.out);have a4:=LH ho;clear E ho af Z))
  go_ret;have bb:ps.length=d+1:=by rw[<-ao,AS,<-Hd.out];rfl
  have bt:w.heap.size<=I.heap.size:=bn.out.size;refine⟨A4,c4,cs++[.string L,.complex .f64 x y,.slice Ar M.length cr,.string G,.complex .f64 px py],by rw[bb];rfl,?_,?_,N,Zc bn.out (Zc HG.out D)⟩
  ·rw[bb];exact Zzw (Qg a4.out D O) bt
  rw[bb,<-ao];exact (HP.out.grown D O).keep (AI _) λk _ bv=>⟨rfl,BC bt bv.1,bv.2⟩
theorem wk_terminal(p:Nat)(h:GH)(G f:Gr)(i:Int)(s:ByteArray)(x y:Nat)(w:World)(k:Wk w p B h G)(O:Zzj G s=some (i,f)):
 Calls prog 227 #[.pointer (some ⟨p,0,none⟩),.agg #[.string s,.complex .f64 x y]] w λe w'=>e = .returned (.int .i64 i)/\∃F,Wk w' p B F f/\V6 w w' p h F:=by
 obtain⟨a1,n1,c1,a2,n2,c2,a3,n3,c3⟩:=h;obtain⟨P,l2,l3⟩:=k.lens;have N:=k.st;have a0:n1<=24:=k.b1;have I:=Zy w (.cells #[.string s,.complex .f64 x y] 191);have d:=Blk.new w 191 #[.string s,.complex .f64 x y];have m:=k.below I;have L:(prog.info? 91).map (λi=>(i.zero,i.size,i.bytes))=some (some (.agg #[.string ⟨#[]⟩,.int .i64 0,.int .i64 0]),3,32):=AB
 have X:=LH L;have n:=LH O;simp only[] at P l2 l3;clear O L k;go_enter func227,ntmps227;go_wp2_with fail;generalize ae:w.alloc (.cells #[.string s,.complex .f64 x y] 191)=c at *;have ay:w.heap.size<c.heap.size:=d.lt;obtain⟨hp,R,S,T,z3,z7,ar,v0,v1,v2⟩:=m.cells;have y0:c.cell? ⟨w,0,none⟩=some (.string s):=d.cell 0;have y1:c.cell? ⟨w,1,none⟩=some (.complex .f64 x y):=d.cell 1;simp only[] at R S T;have q:=λ(x:Ext c)=>C6 ⟨a1,n1,c1,a2,n2,c2,a3,n3,c3⟩ G s (bl c x) (m.grAt.below (Zr c x)) (by simp only[];omega);rw[N] at q;have CT:=LH q;have Y:=LH m;have W:=LH d;have bc:=Yt c;clear q m d ae N;refine Zs AB AB ?_;repeat (go_big_quiet_step ((go_at_call 117;with_reducible exact Ve (CT.out _))))
 refine BK ?_;rintro _⟨x,rfl⟩;have j:=Zr c x;generalize bl c x=a at *;have u:=Y.out.below j;have r:=W.out.ext j;have g:=LH u;have z:=LH (Zz I j);obtain⟨a5,u0,u1,u2,u3,u7,u10,a7,a8,a9⟩:=u.cells;have ba:a.cell? ⟨w,0,none⟩=some (.string s):=r.cell 0;have az:w.heap.size<a.heap.size:=r.lt;simp only[] at u0 u1 u2;clear u r bc CT y0 y1 R S T z3 z7 ar v0 v1 v2 j;by_cases H:0<=G.term s
 ·have E:Hid (i=G.term s/\f=G):=LH (by
   have:=n.out;unfold Zzj at this;rw[if_pos H] at this;simp only[BM,CZ] at this;exact⟨this.1.symm,this.2.symm⟩)
  generalize G.term s=ti at *;go_wp2_with fail;go_ret;exact⟨by rw[E.out.1];rfl,_,by rw[E.out.2];exact g.out,V6.of_below z.out _ _⟩
 have ad:¬n1=24/\i=(n1:Int)/\f={ G with terms:=G.terms++[⟨s,0,0⟩] }:=by
  have:=n.out;unfold Zzj at this;rw[if_neg H] at this;split at this
  ·cases this
  rename_i v;simp only[BM,CZ] at this;rw[P] at v this;exact⟨v,this.1.symm,this.2.symm⟩
 obtain⟨v,rfl,rfl⟩:=ad;have aw:((n1:Int)==24)=false:=by rw[AP];omega
 generalize G.term s=ti at *;have Z:=LH (g.out.r1);clear n;go_wp2_with fail;have C:Hid ((a.drew.alloc (.cells #[.string s,.int .i64 0,.int .i64 0] 91)).ownsRow (p+1) 91 3 (.slice a1 n1 c1) n1 (V8 G.terms)):=M5 Z.out ((AK a a).drew.alloc (AI _) _);have l:Below a a (a.drew.alloc (.cells #[.string s,.int .i64 0,.int .i64 0] 91)):=(AK a a).drew.alloc (AI _) _;have V:=LH (g.out.blk.ext l);have A:=LH l;have ag:p+1<=(a.drew.alloc (.cells #[.string s,.int .i64 0,.int .i64 0] 91)).heap.size:=by have:=l.size;omega
 clear l;go_region_law (first
  | (refine V5 rfl _ _ 22 rfl (p+1) 91 _ 3 32 underlying22 X.out AC AC a1 n1 c1 (V8 G.terms) (by simp[Act.eval,Act.put]) (by exact C.out) ⟨a,0,none⟩ 1 1 [.string s,.int .i64 0,.int .i64 0] rfl (by simp[Act.eval,Act.put]) (by exact Qn a.drew [.string s,.int .i64 0,.int .i64 0] _) (by simp[Value.oneCell']) AA AA (by exact ag) ?_;intro U c4 w4 M t J
     have o:=V.out.grown t (by intro e;have:=(C.out.lt p e.symm).1;omega);have q0:w4.cell? ⟨p,0,none⟩=some (.slice a1 n1 c1):=o.cell 0;have f0:=o.frozen 0;have D:=LH (g.out.put1 ⟨s,0,0⟩ (by simp only[];omega) U c4 M (Zc (Xz _ A.out) t) (λb hb ah=>J b hb (AJ ah A.out.size)));clear o M t J))
 all_goals
  go_wp2_with fail;go_ret;refine⟨by congr 2 <;> omega,_,D.out.1,(V6.of_below z.out p _).trans D.out.2⟩
theorem Zv1(p:Nat)(h:GH)(G d:Gr)(i:Int)(s:ByteArray)(R:Bool)(x y:Nat)(w:World)(k:Wk w p B h G)(O:Nl R G s=some (i,d)):
 Calls prog 194 #[.pointer (some ⟨p,0,none⟩),.agg #[.string s,.complex .f64 x y],.bool R] w λe w'=>e = .returned (.int .i64 i)/\∃J,Wk w' p B J d/\V6 w w' p h J:=by
 have ar:=Bu O;have I:=λ(W:World) (hW:Wk W p B h G) (o:Zzj G s=some (i,d))=>wk_terminal p h G d i s x y W hW o;obtain⟨a1,n1,c1,a2,n2,c2,a3,n3,c3⟩:=h;obtain⟨l1,P,l3⟩:=k.lens;have C:=k.st;have bb:n1<=24:=k.b1;have bd:n2<=16:=k.b2;have L:=Zy w (.cells #[.string s,.complex .f64 x y] 191);have l:=Blk.new w 191 #[.string s,.complex .f64 x y];have m:=k.below L;have Y:=LH I;simp only[] at l1 P l3;have N:=U9 (λt=>decide (t=s)) G.nons;have ba:-1<=G.non s/\G.non s<(n2:Int):=by rw[<-P];exact N
 clear k O I N;go_enter func194,ntmps194;go_wp2_with fail;generalize al:w.alloc (.cells #[.string s,.complex .f64 x y] 191)=b at *;have a8:w.heap.size<b.heap.size:=l.lt;obtain⟨hp,U,V,X,z3,z7,a0,v0,v1,v2⟩:=m.cells;have y0:b.cell? ⟨w,0,none⟩=some (.string s):=l.cell 0;simp only[] at U V X;have r:=λ(x:Ext b)=>Zu5 ⟨a1,n1,c1,a2,n2,c2,a3,n3,c3⟩ G s (bl b x) (m.grAt.below (Zr b x)) (by simp only[];omega);rw[C] at r;have E:=LH r;have ad:=LH m;have aa:=LH l;have af:=LH C;have bc:=Yt b;clear r m l al C;refine Zs AB AB ?_;repeat (go_big_quiet_step ((go_at_call 120;with_reducible exact Ve (E.out _))))
 refine BK ?_;rintro _⟨S,rfl⟩;have j:=Zr b S;generalize bl b S=a at *;have n:=ad.out.below j;have f:=aa.out.ext j;have H:=LH n;have ab:=LH f;have F:=LH (Zz L j);obtain⟨bf,u0,u1,u2,u3,u7,u10,bk,bm,bn⟩:=n.cells;have bp:a.cell? ⟨w,0,none⟩=some (.string s):=f.cell 0;have bq:a.cell? ⟨w,1,none⟩=some (.complex .f64 x y):=f.cell 1;have a9:w.heap.size<a.heap.size:=f.lt;simp only[] at u0 u1 u2;have u:=λ(x:Ext a)=>C6 ⟨a1,n1,c1,a2,n2,c2,a3,n3,c3⟩ G s (bl a x) (n.grAt.below (Zr a x)) (by simp only[];omega);rw[af.out] at u;have CT:=LH u;have q:=LH λ(x:Ext a)=>Gb s (bl a x);have bc2:=Yt a;clear n f bc E y0 U V X z3 z7 a0 v0 v1 v2 j u;rcases ar with ⟨an,rfl,rfl,rfl⟩ | ⟨an,o,aq⟩
 ·generalize ao:d.non s=D at *;have bg:IntKind.i64.wrap (-1-D)=-1-D:=BT _ AA;go_wp2_with fail;go_ret;exact⟨by rw[ao];rfl,_,H.out,V6.of_below F.out _ _⟩
 have ag:=LH o;clear o;generalize G.non s=D at *;rcases aq with g | ⟨g,c⟩ | ⟨g,c,v⟩
 case' inr.inl=>generalize G.term s=ti at *
 case' inr.inr.inl =>
  rw[show G.term s=-1 by have z:=(U9 (λt=>decide (t.name=s)) G.terms).1;have h6:G.term s=Y8 (λt=>decide (t.name=s)) G.terms:=rfl;omega] at CT;clear g;have e2:H5 (Zh s)=true:=c;rw[c] at q
 case' inr.inr.inr =>
  rw[show G.term s=-1 by have z:=(U9 (λt=>decide (t.name=s)) G.terms).1;have h6:G.term s=Y8 (λt=>decide (t.name=s)) G.terms:=rfl;omega] at CT;clear g;have e2:(s.toList==[101,114,114,111,114])=true:=by rw[v,ByteArray.toList_eq];rfl
  rw[c] at q
 all_goals
  try have a6:=LH c
  try have a7:=LH v
  try clear c
  try clear v
  go_wp2_with fail;refine Zs AB AB ?_;repeat (go_big_quiet_step (first | (go_at_call 117;with_reducible exact Ve (CT.out _)) | (go_at_call 172;with_reducible exact Qo (q.out _))))
  refine BK ?_;rintro _⟨T,rfl⟩;have A:=Zr a T;have ae:=LH (H.out.below A);have M:=ab.out.ext A;generalize bl a T=W3 at *;have Z:=LH (Zz F.out A);have t0:W3.cell? ⟨w,0,none⟩=some (.string s):=M.cell 0;have t1:W3.cell? ⟨w,1,none⟩=some (.complex .f64 x y):=M.cell 1;go_wp2_with (go_at_call 227;(with_reducible refine (Y.out _ ae.out ag.out).mono ?_);rintro e w5⟨rfl,z,am,ap⟩);go_ret;exact⟨rfl,z,am,(V6.of_below Z.out _ _).trans ap⟩
theorem Zw7(h:Option Addr)(n c1:Nat)(xs:List Nat)(bit:Nat)(w:World)(h1:Zq .u32 w h n c1 xs)(q:Lim xs)(t:bit<=1)(L:n<=1000):
 Calls prog 212 #[.slice h n c1,.int .u32 (bit:Int)] w (RetNew w (limbs (2*val xs+bit))):=by
 obtain rfl:=h1.len;have p:=run_make_cap (P:=prog) 31 49 .u32 4 underlying31 Tryz.info34 (xs.length+1) AA AA;have B:∀w:World,(Instr.makeSlice 31 (.int .i64 0) (.int .i64 ((xs.length:Int)+1))).run prog w = .ok (.slice (some ⟨w,0,none⟩) 0 (xs.length+1)) (w.alloc (.cells (nums .u32 (List.replicate (xs.length+1) 0)).toArray 49)):=p;clear p;go_enter func212,ntmps212;go_wp2;go_loopw [1,5,14] (TwRel w xs bit) (λ_ _ i _=>xs.length-(intOf i).toNat)
 case atStart=>exact⟨0,_,_,AU _,rfl,rfl,rfl,own_cap w _ .u32 (xs.length+1) _ AE AA,(AK _ _).alloc (AI _) _⟩
 clear B;obtain⟨k,A,G,J,rfl,rfl,rfl,c,b⟩:=hrel;have u:=Ae xs bit t q k;have o:=b.size;by_cases z:k<xs.length
 ·obtain⟨F,N,x,rfl,H,Hx,I⟩:=(h1.below b).get (j:=k) z;have D:=q.of_get Hx.out;have M:=shl_or x (twP xs bit k).2 D u;go_wp2_with (at_builtin;refine Vc (w:=wr) rfl _ _ 31 rfl w 49 (.int .u32 0) 4 underlying31 Tryz.info34 rfl _ k _ _ rfl c _ rfl rfl AA AA AA ?_;intro d f r a g);go_roundw
  case rel =>
   refine⟨k+1,d,f,AA,AF,?_,rfl,?_,X6 b g c o⟩
   ·have e:x / 2147483648=(2*x+(twP xs bit k).2) / 4294967296:=AA
    simp only[twP,Yn Hx.out];rw[<-e];go_num
   have e:=Mi .u32 (twP xs bit k).1 ((2*x+(twP xs bit k).2) % 4294967296);simp only[twP,Yn Hx.out];rw[e];simpa using a
  simp[intOf];omega
 obtain rfl:k=xs.length:=AA
 have y:Lim ((twP xs bit xs.length).1++[(twP xs bit xs.length).2]):=(twP_lim xs bit xs.length).append (Lim.mk AA Lim.nil);have l:=LH (Vg _ y);rw[twP_all] at l;have E:=LH (Zye xs bit xs.length);have s:=LH (Mi .u32 (twP xs bit xs.length).1 (twP xs bit xs.length).2);go_wp2_with (first
  | (at_builtin;refine Vc (w:=wr) rfl _ _ 31 rfl w 49 (.int .u32 0) 4 underlying31 Tryz.info34 rfl _ xs.length _ _ rfl c _ rfl rfl AA AA AA ?_;intro d f r a g;rw[<-s.out] at a)
  | (go_at_call 199;have C:Zq .u32 r d (xs.length+1) f ((twP xs bit xs.length).1++[(twP xs bit xs.length).2]):=Yl a;(with_reducible refine (Q3 _ _ _ _ _ C).mono ?_);rintro e w'⟨rfl,m,rfl⟩))
 have v:=Zv3 a;go_ret;rw[l.out] at m ⊢;unfold RetNew;exact⟨_,_,rfl,m,X6 b g c o,v⟩
section
variable {P:Program}
theorem wpl_appendV{w:World}{a:Act}(V:o.guard=none)(s x:Operand)(t:TypeId)(Y:o.op = .call { callee := .builtin .append,args:=#[s,x],argTypes:=#[t,t] })(base:Nat)(e:TypeId)(z:Value)(bytes:Nat)(J:P.underlying t=some (.slice e))(hi:(P.info? e).map (λi=>(i.zero,i.size,i.bytes))=some (some z,1,bytes))(af:z.cells.size=1)(ag:∀u∈z.cells.toList,∀k x,u≠Value.int k x)(A:Option Addr)(n c:Nat)(xs:List Value)(Z:a.eval s = .slice A n c)(H:w.ownsRow base e 1 (.slice A n c) n xs)(X:∀g,(Value.slice A n c).ownBlock=some g->Qf w g)(ae:∀u∈xs,∀k x,u≠Value.int k x)(f:Addr)(c2:Nat)(u:Value)(hx:a.eval x = .slice (some f) 1 c2)(U:w.cell? f=some u)(h1:u.oneCell'=true)(hu:∀k x,u≠Value.int k x)(C:n+1<=9223372036854775807)(E:(n+1)*bytes<=140737488355328)(T:base<=w.heap.size)(h:∀d l w',w'.ownsRow base e 1 (.slice d (n+1) l) (n+1) (xs++[u])->w.grownBy w' (Value.slice A n c).ownBlock->(∀b,(Value.slice d (n+1) l).ownBlock=some b->b<w.heap.size->(Value.slice A n c).ownBlock=some b)->
   (∀b,(Value.slice d (n+1) l).ownBlock=some b->Qf w' b)->wpList P ops Q rest (a.put o.dst (.slice d (n+1) l)) w'):wpList P ops Q (o::rest) a w:=by
 obtain⟨i,G,L,r,D⟩:=info_parts hi;have F:∀j v,[u][j]? = some v->w.cell? (f.add j)=some v:=by
  intro j v m;have W:j=0:=by have:=(AN.1 m).1;simp at this;omega
  subst W;obtain rfl:u=v:=by simpa using m
  have M:f.add 0=f:=by unfold Addr.add;simp
  rw[M];exact U
 have y:∀v∈[u],v.oneCell'=true:=λv m=>by rw[BV.1 m];exact h1
 obtain⟨v',w',I,B,N,_,p⟩:=run_append_own_at (P:=P) w base t o.type e i z 1 bytes J G L r D af AC _ n xs H f 1 c2 [u] rfl F y (by simpa [maxLen] using C) E T;have R:=append_noInt (P:=P) w base t o.type e i z J G L A n c xs (by rw[r];exact H) f 1 c2 AC [u] (by rw[r];rfl) F y C (by rw[D];exact E) X (λv m=>by rw[BV.1 m];exact hu) ae ag I;obtain⟨d,l,rfl⟩:=M3 B;have O:∀b,(Value.slice d (n+1) l).ownBlock=some b->b<w.heap.size->(Value.slice A n c).ownBlock=some b:=by
  intro b q ah;rcases p with p | p
  ·rw[<-p];exact q
  rw[p] at q;injection q with q;omega
 refine wpList_plain V λK S=>?_;unfold Oper.wp execOp;simp only[Y,resolve,invoke,builtin,Sem.run_bind,Sem.run_pure,Result.andThen_ok,List.map_toArray,CU,List.map_nil,Z,hx,I];exact S _ _ (h d l w' B N O R)
end
section
open Ieee
theorem Wr.next{w0 w:World}{h:GH}{m:Int}{g f:Option Addr}{l j:Nat}{o:WSt}(k:Wr w0 w p h m Ar cr g l f j o){rest:List Int}{c:Nat}(q:Za .i64 w0 a rest.length c rest):
 Wr w0 (w.setCell ⟨p,4,none⟩ (.slice a rest.length c)) p h m a c g l f j { o with rest:=rest }/\Below p w (w.setCell ⟨p,4,none⟩ (.slice a rest.length c)):=by
 have n:∀b,b≠p->(w.setCell ⟨p,4,none⟩ (.slice a rest.length c)).heap[b]? = w.heap[b]? := λb d=>Eb w ⟨p,4,none⟩ _ b d;refine⟨⟨k.blk.set 4 _,q,Yq k.word λb d _ _=>n b AA,Yq k.posts λb d _ _=>n b AA,k.apart⟩,Zn (Zd _ _ _ _) (DP k.lt) (AI _)⟩
theorem tr_walk(w0:World)(h:GH)(G:Gr)(gs:Int)(hg:Yf w0 h G)(ay:G.Fits)(p:Nat)(cu:w0.heap.size<=p):∀(q:Nat) (a:WSt) (non:Int) (w:World) (Ar:Option Addr) (cr:Nat) (l:Option Addr) (u:Nat) (g:Option Addr) (t:Nat),
 q<=400->a.rest.length<=q->a.word.length+6*a.rest.length<=4000->a.posts.length+a.rest.length<=4000->-100<=non->non<=100->Below w0 w0 w->Wr w0 w p h gs Ar cr l u g t a->
 Calls prog 175 #[.pointer (some ⟨p,0,none⟩),.int .i64 non] w (Walked w0 G q p h gs a non w):=by
 intro q
 induction q with
 | zero =>
   intro a non w Ar cr l u g t hq A V a4 bw bx hB k;have a0:a.rest=[]:=BL AA;obtain⟨hp,z2,z4,z5,z6,v4,v5,v6⟩:=k.cells;have S:a.rest.length=0:=by rw[a0];rfl
   rw[S] at z4;have m:=LH k;have f:=LH (B3 (G:=G) (q:=0) (non:=non) a0);clear k a0 A V a4 S;go_enter func175,ntmps175;go_wp2_with fail;go_ret;exact⟨Ar,cr,l,u,g,t,a,m.out,AK _ _,Less.refl _,.inl ⟨f.out,rfl⟩⟩
 | succ q ih =>
   intro a non w Ar cr l u g t hq A V a4 bw bx hB k;obtain⟨hp,z2,z4,z5,z6,v4,v5,v6⟩:=k.cells;cases B:a.rest with
   | nil =>
     have S:a.rest.length=0:=by rw[B];rfl
     rw[S] at z4;have m:=LH k;have f:=LH (B3 (G:=G) (q:=q+1) (non:=non) B);clear k B A V a4 S ih;go_enter func175,ntmps175;go_wp2_with fail;go_ret;exact⟨Ar,cr,l,u,g,t,a,m.out,AK _ _,Less.refl _,.inl ⟨f.out,rfl⟩⟩
   | cons i rest =>
     have aj:=k.rest;have cs:a.rest.length=rest.length+1:=by rw[B];rfl
     have dk:=aj.cap;obtain⟨b,C,i',rfl,hb,bj,q0⟩:=aj.get (j:=0) AA;obtain rfl:i=i':=by
      have:=bj.out;rw[B] at this;simpa using this
     rw[DJ,<-hB.cell (p:=⟨b,C,none⟩) hb] at q0;rw[cs] at z4;obtain⟨a1,n1,c1,a2,n2,c2,a3,n3,c3⟩:=h;have e3:G.rules.length=n3:=hg.rules.len;have dt:n3<=40:=by have:=ay.n3;omega
     have k3:=hg.rules.cap;simp only[] at z2 k3;have m:=LH k;have N:=LH B;have Hg:=LH hg;have X:=LH ay;have HB:=LH hB;have cc:=LH aj;have IH:=LH ih;clear k B hg ay hB aj ih bj;by_cases dp:i<0
     ·have f:Hid (Y0 G (q+1) a non=none):=LH (Fd N.out λr A=>by
       obtain⟨j,hj,_⟩:=Uo A;omega)
      go_enter func175,ntmps175;go_wp2_with fail;go_ret;exact⟨_,cr,l,u,g,t,a,m.out,AK _ _,Less.refl _,.inl ⟨f.out,rfl⟩⟩
     by_cases dq:(n3:Int)<=i
     ·have f:Hid (Y0 G (q+1) a non=none):=LH (Fd N.out λr A=>by
       obtain⟨j,hj,co⟩:=Uo A;have:=(AN.1 co).1;omega)
      go_enter func175,ntmps175;go_wp2_with fail;go_ret;exact⟨_,cr,l,u,g,t,a,m.out,AK _ _,Less.refl _,.inl ⟨f.out,rfl⟩⟩
     obtain⟨d,rfl⟩:∃d:Nat,i=(d:Int):=⟨i.toNat,AA⟩;have cm:d<n3:=AA
     obtain⟨rb,a9,r,Arr,di,rfl,b0,bo,b5,dc,d6,a5⟩:=Hg.out.rules.get cm;rw[<-HB.out.cell (p:=⟨rb,a9+d*3,none⟩) b0] at b5;have ai:Ur G (d:Int)=some r:=by
      unfold Ur;rw[if_pos AA,DF];exact bo.out
     by_cases I:r.left=non
     case neg =>
      have du:(r.left != non)=true:=by rw[BN];exact I
      have f:Hid (Y0 G (q+1) a non=none):=LH (Fd N.out λr' ah=>by
       rw[ai] at ah;injection ah with ah;rw[<-ah];exact I)
      clear ai I;generalize r.left=rl at *;go_enter func175,ntmps175;go_wp2_with fail;go_ret;exact⟨_,cr,l,u,g,t,a,m.out,AK _ _,Less.refl _,.inl ⟨f.out,rfl⟩⟩
     rw[I] at b5;have bi:=LH (Zwq (q:=q) N.out ai I);rw[<-HB.out.cell (p:=⟨rb,a9+d*3+1,none⟩) b0] at dc;have dx:rb≠p:=AA
     have a6:=AL bo.out;have ds:=X.out.len r a6;have b2:=X.out.sym r a6;have dm:=X.out.n2;have dn:=X.out.n1;have dl:=a5.cap;have hT:=cc.out.tail 1 AA;rw[show a.rest.length-1=rest.length by omega,show a.rest.drop 1=rest by rw[N.out];rfl] at hT;have cd:=LH a5;have HT:=LH hT;have bu:(prog.info? 3).map (λi=>(i.zero,i.size,i.bytes))=some (some (.int .i64 0),1,8):=AB
     have bk:=LH bu;have a7:∀s∈r.right,-16<=s/\s<24:=λs hs=>by have:=b2 s hs;omega
     have ce:=LH a7;clear ai I a6 b2 a5 hT bu a7;generalize r.right=right at *;obtain⟨W,ab⟩:∃W,(if cr=1 then some (⟨b,C,none⟩:Addr) else some ⟨b,C+1,none⟩)=W:=⟨_,rfl⟩;rw[ab] at HT;have bz:=m.out.next HT.out;have Y:=LH bz;have cl:(cr=1/\W=some ⟨b,C,none⟩)\/(¬cr=1/\W=some ⟨b,C+1,none⟩):=by
      by_cases hc:cr=1
      ·exact .inl ⟨hc,by rw[<-ab,if_pos hc]⟩
      exact .inr ⟨hc,by rw[<-ab,if_neg hc]⟩
     clear bz ab;rcases cl with ⟨bt,rfl⟩ | ⟨bt,rfl⟩
     case' inl =>
      have b1:rest.length=0:=AA
      subst bt;rw[b1] at Y;go_enter func175,ntmps175;go_wp2_with fail;obtain⟨az,ax⟩:=Y.out;generalize w.setCell ⟨p,4,none⟩ (.slice (some ⟨b,C,none⟩) 0 (1-1))=W1 at *;clear b1
     case' inr =>
      go_enter func175,ntmps175;go_wp2_with fail;obtain⟨az,ax⟩:=Y.out;generalize w.setCell ⟨p,4,none⟩ (.slice (some ⟨b,C+1,none⟩) rest.length (cr-1))=W1 at *
     all_goals
      have ca:=LH az;have b8:=LH ax;clear az ax Y;go_loopw [6,65] (λv6 db wr=>∃(k top:Nat) (c:WSt) (L:Option Addr) (P:Nat) (E:Option Addr) (H:Nat) (D:Option Addr) (F:Nat),v6 = .int .i64 (top:Int)/\db = .int .i64 (k:Int)/\k<=right.length/\top<=q/\c.rest.length<=rest.length /\
       c.word.length+6*c.rest.length+(right.length-k)<=a.word.length+6*(rest.length+1)/\c.posts.length+c.rest.length+1<=a.posts.length+(rest.length+1)/\Hid (Wr w0 wr p ⟨a1,n1,c1,a2,n2,c2,some ⟨rb,a9,none⟩,n3,c3⟩ gs L P E H D F c)/\Hid (Below p W1 wr) /\
       Hid (Wt (Y0 G q) right { a with rest:=rest } 0=Wt (Y0 G q) (right.drop k) c top)) (λ_ v _=>right.length-(intOf v).toNat)
      case atStart =>
       exact⟨0,0,_,_,_,_,_,_,_,rfl,rfl,AU _,AU _,AI _,by simp only[];omega,by simp only[];omega,ca,LH (AK _ _),LH rfl⟩
      obtain⟨k,top,c,L,P,E,H,D,F,rfl,rfl,hk,cz,m1,m2,m3,o,ap,aa⟩:=hrel;have av:Below p w wr:=b8.out.trans ap.out;have bg:=LH av;have bf:=LH (HB.out.trans (av.mono cu));obtain⟨dw,y2,y4,y5,y6,u4,u5,u6⟩:=o.out.cells;clear av;by_cases cq:k<right.length
      case neg =>
       have bv:k=right.length:=AA
       have aq:Hid (Y0 G (q+1) a non=some ({ c with posts:=c.posts++[(d:Int)] },top+1)):=LH (by
        rw[bi.out,aa.out,List.drop_eq_nil_of_le AA,Wt];rfl)
       have bm:=LH o.out.posts;have dh:=LH bv;subst bv;go_wp2_with (first
        | (at_builtin;refine Ye rfl _ _ 27 rfl (p+1) 3 _ 1 8 underlying27 bk.out AC AC D c.posts.length F (ints .i64 c.posts) rfl bm.out [.int .i64 (d:Int)] rfl rfl (by simp[Value.oneCell']) AA AA AA ?_;intro J O w4 U z R
           have y:=o.out.blk.grown z (by intro e;have:=(bm.out.lt p e.symm).1;omega);have x5:w4.cell? ⟨p,6,none⟩=some (.slice D c.posts.length F):=y.cell 6;have x6:=y.frozen 6;have M:=LH (o.out.putP (d:Int) J O U z R);clear y U z R))
       go_ret;have cv:(c.posts++[(d:Int)]).length=c.posts.length+1:=AE
       refine⟨L,P,E,H,J,O,{ c with posts:=c.posts++[(d:Int)] },M.out.1,bg.out.trans M.out.2,⟨?_,?_,?_⟩,.inr ⟨top+1,aq.out,AA,AA,?_⟩⟩
       ·show c.rest.length<=a.rest.length;omega
       ·show c.word.length+6*c.rest.length<=a.word.length+6*a.rest.length;omega
       ·show (c.posts++[(d:Int)]).length+c.rest.length<=a.posts.length+a.rest.length;rw[cv];omega
       first
        | rfl
        | (congr 2;omega)
      obtain⟨sb,so,s,rfl,a7,Z,qs⟩:=(cd.out.below bf.out).get cq;have dy:=ce.out s (AL Z.out);by_cases h0:0<=s
      case pos =>
       have bn:=LH o.out.word;have cb:=LH h0;go_wp2_with (first
        | (at_builtin;refine Ye rfl _ _ 27 rfl (p+1) 3 _ 1 8 underlying27 bk.out AC AC E c.word.length H (ints .i64 c.word) rfl bn.out [.int .i64 s] rfl rfl (by simp[Value.oneCell']) AA AA AA ?_;intro J O w4 U z R
           have y:=o.out.blk.grown z (by intro e;have:=(bn.out.lt p e.symm).1;omega);have x5:w4.cell? ⟨p,5,none⟩=some (.slice E c.word.length H):=y.cell 5;have x6:=y.frozen 5;have M:=LH (o.out.putW s J O U z R);clear y U z R))
       have V:(c.word++[s]).length=c.word.length+1:=AE
       go_roundw
       case rel=>exact⟨k+1,top,{ c with word:=c.word++[s] },L,P,J,O,D,F,rfl,AF,AA,cz,m1,by show (c.word++[s]).length+6*c.rest.length+(right.length-(k+1))<=a.word.length+6*(rest.length+1);rw[V];omega,m3,LH M.out.1,LH (ap.out.trans M.out.2),LH (by rw[aa.out,Zxx Z.out (by have:=cb.out;omega)])⟩
       simp[intOf];omega
      have bl:=LH h0;have dz:IntKind.i64.wrap (-1-s)=-1-s:=BT _ AA;have CI:=LH (IH.out c (-1-s) wr L P E H D F AA AA AA AA AA AA bf.out o.out);go_wp2_with fail;(with_reducible refine CI.out.mono ?_);rintro e w5⟨bd,br,be,bs,bc,bq,b3,k5,ae,x,⟨T,rfl⟩ | ⟨n,T,bw,bx,rfl⟩⟩
      ·have aq:Hid (Y0 G (q+1) a non=none):=LH (by rw[bi.out,aa.out,Zwv Z.out (by have:=bl.out;omega) T];rfl);have ar:=LH k5;have ao:=LH ae;have L1:=x.rest;have L2:=x.word;have L3:=x.posts;clear k5 ae x T;go_wp2_with fail;go_ret;exact⟨bd,br,be,bs,bc,bq,b3,ar.out,bg.out.trans ao.out,⟨AA,AA,AA⟩,.inl ⟨aq.out,rfl⟩⟩
      have cf:=LH (Zxs (top:=top) Z.out (by have:=bl.out;omega) T);have ar:=LH k5;have ao:=LH ae;have L1:=x.rest;have L2:=x.word;have L3:=x.posts;have dv:((n:Int)==0)=false:=by rw[AP];omega
      clear k5 ae x T;go_wp2_with fail;refine⟨⟨k+1,max top n,b3,bd,br,be,bs,bc,bq,by rw[show max (top:Int) (n:Int)=((max top n:Nat):Int) by omega],AF,AA,AA,AA,AA,AA,ar,LH (ap.out.trans ao.out),LH (by rw[aa.out,cf.out])⟩,?_⟩;simp[intOf];omega
end
section
open Go.Maps (Keyed IsMap Tidy)
open Go.Maps (Keyed IsMap Tidy)
variable {W0:World} {k:BkH} {h:GH} {G:Gr} {S':Nat->Prop} {w:World} {gR:Nat} {b:Nat->Bool} {u:Nat->Value} {X:World}
variable {P:Program} {w:World}
theorem Nk{a:Act}(D:o.guard=none)(s x:Operand)(t:TypeId)(F:o.op = .call { callee := .builtin .append,args:=#[s,x],argTypes:=#[t,t] })(base:Nat)(bytes:Nat)(L:P.underlying t=some (.slice 3))(hi:(P.info? 3).map (λi=>(i.zero,i.size,i.bytes))=some (some (.int .i64 0),1,bytes))(A:Option Addr)(n c:Nat)(xs:List Int)(J:a.eval s = .slice A n c)(G:M4 w base A n c xs)(y:Int)(M:a.eval x = .slice (some ⟨w,0,none⟩) 1 1)(q:n+1<=maxLen)(B:(n+1)*bytes<=140737488355328)(z:base<=w.heap.size)(h:∀d f w',M4 w' base d (n+1) f (xs++[y])->(w.alloc (.cells #[.int .i64 y] 3)).grownBy w' (Value.slice A n c).ownBlock->(∀b,(Value.slice d (n+1) f).ownBlock=some b->b<w.heap.size->(Value.slice A n c).ownBlock=some b)->
   wpList P ops Q rest (a.put o.dst (.slice d (n+1) f)) w'):wpList P ops Q (o::rest) a (w.alloc (.cells #[.int .i64 y] 3)):=by
 have g:=Zy w (.cells #[.int .i64 y] 3);have H:M4 (w.alloc (.cells #[.int .i64 y] 3)) base A n c xs:=G.off (S:=λ_=>False) (Off.of_below g) λ_ _ h=>h;have C:∀(j:Nat) (u:Value),(ints .i64 [y])[j]? = some u->(w.alloc (.cells #[.int .i64 y] 3)).cell? ((⟨w,0,none⟩:Addr).add j)=some u:=λj u k=>by
  rcases j with _ | j
  ·rw[show (⟨w,0,none⟩:Addr).add 0=⟨w,0,none⟩ from rfl,cell_of_row _ w _ _ _ _ (heap_alloc_new w _)];exact k
  cases k
 obtain⟨d,f,w',I,l,m,p⟩:=run_appendR (P:=P) base t o.type bytes L hi A n c xs H ⟨w,0,none⟩ 1 1 [y] rfl AC C q B (BC z g.size);refine wpList_plain D λK r=>?_;unfold Oper.wp execOp;simp only[F,resolve,invoke,builtin,Sem.run_bind,Sem.run_pure,Result.andThen_ok,List.map_toArray,CU,List.map_nil,J,M,I];exact r _ _ (h d f w' l m λb v E=>p b v (AJ E g.size))
end
section
variable {W0:World} {k:BkH} {h:GH} {G:Gr} {tk:Nat} {z:List Int} {S:Nat->Prop} {A:Option Addr} {c:Nat} {W:World}
theorem Cc.next{i:Int}{b o:Nat}(M:Cc W0 k h G tk (i::z) S (some ⟨b,o,none⟩) c W)(m:(if c=1 then some (⟨b,o,none⟩:Addr) else some ⟨b,o+1,none⟩)=a):
 Cc W0 k h G tk z S a (c-1) (W.setCell ⟨tk,1,none⟩ (.slice a z.length (c-1)))/\Zf W (W.setCell ⟨tk,1,none⟩ (.slice a z.length (c-1))):=by
 have g:=Off.of_set W tk 1 (.slice a z.length (c-1));have n:Qf W tk:=λo k z j=>by
  rw[M.box.cell o] at j;rcases o with _ | _ | o <;> cases j
 have f:Zf W (W.setCell ⟨tk,1,none⟩ (.slice a z.length (c-1))):=Zf.of_off g λq d=>by rw[d];exact n
 have l:=M.row.tail1;rw[m,show (i::z).length-1=z.length from rfl] at l;refine⟨⟨M.bk.move g f λq d=>?_,M.box.set 1 _,l.kept f,M.own,λq d=>AJ (M.lt q d) g.size,M.low⟩,f⟩;subst d;refine⟨M.own,M.low,λe=>?_,M.bk.not_map M.box⟩;have h1:=M.bk.box;rw[<-e] at h1;exact absurd (h1.same_ty M.box) AC
end
theorem UnT.next{G:Gr}(f:Xq G){a n r:Nat}{t u:List Nat}(g:UnT G a n r t)(h:UnT G a n (r+1) u):t≠u/\∃i c j d,t=i::c/\u=j::d/\i<=j/\i<G.rules.length/\j<G.rules.length:=by
 refine⟨?_,?_⟩
 ·rintro rfl;have:=(g.parse (z:=[]) (z':=[]) h rfl).2.1;omega
 obtain⟨i,x,q,c,o,E,A,C,rfl⟩:=g;obtain⟨j,y,p,d,b,s,l,D,rfl⟩:=h;refine⟨i,c,j,d,rfl,rfl,?_,(AN.1 o).1,(AN.1 b).1⟩;rcases BD j i with B | m
 ·exfalso;have h1:=l.lt f (InG.at f.fits b);have k:=Y3 (Zv G) b a n;rw[if_pos s] at k;have v:=Vf (Zv G) G.rules a n (show j+1<=i by omega);omega
 exact m
end Go.Proofs.YtggbjdmpjidhgaaGreatDoor
