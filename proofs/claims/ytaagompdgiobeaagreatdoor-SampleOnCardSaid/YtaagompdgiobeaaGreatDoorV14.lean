/- the reference's reading: a reader's small steps: kind, is, take. -/
import Derived.Test.YtaagompdgiobeaaGreatDoorV08
import Derived.Test.YtaagompdgiobeaaGreatDoorV09
import Derived.Test.YtaagompdgiobeaaGreatDoorV10
set_option linter.all false
set_option maxHeartbeats 1500000
set_option maxRecDepth 100000
namespace Go.Proofs.YtaagompdgiobeaaGreatDoor
open Go.RowKit Go.Proofs.Tryz
variable{a g:List Value}{Ar A:Option Addr}{L:ByteArray}{rs:List ByteArray}{k l m:List (List Nat)}{B:Nat}{n:Int}{w:World}
theorem Ca(p:Nat)(a b:Int)(t:Tk)(ts:List Tk)(w:World)(h:Wc w p (t::ts))(hi:isP a b (t::ts)=true):
 Calls prog 132 #[.pointer (some ⟨p,0,none⟩),.int .i64 a,.int .i64 b] w λe w'=>(∃x y,e = .returned (.agg #[.string t.2,.complex .f64 x y]))/\Wc w' p ts/\w.grownBy w' (some p):=by
 have H:=h.len;have B:=Zy w (.cells #[.string ⟨#[]⟩,.complex .f64 0 0] 124);have o:=LH (rd_is p a b (t::ts) _ (h.below B));rw[hi] at o;obtain⟨A,c,x,y,N,O,g,W,l,L,Y,Z,q3⟩:=h.parts;obtain⟨b,n,d,f,rfl,P,V,r0,r1,r2⟩:=g.head;have q:(t::ts).length=ts.length+1:=rfl;have I:=g.2.1;have T:=g.2.2.1;rw[q] at L H I;have z:=LH g;have v:=LH l;have X:∀(w:World) (a:Addr) (k:FloatKind) (x y:Nat) (m:Mode),(store a (.complex k x y) m).run prog w=stored prog w a (.complex k x y) m:=λw a k x y m=>run_store prog w a _ m rfl;have R:b≠p:=AA
 have U:=l.frozen 0;have fin:∀(S:Value) (j:Option Addr),S = .slice j ts.length (c-1)->Kq w p j ts.length (c-1) ts->
  Wc (((w.setCell ⟨p,0,none⟩ S).alloc (.cells #[.string t.2,.complex .f64 d f] 124)).alloc (.cells #[.int .i64 t.1,.string t.2,.complex .f64 d f] 181)) p ts /\
  w.grownBy (((w.setCell ⟨p,0,none⟩ S).alloc (.cells #[.string t.2,.complex .f64 d f] 124)).alloc (.cells #[.int .i64 t.1,.string t.2,.complex .f64 d f] 181)) (some p) /\
  Blk (((w.setCell ⟨p,0,none⟩ S).alloc (.cells #[.string t.2,.complex .f64 d f] 124)).alloc (.cells #[.int .i64 t.1,.string t.2,.complex .f64 d f] 181)) w 124 #[.string t.2,.complex .f64 d f]:=by
  intro S j C D;have u:w.grownBy (((w.setCell ⟨p,0,none⟩ S).alloc (.cells #[.string t.2,.complex .f64 d f] 124)).alloc (.cells #[.int .i64 t.1,.string t.2,.complex .f64 d f] 181)) (some p) :=
   Zc (Zd w p 0 S) (Xz _ (Zo (Zy _ _) _))
  have J:(w.setCell ⟨p,0,none⟩ S).heap.size=w.heap.size:=AE
  refine⟨⟨AA,j,c-1,x,y,N,O,?_,D.grown u (AJ _)⟩,u,?_⟩
  ·have:=((l.set 0 S).ext (Zy _ (.cells #[.string t.2,.complex .f64 d f] 124))).ext (Zy _ (.cells #[.int .i64 t.1,.string t.2,.complex .f64 d f] 181));rw[C] at this ⊢;exact this
  have:=(Blk.new (w.setCell ⟨p,0,none⟩ S) 124 #[.string t.2,.complex .f64 d f]).ext (Zy _ (.cells #[.int .i64 t.1,.string t.2,.complex .f64 d f] 181));rwa [J] at this
 have r:=g.tail;rw[q,Nat.add_sub_cancel] at r;have Fin:=LH fin
 have s:=LH r;have G:c=1\/(¬c=1):=Classical.em _;clear h g l hi q fin r z v;rcases G with rfl | E
 ·have F:=LH (Fin.out (.slice (some ⟨b,n,none⟩) ts.length 0) (some ⟨b,n,none⟩) rfl (by have:=s.out;rwa [if_pos rfl] at this));rw[show ts.length=0 by omega] at F;go_enter func132,ntmps132;go_wp2_with (go_at_call 185;(with_reducible refine o.out.mono ?_);rintro e M⟨rfl,rfl⟩);refine AW (AX (p:=6) AB _ _ w 124 #[.string t.2,.complex .f64 d f] (0,0) _ rfl F.out.2.2 underlying124 rfl AB) rfl ?_;exact⟨⟨_,_,rfl⟩,F.out.1,F.out.2.1⟩
 have F:=LH (Fin.out (.slice (some ⟨b,n+3,none⟩) ts.length (c-1)) (some ⟨b,n+3,none⟩) rfl (by have:=s.out;rwa [if_neg E] at this));go_enter func132,ntmps132;go_wp2_with (go_at_call 185;(with_reducible refine o.out.mono ?_);rintro e M⟨rfl,rfl⟩);refine AW (AX (p:=6) AB _ _ w 124 #[.string t.2,.complex .f64 d f] (0,0) _ rfl F.out.2.2 underlying124 rfl AB) rfl ?_;exact⟨⟨_,_,rfl⟩,F.out.1,F.out.2.1⟩
theorem rd_refs(p:Nat)(ts:List Tk)(w:World)(h:Wc w p ts):
 Calls prog 184 #[.pointer (some ⟨p,0,none⟩)] w λe w'=>∃A c cs,e = .returned (.slice A (Xa ts).1.length c) /\
  w'.ownsRow w.heap.size 124 2 (.slice A (Xa ts).1.length c) (Xa ts).1.length cs/\Gi cs (Xa ts).1/\Wc w' p (Xa ts).2/\w.grownBy w' (some p):=by
 have hl:=h.len;have L:=h.lt;have S:=LH h;have J:(prog.info? 124).map (λi=>(i.zero,i.size,i.bytes))=some (some (.agg #[.string ⟨#[]⟩,.complex .f64 0 0]),2,32):=AB
 have T:=LH J;clear h J;go_enter func184,ntmps184;go_wp2_with fail;go_loopw [3] (λo wr=>∃(d c:Nat) (A:Option Addr) (done:List ByteArray) (a:List Tk) (cs:List Value),o = .slice A d c/\d+a.length<=4000/\Hid (d=done.length)/\Hid (done++(Xa a).1=(Xa ts).1)/\Hid ((Xa a).2=(Xa ts).2) /\
  Hid (wr.ownsRow w.heap.size 124 2 (.slice A d c) d cs)/\Hid (Gi cs done)/\Hid (Wc wr p a)/\Hid (w.grownBy wr (some p))) (λ_ wr=>Zyp wr p)
 case atStart=>exact⟨0,0,none,[],ts,[],rfl,AA,LH rfl,LH rfl,LH rfl,LH (BN _ _ _ _),LH Gi.nil,S,LH (Jl _ _)⟩
 obtain⟨d,c,A,done,a,cs,rfl,H,B,n,q,C,z,g,l⟩:=hrel;have f:=LH (rd_is p 1 2 a wr g.out);rw[Ztj] at f;by_cases b:Fz (Qy a)=true
 case neg =>
  have r:Fz (Qy a)=false:=by simpa using b
  have k:Hid (done=(Xa ts).1/\a=(Xa ts).2):=LH (by
   have E:=n.out;have F:=q.out;rw[Zt2 r] at E F;exact⟨by simpa using E,F⟩)
  rw[r] at f;clear b r;go_wp2_with (go_at_call 185;(with_reducible refine f.out.mono ?_);rintro e v⟨rfl,rfl⟩);go_ret;have G:d=(Xa ts).1.length:=by rw[<-k.out.1];exact B.out
  refine⟨A,c,cs,by rw[<-G];rfl,?_,?_,?_,l.out⟩
  ·rw[<-G];exact C.out
  ·rw[<-k.out.1];exact z.out
  rw[<-k.out.2];exact g.out
 cases a with
 | nil=>cases b
 | cons t a =>
   have u:=Zw3 (t:=t) (ts:=a) b;have CT:=LH (Ca p 1 2 t a wr g.out (by rw[Ztj];exact b));have X:Hid ((done++[t.2])++(Xa a).1=(Xa ts).1):=LH (by rw[<-n.out,u];simp);have Y:Hid ((Xa a).2=(Xa ts).2):=LH (by rw[<-q.out,u]);have V:Hid (Zyp wr p=a.length+1):=LH (by rw[g.out.rem];rfl);have af:d+a.length+1<=4000:=by simp only[AY] at H;omega
   rw[b] at f;clear b u n q H;generalize t.2=s at *;go_wp2_with (first
    | (go_at_call 185;(with_reducible refine f.out.mono ?_);rintro e v⟨rfl,rfl⟩)
    | (go_at_call 132;(with_reducible refine CT.out.mono ?_);rintro e v⟨⟨x,y,rfl⟩,M,j⟩
       have U:=LH M;have P:=LH (Zc l.out j);have m:=LH (Qg C.out j L);have aa:w.heap.size<=v.heap.size:=BC l.out.size j.size;clear M j)
    | (at_builtin;refine Ye rfl _ _ 130 rfl w.heap.size 124 _ 2 32 underlying130 T.out AC AC A d c cs rfl m.out [.string s,.complex .f64 x y] rfl rfl (by simp[Value.oneCell']) AA AA aa ?_;intro N Z w4 ho I ha))
   have D:=LH (U.out.app I m.out L);have R:=LH (grown_app P.out I m.out (AJ _));have O:Hid (d+1=(done++[s]).length):=LH (by rw[AV,<-B.out];rfl);have W:Hid (Zyp w4 p=a.length):=LH D.out.rem;go_roundw
   case rel=>exact⟨d+1,Z,N,done++[s],a,_,rfl,AA,O,X,Y,LH ho,LH (z.out.snoc s x y),D,R⟩
   rw[V.out,W.out];omega
theorem Zyt.late{wr a:World}{p:Nat}{cr:Nat}{x y:Nat}{j:List Tk}{k:TypeId}(c:wr.drew.grownBy a (some p))(f:a.ownsRow wr.drew.heap.size k 2 (.slice Ar rs.length cr) rs.length g)(m:Gi g rs)(l:Wc a p j):
 Zyt wr (a.alloc (.cells #[.string L,.complex .f64 x y,.slice Ar rs.length cr,.string ⟨#[]⟩,.complex .f64 0 0] 132)) p a Ar cr L x y rs j:=by
 have d:=Zy a (.cells #[.string L,.complex .f64 x y,.slice Ar rs.length cr,.string ⟨#[]⟩,.complex .f64 0 0] 132);refine⟨c.size,Blk.new _ _ _,(own_rfs f m).below d,λb n h=>?_,l.below d,?_⟩
 ·have h1:wr.heap.size<=b/\b<a.heap.size:=f.lt b (by rw[h];rfl);exact⟨h1.1,AK h1.2 d.size⟩
 have h1:wr.grownBy a (some p):=⟨c.os,c.tape,c.output,c.size,c.block⟩;exact Zc h1 (Xz _ d)
theorem Zsd(p q:Nat)(ts:List Tk)(ps:List Prd)(rest:List Tk)(w:World)(h:Wc w p ts)(r:Fj q ts=some (ps,rest)):
 Calls prog 133 #[.pointer (some ⟨p,0,none⟩)] w λe w'=>∃A c cs,e = .returned (.slice A ps.length c) /\
  w'.ownsRow w 132 5 (.slice A ps.length c) ps.length cs/\Vu w' (λb=>w.heap.size<=b/\(Value.slice A ps.length c).ownBlock≠some b) cs ps/\Wc w' p rest/\w.grownBy w' (some p):=by
 have hp:=h.lt;have hl:=h.len;obtain⟨a,b,I,rfl,ha,hb,r⟩:∃a b I,ts=a::b::I/\a.1=1/\b.1=10/\L9 a.2 q I=some (ps,rest):=by
  cases ts with
  | nil=>cases r
  | cons a ts =>
    cases ts with
    | nil=>cases r
    | cons b ts =>
      have r:(if a.1=1/\b.1=10 then L9 a.2 q ts else none)=some (ps,rest):=r;by_cases ae:a.1=1/\b.1=10
      ·rw[if_pos ae] at r;exact⟨a,b,ts,rfl,ae.1,ae.2,r⟩
      rw[if_neg ae] at r;cases r
 have br:=LH (Ca p 1 1 a (b::I) w h (by simp[isP,ha]));have C2:=LH λ(W:World) (E:Wc W p (b::I))=>Ca p 10 10 b I W E (by simp[isP,hb]);have b0:=LH r;simp only[AY] at hl;have bj:(prog.info? 132).map (λi=>(i.zero,i.size,i.bytes))=some (some (.agg #[.string ⟨#[]⟩,.complex .f64 0 0,.slice none 0 0,.string ⟨#[]⟩,.complex .f64 0 0]),5,88):=AB
 have Hi:=LH bj;have c2:∀(w:World) (a:Addr) (k:FloatKind) (x y:Nat) (m:Mode),(store a (.complex k x y) m).run prog w=stored prog w a (.complex k x y) m:=λw a k x y m=>run_store prog w a _ m rfl;clear h r ha hb bj;generalize a.2=L at *;go_enter func133,ntmps133;go_wp2_with (go_at_call 132;(with_reducible refine br.out.mono ?_);rintro e f⟨⟨x,y,rfl⟩,G,l⟩);have bn:=G.below (Zy f (.cells #[.string L,.complex .f64 x y] 124));have bd:=Blk.new f 124 #[.string L,.complex .f64 x y];have ct:p<f.heap.size:=G.lt;have bg:f.grownBy (f.alloc (.cells #[.string L,.complex .f64 x y] 124)) (some p):=Xz _ (Zy _ _);have cv:=l.size;(with_reducible refine (C2.out _ bn).mono ?_);rintro e z⟨⟨x3,y3,rfl⟩,aw,ar⟩;have aq:=bd.grown ar (by intro e;injection e with e;omega);have a5:=LH (Zc l (Zc bg ar));have F:p<z.heap.size:=aw.lt;have cq:=aq.lt;have b2:=LH aw;generalize f.heap.size=g at *;clear G l bn bd bg ar aw;go_wp2_with fail;go_loopw [3] (λo wr=>∃(d c:Nat) (A:Option Addr) (done:List Prd) (t:List Tk) (cs:List Value),o = .slice A d c/\d+t.length<=4000/\Hid (d=done.length)/\Hid (∃q' az,L9 L q' t=some (az,rest)/\done++az=ps) /\
  Hid (wr.ownsRow z 132 5 (.slice A d c) d cs)/\Hid (Vu wr (λb=>z.heap.size<=b/\(Value.slice A d c).ownBlock≠some b) cs done)/\Hid (Wc wr p t)/\Hid (z.grownBy wr (some p))) (λ_ wr=>Zyp wr p)
 case atStart=>exact⟨0,0,none,[],I,[],rfl,AA,LH rfl,LH ⟨q,ps,b0.out,rfl⟩,LH (BN _ _ _ _),LH (Vu.nil _ _),b2,LH (Jl _ _)⟩
 obtain⟨d,c,A,done,t,cs,rfl,cp,Hd,Hq,Ho,Hc,Hr,Hg⟩:=hrel;obtain⟨q',az,bm,af⟩:=Hq.out;obtain⟨u,s,ay,bo⟩:=He bm;have bk:=Zvd t;rw[ay] at bk;simp only[AY] at bk;have R:=aq.grown Hg.out (by intro e;injection e with e;omega);have g0:wr.cell? ⟨g,0,none⟩=some (.string L):=by rw[R.cell];rfl
 have g1:wr.cell? ⟨g,1,none⟩=some (.complex .f64 x y):=by rw[R.cell];rfl
 have S:g<wr.heap.size:=R.lt;have Z:=LH λ(W:World) (E:Wc W p t)=>rd_refs p t W E;rw[ay] at Z;have C:=LH λ(k:Int) (W:World) (E:Wc W p (u::s))=>rd_is p k k (u::s) W E;obtain⟨A0,c0,x0,y0,da,dd,_,_,_,_,_,_,q3⟩:=Hr.out.parts;have b7:=LH bo;have bv:=LH R;have co:Hid ((Xa t).1.length=(Xa t).1.length):=rfl;clear bm bo ay R Hq;generalize (Xa t).1=rs at *;go_upto_region 5 with fail;go_cut [5] (λv wx=>∃B Ar cr,v = .pointer (some ⟨B,0,none⟩)/\Zyt wr wx p B Ar cr L x y rs (u::s))
 case first =>
  have b4:=LH (Hr.out.below (Zy wr (.cells #[.string ⟨#[]⟩,.complex .f64 0 0,.slice none 0 0,.string ⟨#[]⟩,.complex .f64 0 0] 132)).drew);have a0:=((Zy wr (.cells #[.string ⟨#[]⟩,.complex .f64 0 0,.slice none 0 0,.string ⟨#[]⟩,.complex .f64 0 0] 132)).drew.cell (p:=⟨g,0,none⟩) S).trans g0;have a1:=((Zy wr (.cells #[.string ⟨#[]⟩,.complex .f64 0 0,.slice none 0 0,.string ⟨#[]⟩,.complex .f64 0 0] 132)).drew.cell (p:=⟨g,1,none⟩) S).trans g1;have bi:g<(wr.alloc (.cells #[.string ⟨#[]⟩,.complex .f64 0 0,.slice none 0 0,.string ⟨#[]⟩,.complex .f64 0 0] 132)).drew.heap.size:=AK S (Zy wr _).size;have bh:g≠p:=AA
  have bf:∀W f:World,W.grownBy f (some p)->g<W.heap.size->W.cell? ⟨g,0,none⟩=some (.string L)->W.cell? ⟨g,1,none⟩=some (.complex .f64 x y)->f.cell? ⟨g,0,none⟩=some (.string L)/\f.cell? ⟨g,1,none⟩=some (.complex .f64 x y) :=
   λW f h1 h2 h3 h4=>⟨(Zrj h1 h2 bh).trans h3,(Zrj h1 h2 bh).trans h4⟩
  go_region_with (first
   | (go_at_call 184;refine (Z.out _ (by exact Hr.out)).mono ?_;rintro e f⟨Ar,cr,ck,rfl,au,ax,G,l⟩;obtain⟨f0,f1⟩:=bf _ _ l S g0 g1;have cd:g<f.heap.size:=AK S l.size)
   | (go_at_call 184;refine (Z.out _ (by exact b4.out)).mono ?_;rintro e f⟨Ar,cr,ck,rfl,au,ax,G,l⟩;obtain⟨f0,f1⟩:=bf _ _ l bi a0 a1
      have cd:g<f.heap.size:=AK bi l.size;have j:Blk f wr 132 #[.string ⟨#[]⟩,.complex .f64 0 0,.slice none 0 0,.string ⟨#[]⟩,.complex .f64 0 0]:=Blk.grown (Blk.drew (Blk.new wr _ _)) l (by intro e;injection e with e;omega);have v0:=j.frozen 0;have v1:=j.frozen 1;have v2:=j.frozen 2;have v3:=j.frozen 3;have v4:=j.frozen 4;have z0:f.cell? ⟨wr,0,none⟩=some (.string ⟨#[]⟩):=j.cell 0;have z1:f.cell? ⟨wr,1,none⟩=some (.complex .f64 0 0):=j.cell 1;have z2:f.cell? ⟨wr,2,none⟩=some (.slice none 0 0):=j.cell 2;have z3:f.cell? ⟨wr,3,none⟩=some (.string ⟨#[]⟩):=j.cell 3;have z4:f.cell? ⟨wr,4,none⟩=some (.complex .f64 0 0):=j.cell 4;have bu:=LH j;clear j))
  all_goals
   go_wp2_with fail;go_meet
   first
    | exact⟨_,Ar,cr,rfl,Zyt.late l au ax G⟩
    | exact⟨_,Ar,cr,rfl,Zyt.early AA l au ax G bu.out⟩
 obtain⟨B,Ar,cr,rfl,J⟩:=hcut;have M:=J.blk;have k0:wc.cell? ⟨B,0,none⟩=some (.string L):=M.cell 0;have k1:wc.cell? ⟨B,1,none⟩=some (.complex .f64 x y):=M.cell 1;have k2:wc.cell? ⟨B,2,none⟩=some (.slice Ar rs.length cr):=M.cell 2;have k3:wc.cell? ⟨B,3,none⟩=some (.string ⟨#[]⟩):=M.cell 3;have k4:wc.cell? ⟨B,4,none⟩=some (.complex .f64 0 0):=M.cell 4;have Y:=LH (C.out 8 wc J.rd);have HM:=LH J;have a7:=LH (Qg Ho.out J.gr F);have be:z.heap.size<=wc.heap.size:=BC Hg.out.size J.gr.size;have b5:Hid (s.length<Zyp wr p):=LH (by rw[Hr.out.rem];omega);have CT:=LH λ(k:Int) (W:World) (E:Wc W p (u::s)) (hk:u.1=k)=>Ca p k k u s W E (by simp[isP,hk]);have cg:d+1+s.length<=4000:=AA
 clear M J g0 g1 q3 Z aq bv;rcases b7.out with ⟨H,bl⟩ | ⟨H,rfl,rfl⟩
 ·rw[show isP 8 8 (u::s)=false by simp[isP,H]] at Y;have bx:=LH bl;have O:=LH H;clear bl H;go_wp2_with (first
   | (go_at_call 185;(with_reducible refine Y.out.mono ?_);rintro e f⟨rfl,rfl⟩)
   | (go_at_call 185;(with_reducible refine N.out.mono ?_);rintro e w5⟨rfl,rfl⟩)
   | (go_at_call 132;(with_reducible refine C5.out.mono ?_);rintro e w5⟨⟨x5,y5,rfl⟩,V,D⟩)
   | (at_builtin;refine Ye rfl _ _ 77 rfl z 132 _ 5 88 underlying77 Hi.out AC AC A d c cs rfl a7.out [.string L,.complex .f64 x y,.slice Ar rs.length cr,.string ⟨#[]⟩,.complex .f64 0 0] rfl rfl (by simp[Value.oneCell']) AA AA be ?_;intro A4 c4 X U T P
      have n:=Zs9 F Hg.out Ho.out Hc.out HM.out T P;have HP:=LH n.1;have HG:=LH n.2.1;have N:=LH (C.out 11 X n.2.2);rw[show isP 11 11 (u::s)=true by simp[isP,O.out]] at N;have C5:=LH (CT.out 11 X n.2.2 O.out);have an:=LH U;clear n U T P))
  have b6:Hid (Zyp w5 p<Zyp wr p):=LH (by rw[V.rem];exact b5.out);have bz:=LH (Qg an.out D F);have bt:=LH (HP.out.grown D F);have bs:=LH (Zc HG.out D);have b3:=LH V;have bw:Hid (d+1=(done++[(⟨L,rs,⟨#[]⟩⟩:Prd)]).length):=LH (by rw[AV,<-Hd.out];rfl);have b1:Hid (∃q' bp,L9 L q' s=some (bp,rest)/\(done++[⟨L,rs,⟨#[]⟩⟩])++bp=ps):=LH (by
   obtain⟨q2,m2,h1,h2⟩:=bx.out;exact⟨q2,m2,h1,by rw[<-af,h2];simp⟩)
  clear af V D;go_roundw
  case rel=>exact⟨d+1,c4,A4,_,s,_,rfl,cg,bw,b1,bz,bt,b3,bs⟩
  exact b6.out
 rw[show isP 8 8 (u::rest)=false by simp[isP,H]] at Y;have O:=LH H;clear H;go_wp2_with (first
  | (go_at_call 185;(with_reducible refine Y.out.mono ?_);rintro e f⟨rfl,rfl⟩)
  | (go_at_call 185;(with_reducible refine N.out.mono ?_);rintro e w5⟨rfl,rfl⟩)
  | (go_at_call 132;(with_reducible refine C5.out.mono ?_);rintro e w5⟨⟨x5,y5,rfl⟩,V,D⟩)
  | (at_builtin;refine Ye rfl _ _ 77 rfl z 132 _ 5 88 underlying77 Hi.out AC AC A d c cs rfl a7.out [.string L,.complex .f64 x y,.slice Ar rs.length cr,.string ⟨#[]⟩,.complex .f64 0 0] rfl rfl (by simp[Value.oneCell']) AA AA be ?_;intro A4 c4 X U T P
     have n:=Zs9 F Hg.out Ho.out Hc.out HM.out T P;have HP:=LH n.1;have HG:=LH n.2.1;have N:=LH (C.out 11 X n.2.2);rw[show isP 11 11 (u::rest)=false by simp[isP,O.out]] at N;have C5:=LH (CT.out 12 X n.2.2 O.out);have an:=LH U;clear n U T P))
 go_ret;have av:ps.length=d+1:=by rw[<-af,AV,<-Hd.out];rfl
 have a9:w.heap.size<=z.heap.size:=a5.out.size;refine⟨A4,c4,cs++[.string L,.complex .f64 x y,.slice Ar rs.length cr,.string ⟨#[]⟩,.complex .f64 0 0],by rw[av];rfl,?_,?_,V,Zc a5.out (Zc HG.out D)⟩
 ·rw[av];exact Zzw (Qg an.out D F) a9
 rw[av,<-af];exact (HP.out.grown D F).keep (AJ _) λk _ bb=>⟨rfl,BC a9 bb.1,bb.2⟩
theorem rd_Of(A:Option Addr)(n c q x y:Nat)(ts:List Tk)(ps:List Prd)(w:World)(h:Kq w w.heap.size A n c ts)(hl:n<=4000)(C:srcP q ts=some ps) :
 Calls Tryz.prog 70 #[.slice A n c,.complex .f64 x y] w λe w'=>∃A' c' cs,e = .returned (.tuple #[.agg #[.slice none 0 0,.slice A' ps.length c'],.complex .f64 0 0,.int .i64 0])/\w'.ownsRow w.heap.size 132 5 (.slice A' ps.length c') ps.length cs/\Vu w' (λb=>w.heap.size<=b) cs ps/\Below w.heap.size w w':=by
 obtain rfl:=h.1;obtain⟨m,B,l,aa,R,rfl,a8,am,b3,rfl⟩:∃m B l aa R,ts=m::B/\m.1=9/\Fj q B=some (l,aa)/\Ku q aa=some R/\ps=l++R:=by
  cases ts with
  | nil=>cases C
  | cons m G =>
    have C:(if m.1=9 then (match Fj q G with | none=>none | some (ps,r)=>(Ku q r).map (ps++·)) else none)=some ps:=C;split at C
    ·rename_i h9;split at C
     ·cases C
     rename_i p0 r0 U;rw[Option.map_eq_some_iff] at C;obtain⟨m2,h1,h2⟩:=C;exact⟨m,G,p0,r0,m2,rfl,h9,U,h1,h2.symm⟩
    cases C
 have d3:=h.2.1;have d4:=h.2.2.1;have fk:∀(w:World) (a:Addr) (k:FloatKind) (x y:Nat) (m:Mode),(store a (.complex k x y) m).run Tryz.prog w=stored Tryz.prog w a (.complex k x y) m:=λw a k x y m=>run_store Tryz.prog w a _ m rfl;have b5:(Tryz.prog.info? 132).map (λi=>(i.zero,i.size,i.bytes))=some (some (.agg #[.string ⟨#[]⟩,.complex .f64 0 0,.slice none 0 0,.string ⟨#[]⟩,.complex .f64 0 0]),5,88):=by kernel_rfl
 have Hi:=LH b5;have CD:=LH λ(W:World) (p:Nat) (E:Wc W p (m::B))=>rd_decls p (m::B) W E a8;have CT:=LH λ(W:World) (p:Nat) (E:Wc W p (m::B))=>Ca p 9 9 m B W E (by simp[isP,a8]);have CG:=LH λ(W:World) (p:Nat) (E:Wc W p B)=>Zsd p q B l aa W E am;have H:=LH h;have dy:=LH am;have c7:=LH b3;have fd:=Zxb am;have d9:B.length+1<=4000:=hl;clear h a8 am b3 C b5;generalize hN:(m::B).length=N at *;go_enter Tryz.func70,Tryz.ntmps70;go_wp2_with fail;have a0:=Zo (Zy w (.cells #[.slice none 0 0,.slice none 0 0] 79)) (.cells #[.slice A N c,.complex .f64 x y,.complex .f64 0 0,.int .i64 0] 186);have cf:(w.alloc (.cells #[.slice none 0 0,.slice none 0 0] 79)).heap.size=w.heap.size+1:=Zl _ _;have a3:=Blk.new (w.alloc (.cells #[.slice none 0 0,.slice none 0 0] 79)) 186 #[.slice A N c,.complex .f64 x y,.complex .f64 0 0,.int .i64 0];have br:Blk (w.alloc (.cells #[.slice none 0 0,.slice none 0 0] 79)) w.heap.size 79 #[.slice none 0 0,.slice none 0 0]:=Blk.new w _ _;have a4:=br.ext (Zy _ (.cells #[.slice A N c,.complex .f64 x y,.complex .f64 0 0,.int .i64 0] 186));rw[cf] at a3;have ao:Wc ((w.alloc (.cells #[.slice none 0 0,.slice none 0 0] 79)).alloc (.cells #[.slice A N c,.complex .f64 x y,.complex .f64 0 0,.int .i64 0] 186)) (w.heap.size+1) (m::B):=by
  have ht:=(H.out.wide (Nat.le_succ w.heap.size)).below a0;subst hN;exact⟨hl,A,c,x,y,0,0,a3,ht⟩
 generalize (w.alloc (.cells #[.slice none 0 0,.slice none 0 0] 79)).alloc (.cells #[.slice A N c,.complex .f64 x y,.complex .f64 0 0,.int .i64 0] 186)=J at *;generalize hp:w.heap.size+1=p at *;have fe:w.heap.size<p:=by omega
 clear a3 br cf hp;(with_reducible refine (CD.out _ _ ao).mono ?_);rintro e w1⟨rfl,rfl⟩;have a1:=Zo a0 (.cells #[.slice none 0 0,.slice none 0 0] 79);have Z:=ao.below (Zy J (.cells #[.slice none 0 0,.slice none 0 0] 79));have bw:=Blk.new J 79 #[.slice none 0 0,.slice none 0 0];have bs:=a4.ext (Zy J (.cells #[.slice none 0 0,.slice none 0 0] 79));have fc:=ao.lt;have d2:w.heap.size<J.heap.size:=a4.lt;go_wp2_with fail;generalize J.alloc (.cells #[.slice none 0 0,.slice none 0 0] 79)=W2 at *;generalize J.heap.size=f at *;clear ao a0 a4;(with_reducible refine (CT.out _ _ Z).mono ?_);rintro e W3⟨⟨x3,y3,rfl⟩,ba,an⟩;have a5:=bw.grown an (by intro e;injection e with e;omega);have bt:=bs.grown an (by intro e;injection e with e;omega);have a2:Below w.heap.size w W3:=a1.trans (Zn an a1.size (by omega));have b9:=ba.lt;have d7:=a5.lt;clear Z a1 bw bs an;go_wp2_with fail;(with_reducible refine (CG.out _ _ ba).mono ?_);rintro e j⟨z,c1,ax,rfl,Y,bm,cc,X⟩;have ak:=a5.grown X (by intro e;injection e with e;omega);have bu:=bt.grown X (by intro e;injection e with e;omega);have bk:Below w.heap.size w j:=a2.trans (Zn X a2.size (by omega));have v1:=ak.frozen 1;have z1:j.cell? ⟨f,1,none⟩=some (.slice none 0 0):=ak.cell 1;go_wp2_with fail;have cd:=cc.keep (w':=j.setCell ⟨f,1,none⟩ (.slice z l.length c1)) (by simp) λk h1 h2=>Below.heap_setCell j ⟨f,1,none⟩ _ k (show k≠f by omega);have b8:(j.setCell ⟨f,1,none⟩ (.slice z l.length c1)).ownsRow W3.heap.size 132 5 (.slice z l.length c1) l.length ax:=Yq Y λb hb _ _=>Below.heap_setCell j ⟨f,1,none⟩ _ b (show b≠f by omega);have bn:Vu (j.setCell ⟨f,1,none⟩ (.slice z l.length c1)) (λb=>W3.heap.size<=b/\(Value.slice z l.length c1).ownBlock≠some b) ax l:=bm.keep (by simp) λk O o=>⟨Below.heap_setCell j ⟨f,1,none⟩ _ k (show k≠f by omega),o⟩;have bx:=ak.set 1 (.slice z l.length c1);have bv:=bu.other f 1 (.slice z l.length c1) (by omega);have dt:W3.heap.size<=(j.setCell ⟨f,1,none⟩ (.slice z l.length c1)).heap.size:=by simpa using X.size
 have bl:=Zg bk f 1 (.slice z l.length c1) (by omega);generalize j.setCell ⟨f,1,none⟩ (.slice z l.length c1)=W5 at *;have db:=LH b8;have cr:=LH bn;have df:=LH cd;have co:=LH bl;have bz:Blk W5 f 79 #[.slice none 0 0,.slice z l.length c1]:=bx;have cz:=LH bz;have cx:=LH bv;clear b8 bn cd bl bx bv bz Y bm cc bk ak bu X v1 z1 ba a2 a5 bt;go_loopw [] (λwr=>∃(d c:Nat) (A:Option Addr) (done:List Prd) (G:List Tk) (cs:List Value),d+G.length<=4000/\W3.heap.size<=wr.heap.size/\Hid (d=done.length)/\Hid (∃q' P,Ku q' G=some P/\done++P=l++R) /\
  Hid (wr.ownsRow W3.heap.size 132 5 (.slice A d c) d cs)/\Hid (Vu wr (λb=>W3.heap.size<=b/\(Value.slice A d c).ownBlock≠some b) cs done)/\Hid (Wc wr p G)/\Hid (Below w.heap.size w wr) /\
  Hid (Blk wr f 79 #[.slice none 0 0,.slice A d c])/\Hid (Blk wr w.heap.size 79 #[.slice none 0 0,.slice none 0 0])) (λwr=>Zyp wr p)
 case atStart=>exact⟨l.length,c1,z,l,aa,ax,by omega,dt,LH rfl,LH ⟨q,R,c7.out,rfl⟩,db,cr,df,co,cz,cx⟩
 obtain⟨d,c,A,done,G,cs,d5,ce,Hd,Hq,Ho,Hc,Hr,HB,au,I⟩:=hrel;obtain⟨q',P,cb,al⟩:=Hq.out;obtain⟨A0,c0,x0,y0,fu,fx,_,_,_,r0,r1,r2,r3⟩:=Hr.out.parts;have k0:wr.cell? ⟨f,0,none⟩=some (.slice none 0 0):=au.out.cell 0;have k1:wr.cell? ⟨f,1,none⟩=some (.slice A d c):=au.out.cell 1;have m0:=I.out.frozen 0;have m1:=I.out.frozen 1;have j0:wr.cell? ⟨w.heap.size,0,none⟩=some (.slice none 0 0):=I.out.cell 0;have j1:wr.cell? ⟨w.heap.size,1,none⟩=some (.slice none 0 0):=I.out.cell 1;have d8:f≠w.heap.size:=by omega
 clear Hq;rcases groupsP_step cb with ⟨rfl,rfl⟩ | ⟨u,S,rfl,cg,q2,g,F,m2,U,b1,rfl⟩
 ·have fo:wr.cell? ⟨p,0,none⟩=some (.slice A0 0 c0):=r0;rw[List.append_nil] at al;clear r0;go_wp2_with fail;have hF:Blk ((wr.setCell ⟨w.heap.size,0,none⟩ (.slice none 0 0)).setCell ⟨w.heap.size,1,none⟩ (.slice A d c)) w.heap.size 79 #[.slice none 0 0,.slice A d c]:=(I.out.set 0 (.slice none 0 0)).set 1 (.slice A d c);have a6:wr.grownBy ((wr.setCell ⟨w.heap.size,0,none⟩ (.slice none 0 0)).setCell ⟨w.heap.size,1,none⟩ (.slice A d c)) (some w.heap.size):=Zc (Zd _ _ _ _) (Zd _ _ _ _);refine bodyPost_ret (Yu (p:=4) (u:=5) (v:=6) (by kernel_rfl) _ _ w.heap.size 79 #[.slice none 0 0,.slice A d c] (0,0) _ rfl hF Tryz.underlying79 rfl (by kernel_rfl)) rfl ?_;have bo:w.heap.size<W3.heap.size:=by omega
  rw[<-al,<-Hd.out];refine⟨A,c,cs,rfl,Zzw (Qg Ho.out a6 bo) (Nat.le_of_lt bo),Hc.out.keep a6.size λk O o=>⟨a6.block k O (by intro e;injection e with e;have:=o.1;omega),by have:=o.1;omega⟩,Zg (Zg HB.out _ _ _ (Nat.le_refl _)) _ _ _ (Nat.le_refl _)⟩
 have CK:=LH (Ztg p (u::S) wr Hr.out);have cn:=LH λ(W:World) (E:Wc W p (u::S))=>Zsd p q2 (u::S) g F W E U;have ca:=Zxb U;have dr:Hid (F.length<Zyp wr p):=LH (by rw[Hr.out.rem];omega);have ff:d+g.length+F.length<=4000:=by omega
 have e9:(u.1 != 9)=true:=by rw[bne_iff_ne];exact cg
 have fb:0<(u::S).length:=by simp
 have b6:Qy (u::S)=u.1:=rfl;rw[b6] at CK;have c8:=LH b1;have c5:=LH al;have dq:=ca.1;clear U b1 cg cb b6 al ca;generalize (u::S).length=nu at *;generalize u.1=uk at *;go_wp2_with (go_at_call 134;(with_reducible refine CK.out.mono ?_);rintro e w2⟨rfl,rfl⟩);go_region_law (first
  | (go_simp;go_at_call 133;refine (cn.out _ (by exact Hr.out)).mono ?_;rintro e w2⟨A2,c2,T,rfl,a9,aj,Z,L⟩
     have V:wr.grownBy w2 (some p):=⟨L.os,L.tape,L.output,L.size,L.block⟩;obtain⟨g2,rfl,d6,fa,b0⟩:=own_cells a9 dq;have b2:=au.out.grown V (by intro e;injection e with e;omega);have z1:w2.cell? ⟨f,1,none⟩=some (.slice A d c):=b2.cell 1;have ae:=LH (Qg Ho.out V b9);have ds:W3.heap.size<=w2.heap.size:=Nat.le_trans ce V.size;have dm:T.length=g.length*5:=aj.1;have dn:=LH (prdCs_one aj);have c3:=LH b0;have cq:=LH aj;have de:=LH Z;have cu:=LH b2;have ad:=LH V;have dz:=LH a9;clear b0 aj Z b2 V L a9)
  | (refine V5 rfl _ _ 77 rfl W3.heap.size 132 _ 5 88 Tryz.underlying77 Hi.out (by decide) (by decide) A d c cs (by simp[Act.eval,Act.put]) ae.out ⟨g2,0,none⟩ g.length c2 T dm (by simp[Act.eval,Act.put]) c3.out dn.out (by omega) (by omega) ds ?_;intro s t j Y a7 bp
     have b4:=cu.out.grown a7 (by intro e;have:=(ae.out.lt f e.symm).1;omega);have y1:j.cell? ⟨f,1,none⟩=some (.slice A d c):=b4.cell 1;have v1:=b4.frozen 1;have cv:=LH b4;have D:=LH a7;have be:=LH bp;have da:=LH Y;clear b4 a7 bp Y))
 all_goals
  have M:j.grownBy (j.setCell ⟨f,1,none⟩ (.slice s (d+g.length) t)) (some f):=Zd _ _ _ _;have ai:∀b,(Value.slice A d c).ownBlock=some b->W3.heap.size<=b/\b<wr.heap.size:=λb hb=>Ho.out.lt b hb;have s2:=ad.out.size;have s4:=D.out.size;have sX:=M.size;have ct:Hid (Vu (j.setCell ⟨f,1,none⟩ (.slice s (d+g.length) t)) (λb=>W3.heap.size<=b/\(Value.slice s (d+g.length) t).ownBlock≠some b) (cs++T) (done++g)):=LH (Vu.app
   (Hc.out.keep (by omega) λk O o=>⟨by rw[M.block k (by omega) (by intro e;injection e with e;have:=o.1;omega),D.out.block k (by omega) (λe=>o.2 e.symm),ad.out.block k O (by intro e;injection e with e;have:=o.1;omega)],o.1,λh3=>o.2 (be.out k h3 (by omega))⟩)
   (cq.out.keep (by omega) λk O o=>⟨by rw[M.block k (by omega) (by intro e;injection e with e;have:wr.heap.size<=k:=o.1;omega),D.out.block k (by omega) (λe=>by have:=ai k e.symm;have:wr.heap.size<=k:=o.1;omega)],Nat.le_trans ce o.1,λh3=>by have:=ai k (be.out k h3 (by omega));have:wr.heap.size<=k:=o.1;omega⟩))
  have dc:Hid ((j.setCell ⟨f,1,none⟩ (.slice s (d+g.length) t)).ownsRow W3.heap.size 132 5 (.slice s (d+g.length) t) (d+g.length) (cs++T)):=LH (Qg da.out M (by omega));have bi:Hid (Wc (j.setCell ⟨f,1,none⟩ (.slice s (d+g.length) t)) p F):=LH ((de.out.app D.out ae.out b9).keep sX λk h1 h2=>M.block k h2 (by intro e;injection e with e;omega));have cp:Hid (Below w.heap.size w (j.setCell ⟨f,1,none⟩ (.slice s (d+g.length) t))):=LH (Zg ((HB.out.trans (Zn ad.out HB.out.size (by omega))).trans ⟨D.out.os,D.out.tape,D.out.output,s4,λk O=>D.out.block k (by have:=HB.out.size;omega) (λe=>by have:=(ai k e.symm).1;omega)⟩) _ _ _ (by omega));have cw:Hid (Blk (j.setCell ⟨f,1,none⟩ (.slice s (d+g.length) t)) f 79 #[.slice none 0 0,.slice s (d+g.length) t]):=LH (cv.out.set 1 (.slice s (d+g.length) t));have cy:Hid (Blk (j.setCell ⟨f,1,none⟩ (.slice s (d+g.length) t)) w.heap.size 79 #[.slice none 0 0,.slice none 0 0]):=LH (((I.out.grown ad.out (by intro e;injection e with e;omega)).grown D.out (by intro e;have:=(ae.out.lt _ e.symm).1;omega)).other f 1 _ (by omega));have c6:Hid (d+g.length=(done++g).length):=LH (by rw[List.length_append,<-Hd.out]);have dd:Hid (∃q' P,Ku q' F=some P/\(done++g)++P=l++R):=LH ⟨q2,m2,c8.out,by rw[<-c5.out];simp⟩;have dg:Hid (Zyp (j.setCell ⟨f,1,none⟩ (.slice s (d+g.length) t)) p=F.length):=LH bi.out.rem;have du:W3.heap.size<=(j.setCell ⟨f,1,none⟩ (.slice s (d+g.length) t)).heap.size:=by omega
  clear ai M s2 s4 sX;go_wp2_with fail;go_roundw
  case rel=>exact⟨d+g.length,t,s,done++g,F,cs++T,by omega,du,c6,dd,dc,ct,bi,cp,cw,cy⟩
  rw[dg.out];exact dr.out
theorem wk_terminal(p:Nat)(h:GH)(G f:Gr)(i:Int)(s:ByteArray)(x y:Nat)(w:World)(k:Wk w p B h G)(O:Zzj G s=some (i,f)):
 Calls prog 187 #[.pointer (some ⟨p,0,none⟩),.agg #[.string s,.complex .f64 x y]] w λe w'=>e = .returned (.int .i64 i)/\∃F,Wk w' p B F f/\V6 w w' p h F:=by
 obtain⟨a1,n1,c1,a2,n2,c2,a3,n3,c3⟩:=h;obtain⟨P,l2,l3⟩:=k.lens;have N:=k.st;have a0:n1<=24:=k.b1;have I:=Zy w (.cells #[.string s,.complex .f64 x y] 124);have d:=Blk.new w 124 #[.string s,.complex .f64 x y];have m:=k.below I;have L:(prog.info? 140).map (λi=>(i.zero,i.size,i.bytes))=some (some (.agg #[.string ⟨#[]⟩,.int .i64 0,.int .i64 0]),3,32):=AB
 have X:=LH L;have n:=LH O;simp only[] at P l2 l3;clear O L k;go_enter func187,ntmps187;go_wp2_with fail;generalize ae:w.alloc (.cells #[.string s,.complex .f64 x y] 124)=c at *;have ay:w.heap.size<c.heap.size:=d.lt;obtain⟨hp,R,S,T,z3,z7,ar,v0,v1,v2⟩:=m.cells;have y0:c.cell? ⟨w,0,none⟩=some (.string s):=d.cell 0;have y1:c.cell? ⟨w,1,none⟩=some (.complex .f64 x y):=d.cell 1;simp only[] at R S T;have q:=λ(x:Ext c)=>C6 ⟨a1,n1,c1,a2,n2,c2,a3,n3,c3⟩ G s (bl c x) (m.grAt.below (Zr c x)) (by simp only[];omega);rw[N] at q;have CT:=LH q;have Y:=LH m;have W:=LH d;have bc:=Yt c;clear q m d ae N;refine Zs AB AB ?_;repeat (go_big_quiet_step ((go_at_call 114;with_reducible exact Ve (CT.out _))))
 refine BL ?_;rintro _⟨x,rfl⟩;have j:=Zr c x;generalize bl c x=a at *;have u:=Y.out.below j;have r:=W.out.ext j;have g:=LH u;have z:=LH (Zz I j);obtain⟨a5,u0,u1,u2,u3,u7,u10,a7,a8,a9⟩:=u.cells;have ba:a.cell? ⟨w,0,none⟩=some (.string s):=r.cell 0;have az:w.heap.size<a.heap.size:=r.lt;simp only[] at u0 u1 u2;clear u r bc CT y0 y1 R S T z3 z7 ar v0 v1 v2 j;by_cases H:0<=G.term s
 ·have E:Hid (i=G.term s/\f=G):=LH (by
   have:=n.out;unfold Zzj at this;rw[if_pos H] at this;simp only[BX,DN] at this;exact⟨this.1.symm,this.2.symm⟩)
  generalize G.term s=ti at *;go_wp2_with fail;go_ret;exact⟨by rw[E.out.1];rfl,_,by rw[E.out.2];exact g.out,V6.of_below z.out _ _⟩
 have ad:¬n1=24/\i=(n1:Int)/\f={ G with terms:=G.terms++[⟨s,0,0⟩] }:=by
  have:=n.out;unfold Zzj at this;rw[if_neg H] at this;split at this
  ·cases this
  rename_i v;simp only[BX,DN] at this;rw[P] at v this;exact⟨v,this.1.symm,this.2.symm⟩
 obtain⟨v,rfl,rfl⟩:=ad;have aw:((n1:Int)==24)=false:=by rw[AQ];omega
 generalize G.term s=ti at *;have Z:=LH (g.out.r1);clear n;go_wp2_with fail;have C:Hid ((a.drew.alloc (.cells #[.string s,.int .i64 0,.int .i64 0] 140)).ownsRow (p+1) 140 3 (.slice a1 n1 c1) n1 (V8 G.terms)):=M5 Z.out ((AL a a).drew.alloc (AJ _) _);have l:Below a a (a.drew.alloc (.cells #[.string s,.int .i64 0,.int .i64 0] 140)):=(AL a a).drew.alloc (AJ _) _;have V:=LH (g.out.blk.ext l);have A:=LH l;have ag:p+1<=(a.drew.alloc (.cells #[.string s,.int .i64 0,.int .i64 0] 140)).heap.size:=by have:=l.size;omega
 clear l;go_region_law (first
  | (refine V5 rfl _ _ 22 rfl (p+1) 140 _ 3 32 underlying22 X.out AC AC a1 n1 c1 (V8 G.terms) (by simp[Act.eval,Act.put]) (by exact C.out) ⟨a,0,none⟩ 1 1 [.string s,.int .i64 0,.int .i64 0] rfl (by simp[Act.eval,Act.put]) (by exact Qn a.drew [.string s,.int .i64 0,.int .i64 0] _) (by simp[Value.oneCell']) AA AA (by exact ag) ?_;intro U c4 w4 M t J
     have o:=V.out.grown t (by intro e;have:=(C.out.lt p e.symm).1;omega);have q0:w4.cell? ⟨p,0,none⟩=some (.slice a1 n1 c1):=o.cell 0;have f0:=o.frozen 0;have D:=LH (g.out.put1 ⟨s,0,0⟩ (by simp only[];omega) U c4 M (Zc (Xz _ A.out) t) (λb hb ah=>J b hb (AK ah A.out.size)));clear o M t J))
 all_goals
  go_wp2_with fail;go_ret;refine⟨by congr 2 <;> omega,_,D.out.1,(V6.of_below z.out p _).trans D.out.2⟩
theorem Zv1(p:Nat)(h:GH)(G d:Gr)(i:Int)(s:ByteArray)(R:Bool)(x y:Nat)(w:World)(k:Wk w p B h G)(O:Nl R G s=some (i,d)):
 Calls prog 137 #[.pointer (some ⟨p,0,none⟩),.agg #[.string s,.complex .f64 x y],.bool R] w λe w'=>e = .returned (.int .i64 i)/\∃J,Wk w' p B J d/\V6 w w' p h J:=by
 have ar:=Bu O;have I:=λ(W:World) (hW:Wk W p B h G) (o:Zzj G s=some (i,d))=>wk_terminal p h G d i s x y W hW o;obtain⟨a1,n1,c1,a2,n2,c2,a3,n3,c3⟩:=h;obtain⟨l1,P,l3⟩:=k.lens;have C:=k.st;have bb:n1<=24:=k.b1;have bd:n2<=16:=k.b2;have L:=Zy w (.cells #[.string s,.complex .f64 x y] 124);have l:=Blk.new w 124 #[.string s,.complex .f64 x y];have m:=k.below L;have Y:=LH I;simp only[] at l1 P l3;have N:=U9 (λt=>decide (t=s)) G.nons;have ba:-1<=G.non s/\G.non s<(n2:Int):=by rw[<-P];exact N
 clear k O I N;go_enter func137,ntmps137;go_wp2_with fail;generalize al:w.alloc (.cells #[.string s,.complex .f64 x y] 124)=b at *;have a8:w.heap.size<b.heap.size:=l.lt;obtain⟨hp,U,V,X,z3,z7,a0,v0,v1,v2⟩:=m.cells;have y0:b.cell? ⟨w,0,none⟩=some (.string s):=l.cell 0;simp only[] at U V X;have r:=λ(x:Ext b)=>Zu5 ⟨a1,n1,c1,a2,n2,c2,a3,n3,c3⟩ G s (bl b x) (m.grAt.below (Zr b x)) (by simp only[];omega);rw[C] at r;have E:=LH r;have ad:=LH m;have aa:=LH l;have af:=LH C;have bc:=Yt b;clear r m l al C;refine Zs AB AB ?_;repeat (go_big_quiet_step ((go_at_call 74;with_reducible exact Ve (E.out _))))
 refine BL ?_;rintro _⟨S,rfl⟩;have j:=Zr b S;generalize bl b S=a at *;have n:=ad.out.below j;have f:=aa.out.ext j;have H:=LH n;have ab:=LH f;have F:=LH (Zz L j);obtain⟨bf,u0,u1,u2,u3,u7,u10,bk,bm,bn⟩:=n.cells;have bp:a.cell? ⟨w,0,none⟩=some (.string s):=f.cell 0;have bq:a.cell? ⟨w,1,none⟩=some (.complex .f64 x y):=f.cell 1;have a9:w.heap.size<a.heap.size:=f.lt;simp only[] at u0 u1 u2;have u:=λ(x:Ext a)=>C6 ⟨a1,n1,c1,a2,n2,c2,a3,n3,c3⟩ G s (bl a x) (n.grAt.below (Zr a x)) (by simp only[];omega);rw[af.out] at u;have CT:=LH u;have q:=LH λ(x:Ext a)=>Gb s (bl a x);have bc2:=Yt a;clear n f bc E y0 U V X z3 z7 a0 v0 v1 v2 j u;rcases ar with ⟨an,rfl,rfl,rfl⟩ | ⟨an,o,aq⟩
 ·generalize ao:d.non s=D at *;have bg:IntKind.i64.wrap (-1-D)=-1-D:=Cc _ AA;go_wp2_with fail;go_ret;exact⟨by rw[ao];rfl,_,H.out,V6.of_below F.out _ _⟩
 have ag:=LH o;clear o;generalize G.non s=D at *;rcases aq with g | ⟨g,c⟩ | ⟨g,c,v⟩
 case' inr.inl=>generalize G.term s=ti at *
 case' inr.inr.inl =>
  rw[show G.term s=-1 by have z:=(U9 (λt=>decide (t.name=s)) G.terms).1;have h6:G.term s=Y8 (λt=>decide (t.name=s)) G.terms:=rfl;omega] at CT;clear g;have e2:H5 (Zh s)=true:=c;rw[c] at q
 case' inr.inr.inr =>
  rw[show G.term s=-1 by have z:=(U9 (λt=>decide (t.name=s)) G.terms).1;have h6:G.term s=Y8 (λt=>decide (t.name=s)) G.terms:=rfl;omega] at CT;clear g;have e2:(s.toList==[101,114,114,111,114])=true:=by rw[v,ByteArray.toList_eq];rfl
  rw[c] at q
 all_goals
  try have a6:=LH c
  try have a7:=LH v
  try clear c
  try clear v
  go_wp2_with fail;refine Zs AB AB ?_;repeat (go_big_quiet_step (first | (go_at_call 114;with_reducible exact Ve (CT.out _)) | (go_at_call 169;with_reducible exact Qo (q.out _))))
  refine BL ?_;rintro _⟨T,rfl⟩;have A:=Zr a T;have ae:=LH (H.out.below A);have M:=ab.out.ext A;generalize bl a T=W3 at *;have Z:=LH (Zz F.out A);have t0:W3.cell? ⟨w,0,none⟩=some (.string s):=M.cell 0;have t1:W3.cell? ⟨w,1,none⟩=some (.complex .f64 x y):=M.cell 1;go_wp2_with (go_at_call 187;(with_reducible refine (Y.out _ ae.out ag.out).mono ?_);rintro e w5⟨rfl,z,am,ap⟩);go_ret;exact⟨rfl,z,am,(V6.of_below Z.out _ _).trans ap⟩
theorem Zwr.late{W a:World}(b:Below W W a):Zwr W (a.alloc (.cells #[.int .i64 n,.slice none 0 0,.int .i64 (-1)] 60)) a n :=
 ⟨b.size,Blk.new _ _ _,Zo b _⟩
theorem wk_prod(p:Nat)(h:GH)(G G':Gr)(q:Prd)(Ar:Option Addr)(cr x y x' y':Nat)(w:World)(k:Wk w p B h G)(hB:B<=w.heap.size)(hR:∀w',Below p w w'->Rfs w' Ar q.right.length cr q.right)(hn:q.right.length<=4000)(F:prodP G q=some G'):
 Calls prog 73 #[.pointer (some ⟨p,0,none⟩),.agg #[.string q.left,.complex .f64 x y,.slice Ar q.right.length cr,.string q.prec,.complex .f64 x' y']] w λe w'=>e = .returned (.tuple #[])/\∃h',Wk w' p w'.heap.size h' G'/\V6 w w' p h h':=by
 have ff:=(hR w (AL _ _)).1;have gq:=(hR w (AL _ _)).2.1;have gr:=(hR w (AL _ _)).2.2.1;obtain⟨bt,qp,M,l,Y,qr,qG⟩:G.rules.length≠40/\q.prec=⟨#[]⟩/\∃M l Y,Ko G q.right [] (-1)=some (M,l,Y)/\G'={ M with rules:=M.rules++[⟨G.non q.left,l,Y⟩] }:=by
  unfold prodP at F;split at F
  ·cases F
  rename_i dw;split at F
  ·rename_i hp;split at F
   ·cases F
   rename_i M l pr hr;injection F with F;exact⟨dw,hp,M,l,pr,hr,F.symm⟩
  cases F
 obtain⟨a1,n1,c1,a2,n2,c2,a3,n3,c3⟩:=h;obtain⟨l1,l2,l3⟩:=k.lens;simp only[] at l1 l2 l3;have gx:n1<=24:=k.b1;have gy:n2<=16:=k.b2;have bp:=k.st;have bl:=U9 (λt=>decide (t=q.left)) G.nons;have g0:-1<=G.non q.left/\G.non q.left<(n2:Int):=by rw[<-l2];exact bl
 have av:=Zy w (.cells #[.string q.left,.complex .f64 x y,.slice Ar q.right.length cr,.string q.prec,.complex .f64 x' y'] 132);have ai:=Blk.new w 132 #[.string q.left,.complex .f64 x y,.slice Ar q.right.length cr,.string q.prec,.complex .f64 x' y'];have aj:=(k.mono hB).below av;have HR:=LH hR;have Hk:=LH k;have ge:=LH qr;have dp:=LH qG;have gj:((n3:Int)==40)=false:=by rw[AQ];rw[l3] at bt;omega
 have gz:n3<40:=by have:n3<=40:=k.b3;rw[l3] at bt;omega
 have d4:Hid (Ko G (q.right.drop 0) [] (-1)=some (M,l,Y)):=LH qr;rw[qp] at ai av aj ⊢;have ce:(prog.info? 3).map (λi=>(i.zero,i.size,i.bytes))=some (some (.int .i64 0),1,8):=AB
 have cd:(prog.info? 60).map (λi=>(i.zero,i.size,i.bytes))=some (some (.agg #[.int .i64 0,.slice none 0 0,.int .i64 0]),3,40):=AB
 have dh:=LH ce;have dg:=LH cd;have hc:∀(w:World) (a:Addr) (k:FloatKind) (x y:Nat) (m:Mode),(store a (.complex k x y) m).run prog w=stored prog w a (.complex k x y) m:=λw a k x y m=>run_store prog w a _ m rfl;clear k hR qr qG F bt qp ce cd bl ff;generalize hN:q.right.length=N at *;generalize q.left=L at *;go_enter func73,ntmps73;go_wp2_with fail;generalize d7:w.alloc (.cells #[.string L,.complex .f64 x y,.slice Ar N cr,.string ⟨#[]⟩,.complex .f64 x' y'] 132)=n at *;have gv:w.heap.size<n.heap.size:=ai.lt;obtain⟨hp,z0,z1,z2,z3,z7,f8,v0,v1,v2⟩:=aj.cells;have y0:n.cell? ⟨w.heap.size,0,none⟩=some (.string L):=ai.cell 0;simp only[] at z0 z1 z2;have T:=λ(W:World) (hW:Below n.heap.size n W)=>Zu5 ⟨a1,n1,c1,a2,n2,c2,a3,n3,c3⟩ G L W (aj.grAt.below hW) (by simp only[];omega);rw[bp] at T;have CN:=LH T;have bx:=LH aj;have dd:=LH ai;have c5:=LH av;generalize g1:G.non L=z at *;have bp:=LH bp;have gt:=LH l1;have gu:=LH l2;have fd:=LH l3;clear T aj ai d7 av l1 l2 l3;go_upto_region 1 with fail;go_cut [4] (λv wx=>∃c,v = .pointer (some ⟨c,0,none⟩)/\Zwr n wx c z)
 case first =>
  have hA:=LH ((AL n.heap.size n).drew);have dz:=LH ((Zy n (.cells #[.int .i64 0,.slice none 0 0,.int .i64 0] 60)).drew);go_region_with (first
   | (go_at_call 74;refine (CN.out _ (by exact hA.out)).mono ?_;rintro e Z⟨rfl,R⟩)
   | (go_at_call 74;refine (CN.out _ (by exact dz.out)).mono ?_;rintro e Z⟨rfl,R⟩
      have S:Blk Z n.heap.size 60 #[.int .i64 0,.slice none 0 0,.int .i64 0]:=Blk.ext (Blk.drew (Blk.new n _ _)) R;have r0:=S.frozen 0;have r1:=S.frozen 1;have r2:=S.frozen 2;have s0:Z.cell? ⟨n.heap.size,0,none⟩=some (.int .i64 0):=S.cell 0;have s1:Z.cell? ⟨n.heap.size,1,none⟩=some (.slice none 0 0):=S.cell 1;have s2:Z.cell? ⟨n.heap.size,2,none⟩=some (.int .i64 0):=S.cell 2;have db:=LH S;clear S))
  all_goals
   go_wp2_with fail;go_meet
   first
    | exact⟨_,rfl,Zwr.late (Zz ((AL n.heap.size n).drew) R)⟩
    | exact⟨_,rfl,Zwr.early R db.out⟩
 obtain⟨c,rfl,X⟩:=hcut;have bk:=bx.out.below X.bel;have bh:=dd.out.ext X.bel;have bf:=X.blk;have bl:=X.lo;have cp:¬J8 p ⟨a1,n1,c1,a2,n2,c2,a3,n3,c3⟩ c:=λhf=>by have:=bx.out.foot_lt hf;omega
 have co:¬J8 p ⟨a1,n1,c1,a2,n2,c2,a3,n3,c3⟩ w.heap.size:=λhf=>by have:=Hk.out.foot_lt hf;omega
 have ca:=V6.of_below (Zz c5.out X.bel) p ⟨a1,n1,c1,a2,n2,c2,a3,n3,c3⟩;have fa:c<wc.heap.size:=bf.lt;have d9:w.heap.size<wc.heap.size:=bh.lt;obtain⟨g2,cl,cm,cn,fs,ft,fr,_,_,_⟩:=bk.cells;simp only[] at cl cm cn;have dj:=LH bk;have de:=LH bh;have dc:=LH bf;have dl:=LH cp;have dk:=LH co;have c7:=LH ca;have g4:p<w.heap.size:=Hk.out.lt;clear bk bh bf cp co ca X z0 z1 z2 z3 z7 f8 v0 v1 v2 y0 CN;go_wp2_with fail;go_loopw [5] (λv wr=>∃(j:Nat) (r:GH) (P:Gr) (o:List Int) (pr:Int) (d:Option Addr) (f:Nat),v = .int .i64 (j:Int)/\j<=N/\wc.heap.size<=wr.heap.size/\Hid (Wk wr p w.heap.size r P)/\Hid (Ko P (q.right.drop j) o pr=some (M,l,Y))/\Hid (V6 w wr p ⟨a1,n1,c1,a2,n2,c2,a3,n3,c3⟩ r) /\
  Hid (Blk wr c 60 #[.int .i64 z,.slice d j f,.int .i64 pr])/\Hid (wr.ownsRow wc.heap.size 3 1 (.slice d j f) j (ints .i64 o))/\Hid (∀b,(Value.slice d j f).ownBlock=some b->¬J8 p r b)/\Hid (o.length=j)/\Hid (∀s∈o,-17<=s/\s<=24) /\
  Hid (P.rules=G.rules)/\Hid (¬J8 p r c)/\Hid (¬J8 p r w.heap.size)/\Hid (Blk wr w.heap.size 132 #[.string L,.complex .f64 x y,.slice Ar N cr,.string ⟨#[]⟩,.complex .f64 x' y'])) (λv _=>N-(intOf v).toNat)
 case atStart=>exact⟨0,_,G,[],-1,none,0,rfl,AS _,AJ _,dj,d4,c7,dc,LH (BN _ _ _ _),LH (λb A=>by cases A),LH rfl,LH (λs hs=>by cases hs),LH rfl,dl,dk,de⟩
 clear cl cm cn fs ft fr;obtain⟨j,r,P,o,pr,d,f,rfl,hj,ck,H,b7,HT,ae,Ho,a9,ad,bv,bc,b5,b0,ar⟩:=hrel;obtain⟨b1,b2,b3⟩:∃d1 d2 d3:Nat,r.n1=d1/\r.n2=d2/\r.n3=d3:=⟨_,_,_,rfl,rfl,rfl⟩;obtain⟨g3,t0,t1,t2,t3,t7,hv,f0,f1,f2⟩:=H.out.cells;have r0:wr.cell? ⟨c,0,none⟩=some (.int .i64 z):=ae.out.cell 0;have r1:wr.cell? ⟨c,1,none⟩=some (.slice d j f):=ae.out.cell 1;have r2:wr.cell? ⟨c,2,none⟩=some (.int .i64 pr):=ae.out.cell 2;have o2:wr.cell? ⟨w.heap.size,2,none⟩=some (.slice Ar N cr):=ar.out.cell 2;have o3:wr.cell? ⟨w.heap.size,3,none⟩=some (.string ⟨#[]⟩):=ar.out.cell 3;by_cases fb:j<N
 case neg =>
  have fc:j=N:=AA
  subst fc;have ax:M=P/\l=o/\Y=pr:=by
   have:=b7.out;rw[List.drop_eq_nil_of_le AA] at this;unfold Ko at this;injection this with this;simp only[DN] at this;exact⟨this.1.symm,this.2.1.symm,this.2.2.symm⟩
  have dq:Hid (G'={ P with rules:=P.rules++[⟨z,o,pr⟩] }):=LH (by rw[dp.out,ax.1,ax.2.1,ax.2.2]);obtain⟨gb,m1,g8,gc,m2,g9,a5,m3,br⟩:=r;obtain⟨cs,bd,cb⟩:=H.out.r3;have fg:m3<40:=by
   have h1:=H.out.lens.2.2;have r:=bc.out;have V:=fd.out;simp only[] at h1;rw[r] at h1;omega
  have gd:=LH cb;have c0:=LH bd;have b6:Hid ((wr.drew.alloc (.cells #[.int .i64 z,.slice d j f,.int .i64 pr] 60)).ownsRow (p+1) 60 3 (.slice a5 m3 br) m3 cs):=LH (M5 bd ((AL wr.heap.size wr).drew.alloc (AJ _) _));have aw:Below wr.heap.size wr (wr.drew.alloc (.cells #[.int .i64 z,.slice d j f,.int .i64 pr] 60)):=(AL wr.heap.size wr).drew.alloc (AJ _) _;have da:=LH (H.out.blk.ext aw);have bu:=LH aw;have fe:p+1<=(wr.drew.alloc (.cells #[.int .i64 z,.slice d j f,.int .i64 pr] 60)).heap.size:=by have:=aw.size;omega
  simp only[] at t0 t1 t2;clear aw bd cb ax;go_wp2_with fail;go_region_law (first
   | (refine V5 rfl _ _ 24 rfl (p+1) 60 _ 3 40 underlying24 dg.out AC AC a5 m3 br cs (by simp[Act.eval,Act.put]) (by exact b6.out) ⟨wr.heap.size,0,none⟩ 1 1 [.int .i64 z,.slice d j f,.int .i64 pr] rfl (by simp[Act.eval,Act.put]) (by exact Qn wr.drew [.int .i64 z,.slice d j f,.int .i64 pr] _) (by simp[Value.oneCell']) AA AA (by exact fe) ?_;intro C D J ho U ha
      have I:=da.out.grown U (by intro e;have:=(b6.out.lt p e.symm).1;omega);have i1:J.cell? ⟨p,2,none⟩=some (.slice a5 m3 br):=I.cell 2;have i2:=I.frozen 2;have bb:=LH (H.out.put3 wr.heap.size (BC (DT d9) ck) ⟨z,o,pr⟩ (λs hs=>by have:=bv.out s hs;unfold U3;omega) fg C D d f
       (by show Za .i64 wr d o.length f o;rw[ad.out];exact Yl Ho.out)
       (λb fu A=>by have h1:=Ho.out.lt b (by rw[A];rfl);exact⟨h1.2,a9.out b (by rw[A];rfl),h1.2,AA⟩)
       (λgi h1 _=>by rw[Cx h1 c0.out];show J.ownsRow _ _ _ _ _ (cs++[.int .i64 z,.slice d o.length f,.int .i64 pr]);rw[ad.out];exact ho)
       (Zc (Xz _ bu.out) U) (λb A az=>ha b A (AK az bu.out.size)))
      clear I ho U ha))
  all_goals
   go_wp2_with fail;(try simp only[Exit.inBlock,Exit.then]);refine bodyPost_end (results_none rfl _ _ _) rfl ?_;exact⟨rfl,_,by rw[dq.out];exact bb.out.1.mono bb.out.2.size,HT.out.trans bb.out.2⟩
 obtain⟨b,fu,s,xs,ys,rfl,A,Hs,q0,q1⟩:=(HR.out wr (HT.out.below Hk.out)).get fb;obtain⟨ch,h6,g,G3,bq,cj⟩:=rightsP_step b7.out Hs.out;have R:=Zy wr (.cells #[.string s,.complex .f64 xs ys] 124);have CS:=LH (Zv1 p r P G3 g s true xs ys _ (H.out.below R) bq);have T:=λw=>Zxg s w;rw[ch] at T;have CN:=LH T;have gn:((j:Int)==6)=false:=by rw[AQ];rw[ad.out] at h6;omega
 have ay:=Cm bq (by rw[H.out.lens.1];exact H.out.b1) (by rw[H.out.lens.2.1];exact H.out.b2);have bz:=LH ay;have dr:=LH cj;have O:=LH R;have fm:=ay.2.2.2.1;have fn:=ay.2.2.2.2;have fo:(0<=g/\(if 0<=g then g else pr)=g)\/(¬0<=g/\(if 0<=g then g else pr)=pr):=by
  by_cases h0:0<=g
  ·exact .inl ⟨h0,if_pos h0⟩
  exact .inr ⟨h0,if_neg h0⟩
 clear ch h6 bq cj T ay R;rcases fo with ⟨fl,bm⟩ | ⟨fl,bm⟩;all_goals
  have dn:=LH bm;clear bm;go_wp2_with (first
   | (go_at_call 113;(with_reducible refine (CN.out _).mono ?_);rintro e Z⟨rfl,rfl⟩)
   | (go_at_call 137;(with_reducible refine CS.out.mono ?_);rintro e w3⟨rfl,V,cf,ag⟩
      have be:=ag.blk (ae.out.ext O.out) b5.out;have i1:w3.cell? ⟨c,1,none⟩=some (.slice d j f):=be.cell 1;have fj:wr.heap.size<=w3.heap.size:=BC O.out.size ag.size;have fk:wc.heap.size<=w3.heap.size:=BC ck fj;have ba:Hid (w3.ownsRow wc.heap.size 3 1 (.slice d j f) j (ints .i64 o)):=LH (Wv Ho.out λb A az=>(ag.keep b (AK az O.out.size) (a9.out b A)).trans (O.out.block b az));have c9:=LH be;have di:=LH cf;have ab:=LH ag;clear be cf ag)
   | (at_builtin;refine Ye rfl _ _ 30 rfl wc.heap.size 3 _ 1 8 underlying30 dh.out AC AC d j f (ints .i64 o) rfl ba.out [.int .i64 g] rfl rfl (by simp[Value.oneCell']) AA AA AA ?_;intro C D J ho U ha
      have I:=c9.out.grown U (by intro e;have:=(ba.out.lt c e.symm).1;omega);have i2:J.cell? ⟨c,1,none⟩=some (.slice d j f):=I.cell 1;have i3:J.cell? ⟨c,2,none⟩=some (.int .i64 pr):=I.cell 2;have j1:=I.frozen 1;have j2:=I.frozen 2;have bw:=LH I;have dm:=LH ho;have df:=LH U;have c8:=LH ha;clear I ho U ha))
  have d5:=(HT.out.trans (V6.of_below O.out p r)).trans ab.out;have fh:∀b,(Value.slice d j f).ownBlock=some b->¬J8 p V b:=λb A=>ab.out.nf (AK (Ho.out.lt b A).2 O.out.size) (a9.out b A);have bj:¬J8 p V c:=ab.out.nf (AK ae.out.lt O.out.size) b5.out;have cc:¬J8 p V w.heap.size:=ab.out.nf (AK ar.out.lt O.out.size) b0.out;have d0:=ab.out.blk (ar.out.ext O.out) b0.out;have cg:∀w6,J.grownBy w6 (some c)->_:=λw6 d8=>right_more di.out d5 ba.out fh bj AA fa fk d0 dm.out df.out c8.out d8;have bn:=dr.out;rw[dn.out] at bn
  first
   | (have E:=cg _ (Zd J c 1 (.slice C (j+1) D))
      have bg:Blk (J.setCell ⟨c,1,none⟩ (.slice C (j+1) D)) c 60 #[.int .i64 z,.slice C (j+1) D,.int .i64 pr]:=bw.out.set 1 _;refine⟨⟨j+1,V,G3,o++[g],pr,C,D,AF,AA,AA,LH E.1,LH bn,LH E.2.1,LH bg,LH E.2.2.1,LH E.2.2.2.1,LH (by rw[AV,ad.out];rfl),LH ?_,LH (bz.out.2.1.trans bc.out),LH bj,LH cc,LH E.2.2.2.2.1⟩,?_⟩)
   | (have E:=cg _ (Zc (Zd J c 1 (.slice C (j+1) D)) (Zd _ c 2 (.int .i64 g)))
      have bg:Blk ((J.setCell ⟨c,1,none⟩ (.slice C (j+1) D)).setCell ⟨c,2,none⟩ (.int .i64 g)) c 60 #[.int .i64 z,.slice C (j+1) D,.int .i64 g]:=(bw.out.set 1 (.slice C (j+1) D)).set 2 (.int .i64 g);refine⟨⟨j+1,V,G3,o++[g],g,C,D,AF,AA,AA,LH E.1,LH bn,LH E.2.1,LH bg,LH E.2.2.1,LH E.2.2.2.1,LH (by rw[AV,ad.out];rfl),LH ?_,LH (bz.out.2.1.trans bc.out),LH bj,LH cc,LH E.2.2.2.2.1⟩,?_⟩)
  ·intro u hu;rcases DD.1 hu with hu | hu
   ·exact bv.out u hu
   rw[BP.1 hu];exact⟨fm,fn⟩
  simp[intOf];omega
theorem Zym(u:Option Addr)(n c1:Nat)(xs:List Nat)(v:Option Addr)(m c2:Nat)(P:List Nat)(w:World)(h1:Zq .u32 w u n c1 xs)(b:Zq .u32 w v m c2 P)(p:Lim xs)(q:Lim P):
 Calls prog 47 #[.slice u n c1,.slice v m c2] w (Quiet w (.int .i64 (Vq xs P))):=by
 have f:=h1.len;have g:=b.len;by_cases l:Zm xs=true
 case neg =>
  have M:Zm xs=false:=by simpa using l
  have a:Vq xs P=0:=by simp[Vq,M]
  rw[a];clear a l f g;go_enter func47,ntmps47;go_wp2_with (first
   | (go_at_call 42;(with_reducible refine (Zb _ _ _ _ _ h1).mono ?_);rintro e w'⟨rfl,rfl⟩)
   | (go_at_call 42;(with_reducible refine (Zb _ _ _ _ _ b).mono ?_);rintro e w'⟨rfl,rfl⟩))
  go_ret;exact⟨rfl,Uz.refl _⟩
 by_cases o:Zm P=true
 case neg =>
  have N:Zm P=false:=by simpa using o
  have a:Vq xs P=0:=by simp[Vq,N]
  rw[a];clear a o f g;go_enter func47,ntmps47;go_wp2_with (first
   | (go_at_call 42;(with_reducible refine (Zb _ _ _ _ _ h1).mono ?_);rintro e w'⟨rfl,rfl⟩)
   | (go_at_call 42;(with_reducible refine (Zb _ _ _ _ _ b).mono ?_);rintro e w'⟨rfl,rfl⟩))
  go_ret;exact⟨rfl,Uz.refl _⟩
 have Z:n<=32:=by simp[Zm] at l;omega
 have Y:m<=32:=by simp[Zm] at o;omega
 have c:Vq xs P=Vm (val xs) (val P):=by simp[Vq,l,o]
 by_cases B:n<m
 ·have h:=Qu xs P p q (X8 P o) AA;have a:Vq xs P=-1:=by rw[c];simp[Vm,h]
  rw[a];have J:(n:Int)<m:=AA
  clear a c h f g;go_enter func47,ntmps47;go_wp2_with (first
   | (go_at_call 42;(with_reducible refine (Zb _ _ _ _ _ h1).mono ?_);rintro e w'⟨rfl,rfl⟩)
   | (go_at_call 42;(with_reducible refine (Zb _ _ _ _ _ b).mono ?_);rintro e w'⟨rfl,rfl⟩)
   | (go_at_call 106;(with_reducible refine (Ztl _ _ _).mono ?_);rintro e w'⟨rfl,rfl⟩))
  go_ret;exact⟨rfl,Uz.refl _⟩
 by_cases I:m<n
 ·have h:=Qu P xs q p (X8 xs l) AA;have a:Vq xs P=1:=by rw[c];simp[Vm,h];omega
  rw[a];have J:¬(n:Int)<m:=AA
  have W:(m:Int)<n:=AA
  clear a c h f g;go_enter func47,ntmps47;go_wp2_with (first
   | (go_at_call 42;(with_reducible refine (Zb _ _ _ _ _ h1).mono ?_);rintro e w'⟨rfl,rfl⟩)
   | (go_at_call 42;(with_reducible refine (Zb _ _ _ _ _ b).mono ?_);rintro e w'⟨rfl,rfl⟩)
   | (go_at_call 106;(with_reducible refine (Ztl _ _ _).mono ?_);rintro e w'⟨rfl,rfl⟩))
  go_ret;exact⟨rfl,Uz.refl _⟩
 obtain rfl:n=m:=AA
 have G:=LH f;have H:=LH g;have E:=LH c;clear f g c B I;go_enter func47,ntmps47;go_wp2_with (first
  | (go_at_call 42;(with_reducible refine (Zb _ _ _ _ _ h1).mono ?_);rintro e w'⟨rfl,rfl⟩)
  | (go_at_call 42;(with_reducible refine (Zb _ _ _ _ _ b).mono ?_);rintro e w'⟨rfl,rfl⟩)
  | (go_at_call 106;(with_reducible refine (Ztl _ _ _).mono ?_);rintro e w'⟨rfl,rfl⟩))
 go_loopw [6] (λi wr=>∃k:Nat,k<=n/\i = .int .i64 ((k:Int)-1)/\Vq xs P=Vm (val (xs.take k)) (val (P.take k))/\Uz w wr) (λi _=>(intOf i+1).toNat)
 case atStart=>exact⟨n,AJ _,rfl,by rw[E.out,AR (by rw[G.out];omega),AR (by rw[H.out];omega)],Uz.refl _⟩
 obtain⟨k,X,rfl,hrel,d⟩:=hrel;have z:=LH hrel;clear hrel;by_cases B:0<k
 ·obtain⟨O,o1,x,rfl,S,Hx,U⟩:=(h1.same d).get (j:=k-1) AA;obtain⟨R,o2,y,rfl,T,A,V⟩:=(b.same d).get (j:=k-1) AA;have aa:=p.of_get Hx.out;have ab:=q.of_get A.out;have s:=Zzx xs P p q (k-1);rw[show k-1+1=k from by omega,<-z.out,Yn Hx.out,Yn A.out] at s;have r:=LH s;clear s;have i0:(0:Int)<=(k:Int)-1:=AA
  have i1:(k:Int)-1<(n:Int):=AA
  have i2:((k:Int)-1).toNat=k-1:=AA
  by_cases t:x<y
  ·have C:(x:Int)<(y:Int):=AA
   go_wp2;go_quiet ((go_at_call 107;exact Lk (Zto _ _ _)))
   go_wp2;go_ret;rw[r.out,if_pos t];exact⟨rfl,d.drewN _⟩
  by_cases D:y<x
  ·have C:¬(x:Int)<(y:Int):=AA
   have L:(y:Int)<(x:Int):=AA
   go_wp2;go_quiet ((go_at_call 107;exact Lk (Zto _ _ _)))
   go_wp2;go_ret;rw[r.out,if_neg t,if_pos D];exact⟨rfl,d.drewN _⟩
  have C:¬(x:Int)<(y:Int):=AA
  have L:¬(y:Int)<(x:Int):=AA
  go_wp2;go_quiet ((go_at_call 107;exact Lk (Zto _ _ _)))
  go_wp2;go_roundw
  case rel=>exact⟨k-1,AA,AF,by rw[r.out,if_neg t,if_neg D],d.drewN _⟩
  simp[intOf];omega
 obtain rfl:k=0:=AA
 have a:Vq xs P=0:=by rw[z.out];simp[Vm,val]
 have F:=LH a;clear a;go_wp2;go_ret;rw[F.out];exact⟨rfl,d⟩
theorem Zqb(f:Option Addr)(n c1:Nat)(xs:List Nat)(w:World)(h1:Zq .u32 w f n c1 xs)(l:Lim xs):
 Calls prog 105 #[.slice f n c1] w λe w'=>e = .returned (.int .i64 (Zz9 xs:Int))/\w=w':=by
 obtain rfl:=h1.len;by_cases c:Zm xs=true
 case neg =>
  have s:Zm xs=false:=by simpa using c
  have b:Zz9 xs=0:=by simp[Zz9,s]
  rw[b];clear b c;go_enter func105,ntmps105;go_wp2_with (go_at_call 42;(with_reducible refine (Zb _ _ _ _ _ h1).mono ?_);rintro e w'⟨rfl,rfl⟩);go_ret;exact⟨rfl,rfl⟩
 rcases List.eq_nil_or_concat xs with rfl | ⟨a,z,rfl⟩
 ·have b:Zz9 []=0:=AC
  rw[b];clear b;simp only[DE] at h1 ⊢;go_enter func105,ntmps105;go_wp2_with (go_at_call 42;(with_reducible refine (Zb _ _ _ _ _ h1).mono ?_);rintro e w'⟨rfl,rfl⟩);go_ret;exact⟨rfl,rfl⟩
 rw[List.concat_eq_append] at *;have r:=X8 _ c a z rfl;have d:z<4294967296:=l z AE;have o:Lim a:=λy q=>l y (by simp[q]);have b:Zz9 (a++[z])=32*a.length+bitLen z:=by simp only[Zz9,c,if_true];exact Zql a z o r
 have m:=LH b;clear b;have h:(a++[z]).length=a.length+1:=AE
 obtain⟨t,C,x,rfl,u,Hx,A⟩:=h1.get (j:=a.length) AA;have p:x=z:=by have:=Hx.out;simp at this;omega
 subst p;have B:a.length+1<=32:=by simp[Zm] at c;omega
 rw[h] at h1 ⊢;have v:bitLen x<=32:=by
  rw[<-Bm x d];exact Lib.bitLenAux_le 64 x 32 d
 have k:=Bm x d;have g:=LH k;clear k h;go_enter func105,ntmps105;go_wp2_with (first
  | (go_at_call 42;(with_reducible refine (Zb _ _ _ _ _ h1).mono ?_);rintro e w'⟨rfl,rfl⟩)
  | (go_at_call 163;(with_reducible refine (bits_len32 _ _ AA AA).mono ?_);rintro e w'⟨rfl,rfl⟩))
 go_ret;rw[m.out];exact⟨Bo (by rw[Wq _ AA (by have:=g.out;omega),g.out];omega),rfl⟩
def V9(G:Gr)(n:Int)(a:List Nat)(c:List Nat)(b:Nat):Prop :=
 (badU G n a/\c=[]/\b=1) \/
 (¬badU G n a/\(Z2 G n).2≠0/\c=[]/\b=(Z2 G n).2) \/
 (¬badU G n a/\(Z2 G n).2=0/\val (Z2 G n).1<=val a/\c=[]/\b=11) \/
 (¬badU G n a/\(Z2 G n).2=0/\val a<val (Z2 G n).1/\∃t,UnT (Zi G) (Zi G).start.toNat n.toNat (val a) t /\
   ((300<t.length/\c=[]/\b=13)\/(t.length<=300/\c=t.map (Yr G)/\b=0)))
def Qp(G:Gr)(n:Int)(f:List Nat)(w:World)(e:Ending)(w':World):Prop:=Below w.heap.size w w' /\
 ∃(a:List Nat) (d:Nat) (b:Option Addr) (c:Nat),e = .returned (.tuple #[.slice b a.length c,.int .i64 (d:Int)])/\Za .i64 w' b a.length c (a.map λi:Nat=>(i:Int))/\V9 G n f a d
def WFC(a:World)(h:GH)(G:Gr)(At:Option Addr)(b j m:Nat):Prop:=∀(d:Nat) (g:List Nat) (l:List Int) (n r:Nat) (t:List Nat) (Al:Option Addr) (f:Nat) (Ar:Option Addr) (cr:Nat) (w:World),t.length<=m->UnL G l n r t->InG G l->Zx (Zv G) l n<big->l.length<=6->n<b->(∀s∈l,G.has s=true)->Za .i64 a Al l.length f l->Zq .u32 w Ar (limbs r).length cr (limbs r)->WkAt a h G At b j d g false w->
 Calls Tryz.prog 78 #[.pointer (some ⟨d,0,none⟩),.slice Al l.length f,.int .i64 (n:Int),.slice Ar (limbs r).length cr] w (WkRet a h G At b j d g t w)
def WTC(d:World)(h:GH)(G:Gr)(At:Option Addr)(a g m:Nat):Prop:=∀(b:Nat) (f:List Nat) (s:Int) (n r:Nat) (t:List Nat) (Ar:Option Addr) (cr:Nat) (w:World),t.length<=m->s<0->Zp s<G.nons.length->UnT G (Zp s) n r t->Zv G s n<big->n<a->Zq .u32 w Ar (limbs r).length cr (limbs r)->WkAt d h G At a g b f false w->
 Calls Tryz.prog 37 #[.pointer (some ⟨b,0,none⟩),.int .i64 (Zp s:Int),.int .i64 (n:Int),.slice Ar (limbs r).length cr] w (WkRet d h G At a g b f t w)
section
open Ieee
open Go.Maps (Keyed IsMap Tidy)
open Go.Maps (Keyed IsMap Tidy)
structure BkG (W0:World) (h:GH) (G:Gr):Prop where
 told:Zxy G
 at_:Yf W0 h G
 names:∀t∈G.terms,t.name.size<=maxLen
 tab:Q2 W0
 n1:h.n1<=100
 n2:h.n2<=100
 n3:h.n3<=100
end
section
open Go.RowKit Go.Shelf
attribute [local go_sem] Oper.semAt_some
open Go.RowKit Go.Shelf
open Go.RowKit Go.Shelf
attribute [local go_sem] Oper.semAt_some
def L3(G:Gr)(n:Int)(c b:List Nat)(k a:Nat):Prop :=
 ((Z2 G n).2≠0/\b=[]/\k=0/\a=(Z2 G n).2) \/
 ((Z2 G n).2=0/\(Z2 G n).1=[]/\b=[]/\k=0/\a=9) \/
 ((Z2 G n).2=0/\(Z2 G n).1≠[]/\(X5 (Z2 G n).1 c).2.2≠0/\b=[]/\k=0/\a=(X5 (Z2 G n).1 c).2.2) \/
 ((Z2 G n).2=0/\(Z2 G n).1≠[]/\(X5 (Z2 G n).1 c).2.2=0/\∃o e,V9 G n (X5 (Z2 G n).1 c).1 o e /\
   ((e≠0/\b=[]/\k=0/\a=e)\/(e=0/\b=o/\k=(X5 (Z2 G n).1 c).2.1/\a=0)))
def Zrm(G:Gr)(n:Int)(f:List Nat)(w:World)(e:Ending)(w':World):Prop:=Below w.heap.size w w' /\
 ∃(a:List Nat) (k d:Nat) (b:Option Addr) (c:Nat),e = .returned (.tuple #[.slice b a.length c,.int .i64 (k:Int),.int .i64 (d:Int)])/\Za .i64 w' b a.length c (a.map λi:Nat=>(i:Int))/\L3 G n f a k d
inductive SomGo (G:Gr) (n:Int) (ws:List Nat):Nat->List (List Nat)->Nat->Prop
 | nil:SomGo G n ws 0 [] 0
 | step {i:Nat} {l:List (List Nat)} {at_:Nat} {out:List Nat} {used:Nat}:SomGo G n ws i l at_->L3 G n (ws.drop at_) out used 0->SomGo G n ws (i+1) (l++[out]) (at_+used)
theorem SomGo.len{G:Gr}{c:List Nat}{i:Nat}{a:Nat}(h:SomGo G n c i l a):l.length=i:=by
 induction h with
 | nil=>rfl
 | step h1 d b=>rw[AV,b];rfl
def Zro(G:Gr)(n k:Int)(b:List Nat)(l:List (List Nat))(at_ a:Nat):Prop :=
 ((k<0\/500<k)/\l=[]/\at_=0/\a=1) \/
 (¬(k<0\/500<k)/\SomGo G n b k.toNat l at_/\a=0) \/
 (¬(k<0\/500<k)/\l=[]/\at_=0/\∃i d c f g,i<k.toNat/\SomGo G n b i d c/\L3 G n (b.drop c) f g a/\a≠0)
end
theorem Zrk.vals{n c:Nat}(h:Zrk w B A n c a m):∀u∈a,∀k x,u≠Value.int k x:=by
 intro u l k x d;subst d;obtain⟨j,b⟩:=BU l;have g:a.length=n:=by have:=h.own.1;simpa using this
 have f:j<n:=by rw[<-g];exact (AO.1 b).1
 obtain⟨o,p,h1,_⟩:=h.row j _ (AM (by rw[h.len];exact f));rw[b] at h1;cases h1
theorem Zrk.read{n c:Nat}(h:Zrk w B A n c g k):Zrn w A n c k:=by
 have a:=Yl h.own;have f:g.length=n:=by have:=h.own.1;simpa using this
 refine⟨h.len,a.2.1,a.2.2.1,λs=>?_⟩;obtain⟨b,t,e,p,q⟩:=a.2.2.2 (by rw[f];exact s);refine⟨b,t,e,p,λj xs d=>?_⟩;obtain⟨l,m,h1,o⟩:=h.row j xs d;have r:j<n:=by rw[<-h.len];exact (AO.1 d).1
 exact⟨l,m,by rw[q j (by rw[f];exact r)];exact h1,o⟩
def RetSom(G:Gr)(n k:Int)(d:List Nat)(w:World)(e:Ending)(w':World):Prop:=Below w.heap.size w w' /\
 ∃(l:List (List Nat)) (a b:Nat) (A:Option Addr) (c:Nat),e = .returned (.tuple #[.slice A l.length c,.int .i64 (a:Int),.int .i64 (b:Int)])/\Zrn w' A l.length c l/\Zro G n k d l a b
