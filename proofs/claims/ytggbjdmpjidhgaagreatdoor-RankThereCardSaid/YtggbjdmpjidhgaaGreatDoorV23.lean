/- the program's counter: forest, and how it is made: walked. -/
import Derived.Test.YtggbjdmpjidhgaaGreatDoorV17
import Derived.Test.YtggbjdmpjidhgaaGreatDoorV18
import Derived.Test.YtggbjdmpjidhgaaGreatDoorV20
set_option linter.all false
set_option maxHeartbeats 1500000
set_option maxRecDepth 100000
namespace Go.Proofs.YtggbjdmpjidhgaaGreatDoor
open Go.RowKit Go.Proofs.Tryz
variable{o:Oper}{k:IntKind}{h:GH}{S:Nat->Prop}{At A:Option Addr}{w':World}{B n c g i id fuel:Nat}{d xs:List Value}{tab:Nat->Nat->Nat}{f:List (List Nat)}{a:Act}{ts:List ((List Int × Nat) × Nat)}{l rest:List Oper}{F:(Nat->Value)->Act}{D:Nat->Value->World->Prop}{Q:Exit->Act->World->Prop}{J:Array Bool->Act->World->Prop}{ops:Array Oper}{v:Value}
theorem tr_forest1{o:World}{k:CH}{G:Gr}(s:Int)(d:List Int)(Al:Option Addr)(g m u v:Nat)(X:World)(C:Yo o k h G S X)(O:∀b,S b->b<X.heap.size)(H:Blk X u 78 #[.pointer (some ⟨k.c,0,none⟩)])(I:Blk X v 27 #[.slice Al (d.length+1) g])(ag:∀w:World,(Instr.sliceAt 27 (.slice Al (d.length+1) g) (some (.int .i64 1)) none none).run prog w = .ok (.slice At d.length (g-1)) w)(M:ForC o k h G At d.length (g-1) d m):
 Calls prog 93 #[.int .i64 (m:Int),.pointer (some ⟨u,0,none⟩),.pointer (some ⟨v,0,none⟩)] X (CRet o k h G S X (Zx (Zv G) d m)):=by
 have j:=Zy X (.cells #[.slice none 0 0,.bool false] 77);have R:=Blk.new X 77 #[.slice none 0 0,.bool false];have J:=C.more j (AI X);have N:Off k.maps X (X.alloc (.cells #[.slice none 0 0,.bool false] 77)):=Off.of_below j;have r:=H.ext j;have t:=I.ext j;have ae:=C.base.size;have P:∀b,(S b\/b=X.heap.size)->b<(X.alloc (.cells #[.slice none 0 0,.bool false] 77)).heap.size:=λb l=>by
  rw[Zl];rcases l with l | rfl
  ·exact Nat.lt_succ_of_lt (O b l)
  exact Em _
 go_enter func93,ntmps93;go_upto_region 1 with fail;generalize X.alloc (.cells #[.slice none 0 0,.bool false] 77)=f at *;have z:=LH J;have D:=LH R;have B:=LH N;have aa:=LH P;have Y:=LH M;have l2:=r.lt;have l3:=t.lt;have p0:f.cell? ⟨u,0,none⟩=some (.pointer (some ⟨k.c,0,none⟩)):=r.cell 0;have t0:f.cell? ⟨v,0,none⟩=some (.slice Al (d.length+1) g):=t.cell 0;clear C H I r t J R N j M O P;have bc:=Yt f;refine Yx 4 AB AB ?_;simp only[List.take_succ_cons,List.take_zero,List.drop_succ_cons,Eg];repeat (go_big_quiet_step (fail))
 refine BK ?_;rintro _⟨y,rfl⟩;have n:=Zr f y;have A:=LH (z.out.below n);have Z:=LH (B.out.maps_trans (Off.of_below n));have E:=LH (D.out.ext n);have W:=LH (Y.out _ _ A.out λb l=>AJ (aa.out b l) n.size);clear ag bc n p0 t0 l2 l3 z B D;generalize bl f y=W2 at *;go_wp2_with (
  go_at_call 50;(with_reducible refine W.out.mono ?_);rintro e U⟨L,x,V,n2,c2,d2,rfl,T⟩;have a:=x.blk E.out (A.out.not_map E.out);have F:=LH (Uw (S':=S) L a T (Z.out.maps_trans x) (.inr rfl) ae (AI _) λq hq => .inl hq);have c0:U.cell? ⟨X,0,none⟩=some (.slice none 0 0):=a.cell 0;have c1:U.cell? ⟨X,1,none⟩=some (.bool false):=a.cell 1;have f0:=a.frozen 0;have f1:=a.frozen 1;have l4:=a.lt;clear L x T a)
 refine AV (By (p:=4) AB _ _ X 77 #[.slice V n2 c2,.bool d2] (0,0) _ rfl F.out.1 underlying77 rfl AB) rfl ?_;exact F.out.2
theorem tr_start(h:GH)(G:Gr)(w:World)(hg:Yf w h G)(hs:∀t∈G.terms,t.name.size<=maxLen)(h1:h.n1<=100)(z:h.n2<=100)(h3:h.n3<=100)(hr:G.right=true):
 Calls prog 49 #[GV h G.start] w (RetStart h G w):=by
 obtain⟨a1,n1,c1,a2,n2,c2,a3,n3,c3⟩:=h;simp only[] at h1 z h3;have Hg:=LH hg;have Hs:=LH hs;have aq:=Zy w (.cells #[.slice a1 n1 c1,.slice a2 n2 c2,.slice a3 n3 c3,.int .i64 G.start] 26);have av:=Y1.new w 26 ⟨a1,n1,c1,a2,n2,c2,a3,n3,c3⟩ G.start;clear hg hs;go_enter func49,ntmps49;go_upto_region 1 with fail;generalize w.alloc (.cells #[.slice a1 n1 c1,.slice a2 n2 c2,.slice a3 n3 c3,.int .i64 G.start] 26)=S at *;have⟨z5,z0,z1,z2,z3⟩:=av;simp only[] at z0 z1 z2 z3;have Z:=LH aq;have Hr:=LH hr;have b5:=@run_makeMap prog;clear av aq hr;refine H6 (λlisted a X=>∃bb0 bb1 bb2 bb3 u o l g:Bool,∃u3 u4 u5 u6 u7 u8 u9 u2:Value,listed=#[bb0,bb1,bb2,bb3,u,o,l,g]/\a=(⟨(GV ⟨a1,n1,c1,a2,n2,c2,a3,n3,c3⟩ G.start::Value.pointer (some ⟨w,0,none⟩)::u2::u3::u4::u5::u6::u7::u8::u9::[]).toArray,[]⟩:Act)/\(g=false->Below S S X)/\(g=true->∃k:CH,u2=Value.pointer (some ⟨k.c,0,none⟩)/\Below w w X/\Yo w k ⟨a1,n1,c1,a2,n2,c2,a3,n3,c3⟩ G (λ_=>False) X)/\(bb0=true->u3=Value.agg #[Value.slice a1 n1 c1,Value.slice a2 n2 c2,Value.slice a3 n3 c3,Value.int .i64 G.start])/\(bb1=true->u4=Value.agg #[Value.slice a1 n1 c1,Value.slice a2 n2 c2,Value.slice a3 n3 c3,Value.int .i64 G.start])/\(bb2=true->g=false->∃j,u5=Value.slice (some ⟨j,0,none⟩) n2 n2/\S.heap.size<=j/\Z8 X j (Zj G))/\(bb3=true->g=false->∃j,u6=Value.map (some j)/\S.heap.size<=j/\Vv prog 247 X j []/\(u=true->u6≠u7))/\(u=true->g=false->∃j,u7=Value.map (some j)/\S.heap.size<=j/\Vv prog 251 X j [])/\(o=true->g=false->∃T L M,u8=Value.agg #[Value.slice a1 n1 c1,Value.slice a2 n2 c2,Value.slice a3 n3 c3,Value.int .i64 G.start,Value.slice (some ⟨T,0,none⟩) n2 n2,Value.map (some L),Value.map (some M)]/\S.heap.size<=T/\S.heap.size<=L/\S.heap.size<=M/\Z8 X T (Zj G)/\Vv prog 247 X L []/\Vv prog 251 X M []/\L≠M)/\(l=true->g=false->∃k:CH,u9=Value.pointer (some ⟨k.c,0,none⟩)/\Blk X k.c 141 #[Value.slice a1 n1 c1,Value.slice a2 n2 c2,Value.slice a3 n3 c3,Value.int .i64 G.start,Value.slice (some ⟨k.n,0,none⟩) n2 n2,Value.map (some k.t),Value.map (some k.f)]/\Z8 X k.n (Zj G)/\Vv prog 247 X k.t []/\Vv prog 251 X k.f []/\k.t≠k.f/\S.heap.size<=k.t/\S.heap.size<=k.f)/\(bb2=true->bb1=true)/\(o=true->bb0=true/\bb2=true/\bb3=true/\u=true)/\(l=true->o=true)/\(g=true->l=true)) AB AB ?_ ?_ ?_
 ·exact⟨false,false,false,false,false,false,false,false,undef,undef,undef,undef,undef,undef,undef,(Value.pointer none),rfl,rfl,λ_=>(AK _ _).drew,nofun,nofun,nofun,nofun,nofun,nofun,nofun,nofun,nofun,nofun,nofun,nofun⟩
 ·refine Xc.cons rfl (λQ listed a X B s v KK C=>?_) ?_
  ·obtain⟨bb0,bb1,bb2,bb3,u,o,l,g,u3,u4,u5,u6,u7,u8,u9,u2,rfl,rfl,x,D,r⟩:=B;have b:=LH r;clear r;have b0:bb0=false:=s;have q:g=false:=by cases h:g with | false=>rfl | true=>exact absurd (((b.out.2.2.2.2.2.2.2.2.1 ((b.out.2.2.2.2.2.2.2.2.2.1 ((b.out.2.2.2.2.2.2.2.2.2.2 h)))))).1) (by rw[b0];exact DE)
   have m:=x q;have bh:=(m.cell (p:=⟨w,0,none⟩) z5).trans z0;have bi:=(m.cell (p:=⟨w,1,none⟩) z5).trans z1;have bj:=(m.cell (p:=⟨w,2,none⟩) z5).trans z2;have bk:=(m.cell (p:=⟨w,3,none⟩) z5).trans z3;have bz:=AJ z5 m.size;clear s v;go_simp;obtain⟨F,H,I,J,E,U,V,P,y,R,O⟩:=b.out;exact C _ _ ⟨true,bb1,bb2,bb3,u,o,l,g,_,u4,u5,u6,u7,u8,u9,u2,rfl,rfl,x,D,λ_=>rfl,H,I,J,E,U,V,P,λh=>⟨rfl,(((y h)).2).1,((((y h)).2).2).1,((((y h)).2).2).2⟩,R,O⟩
  refine Xc.cons rfl (λQ listed a X B s v KK C=>?_) ?_
  ·obtain⟨bb0,bb1,bb2,bb3,u,o,l,g,u3,u4,u5,u6,u7,u8,u9,u2,rfl,rfl,x,D,r⟩:=B;have b:=LH r;clear r;have b1:bb1=false:=s;have q:g=false:=by cases h:g with | false=>rfl | true=>exact absurd ((b.out.2.2.2.2.2.2.2.1 ((((b.out.2.2.2.2.2.2.2.2.1 ((b.out.2.2.2.2.2.2.2.2.2.1 ((b.out.2.2.2.2.2.2.2.2.2.2 h)))))).2).1))) (by rw[b1];exact DE)
   have m:=x q;have bh:=(m.cell (p:=⟨w,0,none⟩) z5).trans z0;have bi:=(m.cell (p:=⟨w,1,none⟩) z5).trans z1;have bj:=(m.cell (p:=⟨w,2,none⟩) z5).trans z2;have bk:=(m.cell (p:=⟨w,3,none⟩) z5).trans z3;have bz:=AJ z5 m.size;clear s v;go_simp;obtain⟨F,H,I,J,E,U,V,P,y,R,O⟩:=b.out;exact C _ _ ⟨bb0,true,bb2,bb3,u,o,l,g,u3,_,u5,u6,u7,u8,u9,u2,rfl,rfl,x,D,F,λ_=>rfl,I,J,E,U,V,λh=>rfl,y,R,O⟩
  refine Xc.cons rfl (λQ listed a X B s v KK C=>?_) ?_
  ·obtain⟨bb0,bb1,bb2,bb3,u,o,l,g,u3,u4,u5,u6,u7,u8,u9,u2,rfl,rfl,x,D,r⟩:=B;have b:=LH r;clear r;have am:bb2=false:=s;have a6:bb1=true:=v ⟨1,.data⟩ AE rfl;have q:g=false:=by cases h:g with | false=>rfl | true=>exact absurd ((((b.out.2.2.2.2.2.2.2.2.1 ((b.out.2.2.2.2.2.2.2.2.2.1 ((b.out.2.2.2.2.2.2.2.2.2.2 h)))))).2).1) (by rw[am];exact DE)
   have m:=x q;obtain rfl:=b.out.2.1 a6;have Y:o=true->False:=λh=>absurd ((((b.out.2.2.2.2.2.2.2.2.1 h)).2).1) (by rw[am];exact DE);have W:l=true->False:=λh=>absurd ((((b.out.2.2.2.2.2.2.2.2.1 ((b.out.2.2.2.2.2.2.2.2.2.1 h)))).2).1) (by rw[am];exact DE);have br:=Hg.out.below (Zz Z.out m);clear s v;go_simp;(with_reducible refine (Zzh ⟨a1,n1,c1,a2,n2,c2,a3,n3,c3⟩ G X br Hs.out (by simp only[];omega) (by simp only[];omega) (by simp only[];omega)).mono ?_);rintro e w5⟨ai,⟨ay,_⟩ | ⟨_,gn,bs,rfl,bp⟩⟩
   ·rw[Hr.out] at ay;cases ay
   go_simp;obtain⟨F,H,I,J,E,U,V,P,y,R,O⟩:=b.out;exact C _ _ ⟨bb0,bb1,true,bb3,u,o,l,g,u3,_,_,u6,u7,u8,u9,u2,rfl,rfl,λ_=>Zz m ai,λh=>absurd h (by rw[q];exact DE),F,H,λ_ _=>⟨gn,rfl,BC m.size bs,bp⟩,λh1 z=>(J h1 z).elim λj d=>⟨j,d.1,d.2.1,d.2.2.1.below ai,d.2.2.2⟩,λh1 z=>(E h1 z).elim λj d=>⟨j,d.1,d.2.1,d.2.2.below ai⟩,λh=>(Y h).elim,λh=>(W h).elim,λ_=>a6,λh=>⟨((y h)).1,rfl,((((y h)).2).2).1,((((y h)).2).2).2⟩,R,O⟩
  refine Xc.cons rfl (λQ listed a X B s v KK C=>?_) ?_
  ·obtain⟨bb0,bb1,bb2,bb3,u,o,l,g,u3,u4,u5,u6,u7,u8,u9,u2,rfl,rfl,x,D,r⟩:=B;have b:=LH r;clear r;have an:bb3=false:=s;have q:g=false:=by cases h:g with | false=>rfl | true=>exact absurd (((((b.out.2.2.2.2.2.2.2.2.1 ((b.out.2.2.2.2.2.2.2.2.2.1 ((b.out.2.2.2.2.2.2.2.2.2.2 h)))))).2).2).1) (by rw[an];exact DE)
   have m:=x q;have Y:o=true->False:=λh=>absurd (((((b.out.2.2.2.2.2.2.2.2.1 h)).2).2).1) (by rw[an];exact DE);have W:l=true->False:=λh=>absurd (((((b.out.2.2.2.2.2.2.2.2.1 ((b.out.2.2.2.2.2.2.2.2.2.1 h)))).2).2).1) (by rw[an];exact DE);have A:=Zy X (.map #[] 0);have aj:=Vv.made X prog 247;clear s v;go_simp;obtain⟨F,H,I,J,E,U,V,P,y,R,O⟩:=b.out;exact C _ _ ⟨bb0,bb1,bb2,true,u,o,l,g,u3,u4,u5,_,u7,u8,u9,u2,rfl,rfl,λ_=>Zz m A,λh=>absurd h (by rw[q];exact DE),F,H,λh1 z=>(I h1 z).elim λj d=>⟨j,d.1,d.2.1,Blk.ext d.2.2 A⟩,λ_ _=>⟨X,rfl,m.size,aj,λh4 N=>(E h4 q).elim λj d=>by rw[d.1] at N;injection N with N;injection N with N;have:=d.2.2.lt;omega⟩,λh1 z=>(E h1 z).elim λj d=>⟨j,d.1,d.2.1,d.2.2.below A⟩,λh=>(Y h).elim,λh=>(W h).elim,P,λh=>⟨((y h)).1,(((y h)).2).1,rfl,((((y h)).2).2).2⟩,R,O⟩
  refine Xc.cons rfl (λQ listed a X B s v KK C=>?_) ?_
  ·obtain⟨bb0,bb1,bb2,bb3,u,o,l,g,u3,u4,u5,u6,u7,u8,u9,u2,rfl,rfl,x,D,r⟩:=B;have b:=LH r;clear r;have ao:u=false:=s;have q:g=false:=by cases h:g with | false=>rfl | true=>exact absurd (((((b.out.2.2.2.2.2.2.2.2.1 ((b.out.2.2.2.2.2.2.2.2.2.1 ((b.out.2.2.2.2.2.2.2.2.2.2 h)))))).2).2).2) (by rw[ao];exact DE)
   have m:=x q;have Y:o=true->False:=λh=>absurd (((((b.out.2.2.2.2.2.2.2.2.1 h)).2).2).2) (by rw[ao];exact DE);have W:l=true->False:=λh=>absurd (((((b.out.2.2.2.2.2.2.2.2.1 ((b.out.2.2.2.2.2.2.2.2.2.1 h)))).2).2).2) (by rw[ao];exact DE);have A:=Zy X (.map #[] 0);have aj:=Vv.made X prog 251;clear s v;go_simp;obtain⟨F,H,I,J,E,U,V,P,y,R,O⟩:=b.out;exact C _ _ ⟨bb0,bb1,bb2,bb3,true,o,l,g,u3,u4,u5,u6,_,u8,u9,u2,rfl,rfl,λ_=>Zz m A,λh=>absurd h (by rw[q];exact DE),F,H,λh1 z=>(I h1 z).elim λj d=>⟨j,d.1,d.2.1,Blk.ext d.2.2 A⟩,λh1 z=>(J h1 z).elim λj d=>⟨j,d.1,d.2.1,d.2.2.1.below A,λ_ N=>by rw[d.1] at N;injection N with N;injection N with N;have:=d.2.2.1.lt;omega⟩,λ_ _=>⟨X,rfl,m.size,aj⟩,λh=>(Y h).elim,λh=>(W h).elim,P,λh=>⟨((y h)).1,(((y h)).2).1,((((y h)).2).2).1,rfl⟩,R,O⟩
  refine Xc.cons rfl (λQ listed a X B s v KK C=>?_) ?_
  ·obtain⟨bb0,bb1,bb2,bb3,u,o,l,g,u3,u4,u5,u6,u7,u8,u9,u2,rfl,rfl,x,D,r⟩:=B;have b:=LH r;clear r;have a4:o=false:=s;have a5:bb0=true:=v ⟨0,.data⟩ AE rfl;have a7:bb2=true:=v ⟨2,.data⟩ AE rfl;have a8:bb3=true:=v ⟨3,.data⟩ AE rfl;have ap:u=true:=v ⟨4,.data⟩ AE rfl;have q:g=false:=by cases h:g with | false=>rfl | true=>exact absurd ((b.out.2.2.2.2.2.2.2.2.2.1 ((b.out.2.2.2.2.2.2.2.2.2.2 h)))) (by rw[a4];exact DE)
   have m:=x q;obtain rfl:=b.out.1 a5;obtain⟨T,rfl,ak,aa⟩:=b.out.2.2.1 a7 q;obtain⟨L,rfl,ab,ag,bx⟩:=b.out.2.2.2.1 a8 q;obtain⟨M,rfl,ad,ah⟩:=b.out.2.2.2.2.1 ap q;have W:l=true->False:=λh=>absurd ((b.out.2.2.2.2.2.2.2.2.2.1 h)) (by rw[a4];exact DE);clear s v;go_simp;obtain⟨F,H,I,J,E,U,V,P,y,R,O⟩:=b.out;exact C _ _ ⟨bb0,bb1,bb2,bb3,u,true,l,g,_,u4,_,_,_,_,u9,u2,rfl,rfl,x,D,F,H,I,J,E,λ_ _=>⟨T,L,M,rfl,ak,ab,ad,aa,ag,ah,λe=>bx ap (by rw[e])⟩,λh=>(W h).elim,P,λ_=>⟨a5,a7,a8,ap⟩,λh=>rfl,O⟩
  refine Xc.cons rfl (λQ listed a X B s v KK C=>?_) ?_
  ·obtain⟨bb0,bb1,bb2,bb3,u,o,l,g,u3,u4,u5,u6,u7,u8,u9,u2,rfl,rfl,x,D,r⟩:=B;have b:=LH r;clear r;have b2:l=false:=s;have a9:o=true:=v ⟨5,.data⟩ AE rfl;have q:g=false:=by cases h:g with | false=>rfl | true=>exact absurd ((b.out.2.2.2.2.2.2.2.2.2.2 h)) (by rw[b2];exact DE)
   have m:=x q;obtain⟨T,L,M,rfl,ak,ab,ad,aa,ag,ah,ax⟩:=b.out.2.2.2.2.2.1 a9 q;have A:=Zy X (.cells #[Value.slice a1 n1 c1,Value.slice a2 n2 c2,Value.slice a3 n3 c3,Value.int .i64 G.start,Value.slice (some ⟨T,0,none⟩) n2 n2,Value.map (some L),Value.map (some M)] 141);have bo:=Blk.new X 141 #[Value.slice a1 n1 c1,Value.slice a2 n2 c2,Value.slice a3 n3 c3,Value.int .i64 G.start,Value.slice (some ⟨T,0,none⟩) n2 n2,Value.map (some L),Value.map (some M)];clear s v;go_simp;obtain⟨F,H,I,J,E,U,V,P,y,R⟩:=b.out;exact C _ _ ⟨bb0,bb1,bb2,bb3,u,o,true,g,u3,u4,u5,u6,u7,_,_,u2,rfl,rfl,λ_=>Zz m A,λh=>absurd h (by rw[q];exact DE),F,H,λh1 z=>(I h1 z).elim λj d=>⟨j,d.1,d.2.1,Blk.ext d.2.2 A⟩,λh1 z=>(J h1 z).elim λj d=>⟨j,d.1,d.2.1,d.2.2.1.below A,d.2.2.2⟩,λh1 z=>(E h1 z).elim λj d=>⟨j,d.1,d.2.1,d.2.2.below A⟩,λ_ _=>⟨T,L,M,rfl,ak,ab,ad,Blk.ext aa A,ag.below A,ah.below A,ax⟩,λ_ _=>⟨⟨X,T,L,M⟩,rfl,bo,Blk.ext aa A,ag.below A,ah.below A,ax,ab,ad⟩,P,y,λ_=>a9,λh=>rfl⟩
  refine Xc.cons rfl (λQ listed a X B s v KK C=>?_) ?_
  ·obtain⟨bb0,bb1,bb2,bb3,u,o,l,g,u3,u4,u5,u6,u7,u8,u9,u2,rfl,rfl,x,D,r⟩:=B;have b:=LH r;clear r;have b3:g=false:=s;have ba:l=true:=v ⟨6,.data⟩ AE rfl;have q:g=false:=b3;have m:=x q;obtain⟨k,rfl,al,ae,af,bt,bu,bv,bw⟩:=b.out.2.2.2.2.2.2.1 ba q;have ar:=Zz Z.out m;have bb:=LH (And.intro ar (cnt_new (h:=⟨a1,n1,c1,a2,n2,c2,a3,n3,c3⟩) ar al ae af bt bu (BC Z.out.size bv) (BC Z.out.size bw)));clear s v;go_simp;exact C _ _ ⟨bb0,bb1,bb2,bb3,u,o,l,true,u3,u4,u5,u6,u7,u8,_,_,rfl,rfl,nofun,λ_=>⟨k,rfl,bb.out⟩,b.out.1,b.out.2.1,λ_=>nofun,λ_=>nofun,λ_=>nofun,λ_=>nofun,λ_=>nofun,b.out.2.2.2.2.2.2.2.1,b.out.2.2.2.2.2.2.2.2.1,b.out.2.2.2.2.2.2.2.2.2.1,λ_=>ba⟩
  exact Xc.nil
 rintro listed a W9⟨bb0,bb1,bb2,bb3,u,o,l,g,u3,u4,u5,u6,u7,u8,u9,u2,rfl,rfl,x,D,b⟩ au;have bq:=D (au 7 AC);clear x D au b;obtain⟨k,al,ae,af⟩:=bq;subst al;have bd:=LH ae;have be:=LH af;clear ae af;go_wp2_with fail;go_ret;exact⟨bd.out,k,rfl,be.out⟩
theorem Jc.below{w:World}{N:Nat}{d:List Nat}(h:Jc w B A n c N d tab)(b:Below w w w'):Jc w' B A n c N d tab :=
 ⟨B7 h.own b,λg a=>(h.noInt g a).same (b.block g (h.own.lt g a).2),h.nodup,λm g a=>⟨(h.row m g a).1,(h.row m g a).2.below b⟩⟩
theorem Zz5.below{w:World}(h:Zz5 w B A n c d f)(a:Below w w w'):Zz5 w' B A n c d f :=
 ⟨B7 h.own a,λg b=>(h.noInt g b).same (a.block g (h.own.lt g b).2),h.len,λj xs o=>by
   obtain⟨k,l,h1,m⟩:=h.row j xs o;exact⟨k,l,h1,m.below a⟩⟩
theorem NatsR.below{w:World}{g:List (List Nat)}(h:NatsR w A n c g)(a:Below w w w'):NatsR w' A n c g:=by
 refine⟨h.1,h.2.1,h.2.2.1,λq=>?_⟩;obtain⟨b,f,e,d,r⟩:=h.2.2.2 q;refine⟨b,f,e,AJ d a.size,λj xs o=>?_⟩;obtain⟨k,l,h1,m⟩:=r j xs o;exact⟨k,l,(a.cell (p:=⟨b,f+j,none⟩) d).trans h1,m.below a⟩
theorem Own.below{w:World}{t:TypeId}{a:List Nat}(h:Own w g t k a)(b:Below B w w')(c:g<B):Own w' g t k a:=(b.block g c).trans h
theorem Sl.same{w:World}(h:Sl w A n c xs)(a:Uz w w'):Sl w' A n c xs:=h.below (a.below _)
theorem Zym(u:Option Addr)(n c1:Nat)(xs:List Nat)(v:Option Addr)(m c2:Nat)(P:List Nat)(w:World)(h1:Zq .u32 w u n c1 xs)(b:Zq .u32 w v m c2 P)(p:Lim xs)(q:Lim P):
 Calls prog 76 #[.slice u n c1,.slice v m c2] w (Quiet w (.int .i64 (Vq xs P))):=by
 have f:=h1.len;have g:=b.len;by_cases l:Zm xs=true
 case neg =>
  have M:Zm xs=false:=by simpa using l
  have a:Vq xs P=0:=by simp[Vq,M]
  rw[a];clear a l f g;go_enter func76,ntmps76;go_wp2_with (first
   | (go_at_call 75;(with_reducible refine (Zb _ _ _ _ _ h1).mono ?_);rintro e w'⟨rfl,rfl⟩)
   | (go_at_call 75;(with_reducible refine (Zb _ _ _ _ _ b).mono ?_);rintro e w'⟨rfl,rfl⟩))
  go_ret;exact⟨rfl,Uz.refl _⟩
 by_cases o:Zm P=true
 case neg =>
  have N:Zm P=false:=by simpa using o
  have a:Vq xs P=0:=by simp[Vq,N]
  rw[a];clear a o f g;go_enter func76,ntmps76;go_wp2_with (first
   | (go_at_call 75;(with_reducible refine (Zb _ _ _ _ _ h1).mono ?_);rintro e w'⟨rfl,rfl⟩)
   | (go_at_call 75;(with_reducible refine (Zb _ _ _ _ _ b).mono ?_);rintro e w'⟨rfl,rfl⟩))
  go_ret;exact⟨rfl,Uz.refl _⟩
 have Z:n<=32:=by simp[Zm] at l;omega
 have Y:m<=32:=by simp[Zm] at o;omega
 have c:Vq xs P=Vm (val xs) (val P):=by simp[Vq,l,o]
 by_cases B:n<m
 ·have h:=Qu xs P p q (X8 P o) AA;have a:Vq xs P=-1:=by rw[c];simp[Vm,h]
  rw[a];have J:(n:Int)<m:=AA
  clear a c h f g;go_enter func76,ntmps76;go_wp2_with (first
   | (go_at_call 75;(with_reducible refine (Zb _ _ _ _ _ h1).mono ?_);rintro e w'⟨rfl,rfl⟩)
   | (go_at_call 75;(with_reducible refine (Zb _ _ _ _ _ b).mono ?_);rintro e w'⟨rfl,rfl⟩)
   | (go_at_call 127;(with_reducible refine (Ztl _ _ _).mono ?_);rintro e w'⟨rfl,rfl⟩))
  go_ret;exact⟨rfl,Uz.refl _⟩
 by_cases I:m<n
 ·have h:=Qu P xs q p (X8 xs l) AA;have a:Vq xs P=1:=by rw[c];simp[Vm,h];omega
  rw[a];have J:¬(n:Int)<m:=AA
  have W:(m:Int)<n:=AA
  clear a c h f g;go_enter func76,ntmps76;go_wp2_with (first
   | (go_at_call 75;(with_reducible refine (Zb _ _ _ _ _ h1).mono ?_);rintro e w'⟨rfl,rfl⟩)
   | (go_at_call 75;(with_reducible refine (Zb _ _ _ _ _ b).mono ?_);rintro e w'⟨rfl,rfl⟩)
   | (go_at_call 127;(with_reducible refine (Ztl _ _ _).mono ?_);rintro e w'⟨rfl,rfl⟩))
  go_ret;exact⟨rfl,Uz.refl _⟩
 obtain rfl:n=m:=AA
 have G:=LH f;have H:=LH g;have E:=LH c;clear f g c B I;go_enter func76,ntmps76;go_wp2_with (first
  | (go_at_call 75;(with_reducible refine (Zb _ _ _ _ _ h1).mono ?_);rintro e w'⟨rfl,rfl⟩)
  | (go_at_call 75;(with_reducible refine (Zb _ _ _ _ _ b).mono ?_);rintro e w'⟨rfl,rfl⟩)
  | (go_at_call 127;(with_reducible refine (Ztl _ _ _).mono ?_);rintro e w'⟨rfl,rfl⟩))
 go_loopw [6] (λi wr=>∃k:Nat,k<=n/\i = .int .i64 ((k:Int)-1)/\Vq xs P=Vm (val (xs.take k)) (val (P.take k))/\Uz w wr) (λi _=>(intOf i+1).toNat)
 case atStart=>exact⟨n,AI _,rfl,by rw[E.out,AQ (by rw[G.out];omega),AQ (by rw[H.out];omega)],Uz.refl _⟩
 obtain⟨k,X,rfl,hrel,d⟩:=hrel;have z:=LH hrel;clear hrel;by_cases B:0<k
 ·obtain⟨O,o1,x,rfl,S,Hx,U⟩:=(h1.same d).get (j:=k-1) AA;obtain⟨R,o2,y,rfl,T,A,V⟩:=(b.same d).get (j:=k-1) AA;have aa:=p.of_get Hx.out;have ab:=q.of_get A.out;have s:=Zzx xs P p q (k-1);rw[show k-1+1=k from by omega,<-z.out,Yn Hx.out,Yn A.out] at s;have r:=LH s;clear s;have i0:(0:Int)<=(k:Int)-1:=AA
  have i1:(k:Int)-1<(n:Int):=AA
  have i2:((k:Int)-1).toNat=k-1:=AA
  by_cases t:x<y
  ·have C:(x:Int)<(y:Int):=AA
   go_wp2;go_quiet ((go_at_call 128;exact Lk (Zto _ _ _)))
   go_wp2;go_ret;rw[r.out,if_pos t];exact⟨rfl,d.drewN _⟩
  by_cases D:y<x
  ·have C:¬(x:Int)<(y:Int):=AA
   have L:(y:Int)<(x:Int):=AA
   go_wp2;go_quiet ((go_at_call 128;exact Lk (Zto _ _ _)))
   go_wp2;go_ret;rw[r.out,if_neg t,if_pos D];exact⟨rfl,d.drewN _⟩
  have C:¬(x:Int)<(y:Int):=AA
  have L:¬(y:Int)<(x:Int):=AA
  go_wp2;go_quiet ((go_at_call 128;exact Lk (Zto _ _ _)))
  go_wp2;go_roundw
  case rel=>exact⟨k-1,AA,AF,by rw[r.out,if_neg t,if_neg D],d.drewN _⟩
  simp[intOf];omega
 obtain rfl:k=0:=AA
 have a:Vq xs P=0:=by rw[z.out];simp[Vm,val]
 have F:=LH a;clear a;go_wp2;go_ret;rw[F.out];exact⟨rfl,d⟩
section
open Go.Maps (Keyed IsMap Tidy)
theorem Gk.few{w:World}{G:Gr}(h:Gk w g G S ts):Maps.size (Np prog 223 (ts.map λp=>(kB p.1.1 p.1.2,p.2)))<maxLen:=by
 obtain⟨L,h1,j,r⟩:=F1 Tryz.keyKB _ h.map.good;have k:∀v∈L,∃p∈ts,v=kB p.1.1 p.1.2:=λv z=>by
  obtain⟨q,m,e⟩:=CW.1 (j v z);obtain⟨p,f,rfl⟩:=CW.1 m;exact⟨p,f,e.symm⟩
 have:=Gq codeB 100000000000000 h1 (λx o y A e=>by
  obtain⟨p,f,rfl⟩:=k x o;obtain⟨q,m,rfl⟩:=k y A;have a:=h.key p f;have b:=h.key q m;rw[Zx6 a.sym,Zx6 b.sym] at e;have B:=a.n;have C:=b.n;have s:Ds (Vr p.1.1)=Ds (Vr q.1.1):=AA
  have t:p.1.2=q.1.2:=AA
  have u:=Zwi a.sym b.sym (Zsb (λc d=>by have:=Dy a.sym c d;omega) (λc d=>by have:=Dy b.sym c d;omega) s);rw[u,t]) (λx o=>by
  obtain⟨p,f,rfl⟩:=k x o;have a:=h.key p f;rw[Zx6 a.sym];have h1:=encT_lt (l:=Vr p.1.1) λc d=>by have:=Dy a.sym c d;omega
  have j:(Vr p.1.1).length<=6:=by unfold Vr;rw[BF];exact a.len
  have r:64 ^ (Vr p.1.1).length<=64 ^ 6:=DD AA j;have D:=a.n;have E:64 ^ 6=68719476736:=AC
  omega)
 rw[r];unfold maxLen;omega
theorem Wd.below{c w:World}{k:BkH}{G:Gr}(C:Wd c k h G S w)(a:Below w w w'):Wd c k h G S w' :=
 C.move (P:=λ_=>False) (Off.of_below a) (.of_below a) λb a=>a.elim
theorem Wd.more{j w:World}{k:BkH}{G:Gr}(C:Wd j k h G S w)(c:Below w w w')(l:w.heap.size<=g):Wd j k h G (λb=>S b\/b=g) w':=by
 have f:=C.below c;refine⟨f.base,f.box,f.low,?_⟩;obtain⟨ts,a⟩:=C.known;refine⟨ts,a.map.below c,a.key,λp d=>⟨(a.val p d).1.kept (.of_below c) (c.block _ (a.val p d).1.lt),?_⟩⟩;rintro (h1 | h1)
 ·exact (a.val p d).2 h1
 have:=(a.val p d).1.lt;omega
theorem Wd.put{o w:World}{k:BkH}{G:Gr}(C:Wd o k h G S w)(j:Gk w k.t G S ts){l:List Int}(D:J1 l n)(m:Fx w g (Zx (Zv G) l n))(z:¬S g)(a:Vv prog 223 w' k.t ((kB l n,g)::ts.map λp=>(kB p.1.1 p.1.2,p.2)))(B:w.grownBy w' (some k.t)):Wd o k h G S w'/\Off k.map w w'/\Gk w' k.t G S (((l,n),g)::ts):=by
 have f:Off (λq=>some k.t=some q) w w':=Off.of_grown B;have E:Zf w w':=Zf.of_off f λq b=>by injection b with b;rw[<-b];exact j.map.noInt
 have u:∀{q:Nat} {t:TypeId} {cs:Array Value},Blk w q t cs->Blk w' q t cs:=λr=>f.blk r λe=>by injection e with e;exact j.map.ne_blk r e.symm
 have v:∀{q x:Nat},Fx w q x->Fx w' q x:=λ{q x} m=>by
  obtain⟨A,n,c,d,h1,y⟩:=m;exact⟨A,n,c,d,u h1,y.kept E⟩
 have s:Gk w' k.t G S (((l,n),g)::ts):=by
  refine⟨by simpa using a,λp a=>?_,λp a=>?_⟩
  ·rcases BW.1 a with e | a
   ·rw[e];exact D
   exact j.key p a
  rcases BW.1 a with e | a
  ·rw[e];exact⟨v m,z⟩
  exact⟨v (j.val p a).1,(j.val p a).2⟩
 exact⟨⟨C.base.trans (f.is_below C.base.size λq b=>by injection b with b;rw[<-b];exact C.low),u C.box,C.low,_,s⟩,⟨f.os,f.tape,f.output,f.size,λq b F=>f.keep q b λe=>F (by injection e with e;exact e.symm)⟩,s⟩
end
section
open Go.Maps (Keyed IsMap Tidy)
open Go.Maps (Keyed IsMap Tidy)
variable {P:Program} {Γ:Type} {R:World->World->Prop}
def Zw(P:Program)(l:List Oper)(M:Γ->(Nat->Bool)->(Nat->Value)->World->Prop)(R:World->World->Prop)(F:(Nat->Value)->Act)(D:Nat->Value->World->Prop):Nat->List Oper->Prop
 | _,[]=>True
 | i,o::rest=>(o.guard=none/\(∀u v,(F u).put o.dst v=F (upd u i v))/\∀(Q:Exit->Act->World->Prop) (g:Γ) (b:Nat->Bool) (u:Nat->Value) (X:World),ClosB l b->b i=false->M g b u X->(∀p,onB o p=true->b p=true/\D p (u p) X)->
    ∀K:Act->World->Prop,(∀v c a,R X a->M c (Mz b i) (upd u i v) a->D i v a->K ((F u).put o.dst v) a)->o.wp P (F u) X K Q)/\Zw P l M R F D (i+1) rest
theorem Zw.nil{M:Γ->(Nat->Bool)->(Nat->Value)->World->Prop}:Zw P l M R F D i []:=trivial
theorem Zw.cons{M:Γ->(Nat->Bool)->(Nat->Value)->World->Prop}(d:o.guard=none)(f:∀u v,(F u).put o.dst v=F (upd u i v))(h:∀(Q:Exit->Act->World->Prop) (g:Γ) (b:Nat->Bool) (u:Nat->Value) (X:World),ClosB l b->b i=false->M g b u X->(∀p,onB o p=true->b p=true/\D p (u p) X)->∀K:Act->World->Prop,(∀v c a,R X a->M c (Mz b i) (upd u i v) a->D i v a->K ((F u).put o.dst v) a)->o.wp P (F u) X K Q)(t:Zw P l M R F D (i+1) rest):Zw P l M R F D i (o::rest):=⟨⟨d,f,h⟩,t⟩
theorem Zw.steps{M:Γ->(Nat->Bool)->(Nat->Value)->World->Prop}(r:∀i v X f,D i v X->R X f->D i v f):
 ∀(m:List Oper) (i:Nat),(∀j,j<m.length->m[j]? = l[i+j]?)->i+m.length=l.length->Zw P l M R F D i m->Xc P (JG l M F D) i m
 | [],i,_,hl,_=>trivial
 | o::m,i,hm,hl,hs=>by
   have J:l[i]? = some o:=by simpa using (hm 0 AE).symm
   refine Xc.cons hs.1.1 (λQ listed a X y O L K z=>?_) (Zw.steps r m (i+1) (λj c=>by have:=hm (j+1) AG;simpa [Ed,Eo 1 j] using this) (by simp only[AW] at hl;omega) hs.2);obtain⟨u,g,rfl,N,s,A,hd⟩:=y;obtain⟨h,I⟩:=Zu4 O;have q:∀p,onB o p=true->listed.getD p false=true:=λp b=>by
    obtain⟨e,G,E,rfl⟩:=Zyf.1 b;exact L e G E
   have H:(λj=>(listed.setIfInBounds i true).getD j false)=Mz (λj=>listed.getD j false) i:=by
    funext j;rw[Uj h];rfl
   refine hs.1.2.2 Q g _ u X s I A (λp b=>⟨q p b,hd p (q p b)⟩) K λv x f C B S=>?_;refine z _ _ ⟨upd u i v,x,hs.1.2.1 u v,by simpa using N,?_,by rw[H];exact B,λj c=>?_⟩
   ·intro j T n c p b;show (listed.setIfInBounds i true).getD p false=true;have k:(listed.setIfInBounds i true).getD j false=true:=c;rw[Uj h] at k ⊢;by_cases t:p=i
    ·rw[if_pos t]
    rw[if_neg t];by_cases d:j=i
    ·subst d;rw[J] at n;obtain rfl:=BI n;exact q p b
    rw[if_neg d] at k;exact s j T n k p b
   rw[Uj h] at c;unfold upd;by_cases d:j=i
   ·subst d;rw[if_pos rfl];exact S
   rw[if_neg d] at c ⊢;exact r j _ X f (hd j c) C
theorem wp_region_free{w:World}(M:Γ->(Nat->Bool)->(Nat->Value)->World->Prop)(R:World->World->Prop)(g0:Γ)(F:(Nat->Value)->Act)(u0:List Value)(D:List (Value->World->Prop))(s:P.follows .mixedOrders=true)(p:Zvw l.toArray=true)(m:a=F λi=>u0.getD i undef)(f:M g0 (λ_=>false) (λi=>u0.getD i undef) w.drew)(c:Zwm R D)(t:Zw P l M R F (atL D) 0 l)(q:∀g b u X,(∀i,i<l.length->b i=true)->M g b u X->(∀i,i<l.length->atL D i (u i) X)->Q .normal (F u) X):(Code.region id l.toArray true).wp P Q a w:=by
 have v:(λi=>(Array.replicate l.length false).getD i false)=λ_:Nat=>false:=by
  funext i;simp[Array.getD]
 refine H6 (JG l M F (atL D)) s p ⟨_,g0,m,AE,λi o _ h=>?_,by rw[v];exact f,λi h=>?_⟩ ?_ λlisted a X d n=>?_
 ·simp[Array.getD] at h
 ·simp[Array.getD] at h
 ·exact Zw.steps c.at l 0 (λj _=>by rw[BH]) (BH _) t
 obtain⟨u,g,rfl,x,_,k,hd⟩:=d;have hi:∀i,i<l.length->listed.getD i false=true:=λi hi=>by
  have h1:=n i hi;have r:i<listed.size:=AA
  simp only[Array.getD,dif_pos r] at h1 ⊢;exact h1
 exact q g _ u X hi k λi h=>hd i (hi i h)
end
theorem UnL.ex{G:Gr}(g:Xq G):∀(l:List Int) (n r:Nat),(∀(d:Nat) (s:Int) (m k:Nat),l[d]? = some s->s<0->m<=n->k+Uy (Zj G) (l.drop (d+1))<=m->(m=n->∀(p:Nat) q,p<d->l[p]? = some q->Xg (Zj G) q=true)->∀q,q<Zv G s k->∃t,UnT G (Zp s) k q t)->r<Zx (Zv G) l n->∃t,UnL G l n r t
 | [],n,r,_,h=>by
   unfold Zx at h;split at h
   ·rename_i h0;subst h0;obtain rfl:r=0:=AA
    exact⟨[],.nil⟩
   ·omega
 | s::l,n,r,hT,h=>by
   rw[<-Jn] at h;obtain⟨k,v,O,rfl,x⟩:=Zwn h;have f:0<Zx (Zv G) l (n-k):=by
    rcases DM (Zx (Zv G) l (n-k)) with h0 | h0
    ·rw[h0,Nat.mul_zero] at x;omega
    exact h0
   have o:0<Zv G s k:=by
    rcases DM (Zv G s k) with h0 | h0
    ·rw[h0,Nat.zero_mul] at x;omega
    exact h0
   have R:Uy (Zj G) l<=n-k:=by
    rcases BD (n-k) (Uy (Zj G) l) with h1 | h1
    ·rw[Kn (λs h=>Jw g h) h1] at f;omega
    exact h1
   have J:v % Zx (Zv G) l (n-k)<Zx (Zv G) l (n-k):=Nat.mod_lt _ f;have b:v / Zx (Zv G) l (n-k)<Zv G s k:=by rw[Nat.div_lt_iff_lt_mul f];exact x
   obtain⟨B,c⟩:=UnL.ex g l (n-k) (v % Zx (Zv G) l (n-k)) (λd q m j hd u S F E L I=>hT (d+1) q m j (by simpa using hd) u AA (by simpa using F) (λN p A y z=>by
    cases p with
    | zero =>
      obtain rfl:s=A:=by simpa using z
      obtain rfl:k=0:=AA
      exact Jw g AA
    | succ p=>exact E AA p A AA (by simpa using z)) L I) J
   have a:=Nat.div_add_mod v (Zx (Zv G) l (n-k));by_cases h0:0<=s
   ·rw[Xb G h0] at b o;have H:k=1:=by
     unfold K0 at o;split at o
     ·assumption
     omega
    subst H;have u:v / Zx (Zv G) l (n-1)=0:=by have C:K0 1=1:=rfl;rw[C] at b;exact Nat.lt_one_iff.1 b
    rw[u,Nat.mul_zero,BH] at a;have D:Yv (Zv G) s l n 1=0:=by
     rw[Xy,Ug,Xb G h0];simp[K0]
    rw[a] at c;refine⟨B,?_⟩;have:=UnL.term h0 c;rw[show n-1+1=n by omega] at this;rw[D,BH];exact this
   obtain⟨M,h1⟩:=hT 0 s n k rfl AA (AI _) (by simpa using (AA:k+Uy (Zj G) l<=n)) (λ_ p q y=>absurd y AA) _ b;have:=UnL.non' AA h1 c;rw[show k+(n-k)=n by omega] at this;refine⟨M++B,?_⟩;rw[Ej] at a;rw[Ed,a] at this;exact this
theorem UnT.ex{G:Gr}(a:Xq G):∀(m n:Nat) (s:Int),s<0->Zp s<G.nons.length->mu G n s=m->∀r,r<Zv G s n->∃t,UnT G (Zp s) n r t:=by
 intro m
 induction m using Nat.strongRecOn with
 | ind m A =>
   intro n s h0 o D r f;rw[Uu a h0 o,<-Qj (Zv G) (AI G.rules.length)] at f;obtain⟨i,x,v,hi,g,h,rfl,z⟩:=Zv0 f;have c:=AL g;obtain⟨t,y⟩:=UnL.ex a x.right n v (λd q E k hd b p l j B u=>by
    have C:=Zvg a c hd b p j l (s:=s) h.symm;refine A _ AA k q b (InG.rule a.fits c q (AL hd) b) rfl B u) z
   exact⟨i::t,i,x,v,t,g,h,y,rfl,rfl⟩
section
variable {P:Program} {Γ:Type} {R:World->World->Prop}
theorem Zyv(g:backA l=true)(m:∀i o,l.toArray[i]? = some o->∀(listed:Array Bool) (a:Act) (w:World),J listed a w->listed.getD i true=false->(∀e∈o.after,Region.binds .any e=true->listed.getD e.on false=true)->
   ∀K:Act->World->Prop,(∀c w',J (listed.setIfInBounds i true) c w'->K c w')->if Region.wanted o (yielded l.toArray a.tmps) then o.wp P a w K Q else K (a.put o.dst undef) w)(j:∀(listed:Array Bool) (a:Act) (w:World),J listed a w->(∀i,i<l.length->listed.getD i true=true)->Q .normal a w):
 ∀(fuel:Nat) (listed:Array Bool) (a:Act) (w:World),leftN l.toArray.size listed<=fuel->J listed a w->wpAny P .any l.toArray Q fuel listed a w
 | 0,listed,a,w,hl,hJ=>by
   have d:Region.ready .any l.toArray listed=[]:=by
    rw[List.eq_nil_iff_forall_not_mem];intro i hi;obtain⟨f,o,b,_⟩:=mem_ready.1 hi;have:=F6 (n:=l.toArray.size) (Array.getElem?_eq_some_iff.1 b).1 f;omega
   exact⟨d,j listed a w hJ (Zzk g d)⟩
 | fuel+1,listed,a,w,hl,hJ=>by
   refine⟨λd=>j listed a w hJ (Zzk g d),λi hi=>?_⟩;obtain⟨f,o,b,p⟩:=mem_ready.1 hi;have q:=F6 (n:=l.toArray.size) (Array.getElem?_eq_some_iff.1 b).1 f;have h1:=m i o b listed a w hJ f p (wpAny P .any l.toArray Q fuel (listed.setIfInBounds i true)) (λc w' h=>Zyv g m j fuel _ c w' AA h);unfold wpOp;simp only[b];split
   ·rename_i k;rw[if_pos k] at h1;exact .inl h1
   rename_i k;rw[if_neg k] at h1;exact h1
theorem wp_region_invA{w:World}(J:Array Bool->Act->World->Prop)(m:P.follows .mixedOrders=true)(g:backA l=true)(h0:J (Array.replicate l.length false) a w.drew)(c:Xc P J 0 l)(j:∀(listed:Array Bool) (a:Act) (w:World),J listed a w->(∀i,i<l.length->listed.getD i true=true)->Q .normal a w):(Code.region id l.toArray true).wp P Q a w:=by
 have c:=c.inv (ops:=l.toArray) (Q:=Q);refine wp_region_any m ?_;refine Zyv g (λi o n listed a w b q p K f=>?_) (λlisted a w b h=>j listed a w b h) _ _ _ _ ?_ (by simpa using h0)
 ·have:=Xw.at (k:=i) c (by simpa using n) listed a w b (by rw[BH];exact q) p K (λd w' h=>f d w' (by rw[BH] at h;exact h));exact this
 exact BC (List.length_filter_le _ _) AE
theorem Yi{w:World}(M:Γ->(Nat->Bool)->(Nat->Value)->World->Prop)(R:World->World->Prop)(g0:Γ)(F:(Nat->Value)->Act)(u0:List Value)(D:List (Value->World->Prop))(s:P.follows .mixedOrders=true)(p:backA l=true)(m:a=F λi=>u0.getD i undef)(f:M g0 (λ_=>false) (λi=>u0.getD i undef) w.drew)(c:Zwm R D)(t:Zw P l M R F (atL D) 0 l)(q:∀g b u X,(∀i,i<l.length->b i=true)->M g b u X->(∀i,i<l.length->atL D i (u i) X)->Q .normal (F u) X):(Code.region id l.toArray true).wp P Q a w:=by
 have v:(λi=>(Array.replicate l.length false).getD i false)=λ_:Nat=>false:=by
  funext i;simp[Array.getD]
 refine wp_region_invA (JG l M F (atL D)) s p ⟨_,g0,m,AE,λi o _ h=>?_,by rw[v];exact f,λi h=>?_⟩ ?_ λlisted a X d n=>?_
 ·simp[Array.getD] at h
 ·simp[Array.getD] at h
 ·exact Zw.steps c.at l 0 (λj _=>by rw[BH]) (BH _) t
 obtain⟨u,g,rfl,x,_,k,hd⟩:=d;have hi:∀i,i<l.length->listed.getD i false=true:=λi hi=>by
  have h1:=n i hi;have r:i<listed.size:=AA
  simp only[Array.getD,dif_pos r] at h1 ⊢;exact h1
 exact q g _ u X hi k λi h=>hd i (hi i h)
end
section
variable {w:World}
theorem wpl_span(f:o.guard=none)(x:Operand)(g:o.op = .field 174 x 0)(A:Option Addr)(n c:Nat)(d:Bool)(j:a.eval x = .agg #[.slice A n c,.bool d])(h:wpList prog ops Q rest (a.put o.dst (.slice A n c)) w):wpList prog ops Q (o::rest) a w:=by
 refine wpList_plain f λK b=>?_;unfold Oper.wp execOp;simp only[g,j];go_simp;exact b _ _ h
end
section
variable {G:Gr}
theorem fs_red(b:G.Fits){ss ps d wd:List Int}{m:Nat}(h:Fs G ss ps d wd m):(∀s∈ss,s<0->Zp s∈Ze G)->
 ∃u r,UnL (Zi G) (ss.map (Xd (Ze G))) wd.length r u/\ps=(u.map (Yr G)).map λi:Nat=>(i:Int):=by
 induction h with
 | nil=>intro _;exact⟨[],0,.nil,rfl⟩
 | @term s ss ps d wd m h0 _ C =>
   intro a;obtain⟨u,r,y,e⟩:=C λs h=>a s (.tail _ h);refine⟨u,r,?_,e⟩;rw[CU,AW];exact .term (by unfold Xd;rw[if_neg AA];exact h0) y
 | @non s i r ss L M w1 ps d wd J m h0 x H p _ D E =>
   intro a;obtain⟨j,rfl,f⟩:=Uo x;have l:=AL f;have I:=b.left r l;have c:=a s (AX ..) h0;have e:Zp s=r.left.toNat:=by unfold Zp;omega
   have g:r∈Yh G:=Zub b l (by rw[<-e];exact c) (U8.2 λs a=>⟨λ_=>rfl,λh0=>Ztu b p s a h0⟩);obtain⟨k,q,t⟩:=kept_at b f g;obtain⟨u1,N,z,n⟩:=D λs h=>Qz b g h;obtain⟨u2,O,A,o⟩:=E λs h=>a s (.tail _ h);have F:=G8 h0 c;have B:(Wb (Ze G) r).left.toNat=Zp (Xd (Ze G) s):=by
    show (toI (Ze G) r.left.toNat).toNat=_;rw[<-e];omega
   have v:=UnL.non ((Mk s λ_=>c).2 h0) t B z A;refine⟨k::(u1++u2),_,by rw[CU,AS];exact v,?_⟩;rw[CU,CU,DI,DI,<-n,<-o,q]
end
section
open Go.Shelf
open Go.ChangeShapes Go.WideShapes Go.ChangeAt Go.RowKit
theorem Nj.ints{w:World}{a:Option Addr}{len cap:Nat}{c:List Int}(h:Nj k w a len cap c):
 ∃xs:List Int,Za k w a len cap xs/\∀x∈xs,(Lit.int k x).wf=true:=by
 rcases h with ⟨rfl,rfl,rfl,rfl⟩ | ⟨x,rfl,p,q,A,l,t⟩
 ·exact⟨[],Za.nil _ _ _ _ AE,λx u=>by cases u⟩
 have g:(c.take len).length=len:=by rw[BY];omega
 have o:∀j,j<len->(c.take len)[j]? = some (c.getD j 0):=λj d=>by
  rw[En,if_pos d,AO,AM AA];rfl
 refine⟨c.take len,⟨?_,p,by simpa [maxLen] using q,λr=>?_⟩,λz v=>t z (List.mem_of_mem_take v)⟩
 ·rw[Y9,g]
 rw[Y9,g] at r;obtain⟨b,f,y⟩:=x;have h0:=l 0 AA;have s:y=none:=by simpa [Addr.add] using World.cell?_spot h0
 subst s;have n:w.cell? ⟨b,f,none⟩=some (.int k (c.getD 0 0)):=by simpa [Addr.add] using h0
 refine⟨b,f,rfl,Zyg n,λj d=>?_⟩;rw[Y9,g] at d;have m:=l j AA;have e:(⟨b,f,none⟩:Addr).add j=⟨b,f+j,none⟩:=by
  unfold Addr.add;split
  ·rename_i h0;subst h0;rfl
  rfl
 rw[e] at m;rw[m];simp only[Go.Proofs.YtggbjdmpjidhgaaGreatDoor.ints,BA,o j d,Ek]
end
section
open Go.Shelf
open Go.ChangeShapes Go.WideShapes Go.ChangeAt Go.RowKit
open Go.ChangeShapes Go.WideShapes Go.ChangeAt Go.RowKit
open Go.ChangeShapes Go.WideShapes Go.ChangeAt Go.RowKit Go.Lib Go.Deep
open Go.ChangeShapes Go.WideShapes Go.ChangeAt Go.RowKit Go.Lib Go.Deep
variable {H:Type} {enc:TypeId × Value->H} {w:World} {base:Nat} {held:Bool}
theorem open_intsG{x:DataW H × List MemPlace}(h:DataW.trod enc prog w base (λ_=>true) held fuel 27 [v]=some x):
 ∃A n c f,v = .slice A n c/\Za .i64 w A n c f/\∀z∈f,U3 z:=by
 rcases open_ints underlying27 underlying3 AB h with ⟨b,_⟩ | ⟨a,len,cap,f,b,_,l,m,d,_,j,p⟩
 ·simp at b;exact⟨none,0,0,[],b,Za.nil _ _ _ _ AA,λz d=>by cases d⟩
 simp at b;obtain⟨xs,g,o⟩:=Nj.ints (k := .i64) (w:=w) (.inr ⟨a,rfl,l,m,by simpa using d,j,p⟩:Nj .i64 w (some a) len cap f);exact⟨some a,len,cap,xs,b,g,λz d=>bounds_i64 (o z d)⟩
theorem open_rules{x:DataW H × List MemPlace}(h:DataW.trod enc prog w base (λ_=>true) held fuel 24 [v]=some x):
 ∃A n c E,v = .slice A n c/\Dv w A n c E/\∀r∈E,∀s∈r.right,U3 s:=by
 rcases open_slice underlying24 h with ⟨g,_⟩ | ⟨a,len,cap,m,n,D,X,g,_,J,L,M,_,P⟩
 ·simp at g;exact⟨none,0,0,[],g,⟨rfl,AI _,AA,λh=>AA⟩,λt d=>by cases d⟩
 simp at g;have Z:len<=m:=by rw[M];split <;> omega
 have each:∀i,∃r:Rul,i<len->(w.cell? (a.add (i*3))=some (.int .i64 r.left)/\(∃Ar cr,w.cell? (a.add (i*3+1))=some (.slice Ar r.right.length cr)/\Za .i64 w Ar r.right.length cr r.right)/\w.cell? (a.add (i*3+2))=some (.int .i64 r.prec)/\∀s∈r.right,U3 s):=λi=>by
  by_cases hi:i<len
  ·obtain⟨Y,h1,I⟩:=P i AA;have u:prog.cellsOf 52=3:=AB
   rw[u] at h1;obtain⟨v0,v1,v2,y0,y1,y2,k,S,T,U,g0,F,G⟩:=elem3 underlying52 u rfl rfl rfl AB AB AB h1 I;obtain⟨n1,y,_,_⟩:=DataW.trod_int underlying3 g0;obtain⟨Ar,nr,cr,W,rfl,l,O⟩:=open_intsG F;obtain⟨n2,z,_,_⟩:=DataW.trod_int underlying3 G;simp at y z;subst y z;obtain rfl:=l.len;exact⟨⟨n1,W,n2⟩,λ_=>⟨S,⟨Ar,cr,T,l⟩,U,O⟩⟩
  exact⟨⟨0,[],0⟩,λh=>absurd h hi⟩
 obtain⟨f,q⟩:=Classical.axiomOfChoice each;refine⟨some a,len,cap,(List.range len).map f,g,⟨AE,J,by simpa [maxLen] using L,λh0=>?_⟩,λt d=>?_⟩
 ·obtain⟨b,R,V⟩:=a;have p:=(q 0 h0).1;have N:V=none:=by simpa [Addr.add] using World.cell?_spot p
  subst N;rw[Bi] at p;refine⟨b,R,rfl,by have:=Zyg p;simpa using this,λj t d=>?_⟩;rw[BA] at d;have o:j<len:=by
   rcases BD j len with h | h
   ·exact h
   simp[BE (show (List.range len).length<=j by simpa using h)] at d
  simp[o] at d;subst d;obtain⟨p0,⟨Ar,cr,B,l⟩,C,_⟩:=q j o;rw[Bi] at p0 B C;exact⟨Ar,cr,p0,by rw[Ed];exact B,by rw[Ed];exact C,l⟩
 obtain⟨j,o,rfl⟩:=CW.1 d;exact (q j (BQ.1 o)).2.2.2
end
end Go.Proofs.YtggbjdmpjidhgaaGreatDoor
