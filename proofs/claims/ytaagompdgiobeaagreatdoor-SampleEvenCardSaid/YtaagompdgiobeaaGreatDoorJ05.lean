/- the reading of a grammar, its counts, and what is drawn: lemmas -/
import Derived.Test.YtaagompdgiobeaaGreatDoorJ04
set_option linter.all false
set_option maxHeartbeats 1500000
set_option maxRecDepth 100000
namespace Go.Proofs.YtaagompdgiobeaaGreatDoor
open Go.RowKit Go.Proofs.Tryz
open Go.Value renaming slice→K,slice→aK,int→aI,bool→aB,pointer→aP,string→aS,agg→aG open Go.IntKind renaming i64→aJ open Go.Obj renaming cells→aC open Go.Ending renaming returned→aR open List renaming length→Q,length→aQ open Option renaming none→aN
section
variable{G:Gr}{c r:List ((Nat × Nat × Nat) × Nat)}{tab:Nat->Nat->Nat}{i n g:Nat}{w:World}{S:Nat->Prop}{ts:List ((Int × Nat) × Nat)}{x:Rul}
def tr_null1(r:Rul)(Ar:Option Addr)(cr g n:Nat)(N:List Bool)(w:World)(C:Za .i64 w Ar (Q r.rt) cr r.rt)(z:Z8 w g N)(L:(Q N)=n)(M:n<=1000)(O:∀s∈r.rt,-(n:Int)<=s/\s<=1000):
 Calls prog 202 #[aG #[aI aJ r.L,K Ar (Q r.rt) cr,aI aJ r.P],K (some ⟨g,0,aN⟩) n n] w λe w'=>Below w w w'/\∃A m c,e = aR (K A m c)/\Za .i64 w' A m c (Bd r N)/\Apart A g:=by
 have R:g<w.heap.size:=z.lt;have y:=Zy w (aC #[aI aJ r.L,K Ar (Q r.rt) cr,aI aJ r.P] 60);have I:=Fl.new w 60 r.L Ar (Q r.rt) cr r.P;have D:=all_split N r.rt;go_enter func202,ntmps202;have⟨z5,z0,z1,z2⟩:=I;have l:=λw' (q:Below w w w')=>tr_bare r.L Ar cr r.rt r.P w' (C.below q);have d:=λw' (q:Below w w w')=>F7 r.L Ar cr g n r.rt r.P N w' (C.below q) (Blk.ext z q) L M O;generalize (!r.rt.any λs=>decide (0<=s))=k at *;generalize (!r.rt.any (Cf N))=p at *;have u:Hid (Bd r N=if (k&&p) then [r.L] else []):=LH (by unfold Bd;rw[D]);have F:=LH l;have x:=LH d;clear l d D;go_wp2_with fail;generalize w.alloc (aC #[aI aJ r.L,K Ar (Q r.rt) cr,aI aJ r.P] 60)=H at *;have l:=(F H y).mono λe w' a=>And.intro a.1 (And.intro (Jd a.2).1 (LH (Zz y a.2)));have G:=LH l;clear l;refine G.out.mono ?_;rintro e w1⟨rfl,v,f⟩;have E:=(v _ 0 z5).trans z0;have T:=(v _ 1 z5).trans z1;have U:=(v _ 2 z5).trans z2;have J:w.heap.size<w1.heap.size:=by
  rcases BD w w1 with h | h
  ·exact h
  simp[World.cell?,CZ h] at E
 rcases (by cases k <;> cases p <;> simp:k=false\/(k=true/\p=false)\/(k=true/\p=true)) with rfl | ⟨rfl,rfl⟩ | ⟨rfl,rfl⟩
 ·go_wp2_with fail;go_ret;exact⟨f,aN,0,0,rfl,by rw[u];exact Za.nil _ _ _ _ AA,λb o h=>by cases h⟩
 ·have d:=(x w1 f).mono λe w' a=>And.intro a.1 (And.intro (Jd a.2).1 (LH (Zz f a.2)));have t:=LH d;clear d;go_wp2_with (go_at_call 91;refine t.out.mono ?_;rintro e P⟨rfl,B,j⟩);go_ret;exact⟨j,aN,0,0,rfl,by rw[u];exact Za.nil _ _ _ _ AA,λb o h=>by cases h⟩
 have d:=(x w1 f).mono λe w' a=>And.intro a.1 (And.intro (Jd a.2).1 (LH (Zz f a.2)));have t:=LH d;clear d;go_wp2_with (go_at_call 91;refine t.out.mono ?_;rintro e P⟨rfl,B,j⟩;have S:=(B _ 0 J).trans E);go_ret;refine⟨j.alloc j.size _,_,1,1,rfl,by rw[u];exact Ztd _ _ _,λb o h=>?_⟩;injection h with h;injection h with h _;have:=j.size;omega
def Zzh(h:GH)(G:Gr)(w:World)(d:Yf w h G)(S:∀t∈G.T,t.name.size<=maxLen)(F:h.n1<=100)(H:h.n2<=100)(I:h.n3<=100):
 Calls prog 158 #[GV h G.zt] w λe w'=>Below w w w' /\
  ((G.rt=false/\e = aR (K aN 0 0))\/(G.rt=true/\∃g,w.heap.size<=g/\e = aR (K (some ⟨g,0,aN⟩) h.n2 h.n2)/\Z8 w' g (Zj G))):=by
 obtain⟨a1,n1,c1,a2,n2,c2,a3,n3,c3⟩:=h;have m:(Q G.O)=n2:=d.O.len;have T:=d.O.cap;simp only[] at F H I T;have p:=Zy w (aC #[K a1 n1 c1,K a2 n2 c2,K a3 n3 c3,aI aJ G.zt] 26);have x:=Y1.new w 26 ⟨a1,n1,c1,a2,n2,c2,a3,n3,c3⟩ G.zt;have P:=Nt n2 AA;go_enter func158,ntmps158;have⟨z5,z0,z1,z2,z3⟩:=x;simp only[] at z0 z1 z2 z3;go_wp2_with fail;generalize w.alloc (aC #[K a1 n1 c1,K a2 n2 c2,K a3 n3 c3,aI aJ G.zt] 26)=E at *;(refine (J4 ⟨a1,n1,c1,a2,n2,c2,a3,n3,c3⟩ G E (d.below p) S (by simp only[];omega) (by simp only[];omega)).mono ?_);rintro e b⟨rfl,v⟩;have j:=Zz p v;have M:=x.below v;have⟨y5,y0,y1,y2,y3⟩:=M;simp only[] at y0 y1 y2 y3;rcases l:G.rt with _ | _
 ·go_wp2_with fail;go_ret;exact⟨j,.inl ⟨l,rfl⟩⟩
 have k:=Gr.fits l;have D:=LH l;have V:=LH k;have u:=Z8.new b (List.replicate n2 false);have a:=Zy b (aC (Qk (List.replicate n2 false)).toArray 4);have z:=d.below j;have B:=λW c J=>Zte ⟨a1,n1,c1,a2,n2,c2,a3,n3,c3⟩ G 202 #[] enters_null1 Bd b n2 (List.replicate n2 false) b W z J (AJ _) AA c AE (by simp only[];omega)
  (λr n N q s f=>by
    unfold Bd at f;split at f
    ·rw[BO] at f;subst f;have:=k.L r n;rw[m] at this;exact this
    cases f)
  (λr n Ar cr N w' _ R q O=>tr_null1 r Ar cr b n2 N w' R q O AA (by have:=k.symB n;rwa [m] at this))
 have o:=LH B;clear l k B d z;go_wp2_with fail;go_region_with (go_at_call 148;refine (o.out _ ?_ ?_).mono ?_;exact u;exact⟨a.os,a.tape,a.output,a.size,a.block⟩;rintro e U⟨rfl,A,c⟩)
 all_goals
  have L:Below b b U:=by
   refine Below.trans ?_ (Zn A a.size (AJ _));exact⟨a.os,a.tape,a.output,a.size,a.block⟩
  have y:Zj G=Z3 (Yy Bd G.U) n2 (List.replicate n2 false):=by rw[Zx9];unfold Zj;rw[m];rfl
  rw[<-y] at c;have C:=LH c;clear c y A o u a P y0 y1 y2 y3 z0 z1 z2 z3;go_wp2_with fail;go_ret;exact⟨Zz j L,.inr ⟨D,b.heap.size,j.size,rfl,C⟩⟩
def Ll.next(a:Xq G){c:List Nat}(d:Ni G c){m p:Nat}(h:Ll G c tab m p)(hi:c[p]? = some i):
 Yc (Yk tab) G.U i m=Zv G (-1-(i:Int)) m:=by
 have o:=d.lt i (AM hi);rw[Uu a AA (by rw[nonI_of];exact o),nonI_of];refine (Lu λr l y=>?_).symm;have u:∀q∈r.rt,q<0->Zp q<(Q G.O):=λq b C=>by
  have:=a.fits.sym r l q b;unfold Zp;omega
 refine Zzb (λq b k t=>?_) (λj q s v=>?_) λg q b h0=>?_
 ·unfold Yk;split
  ·rename_i h0;exact Xb G h0 k
  rename_i h0;rw[h.low k t _ (u q b AA),Fr AA]
 ·unfold Yk;split
  ·rename_i h0;exact Xb G h0 m
  rename_i h0;have n:=D2 a l s AA λA B x z=>Jw a (v A B x z);rw[y] at n;rw[h.now _ (d.pre p i hi _ n),Fr AA]
 unfold Yk;split
 ·rename_i h1;rw[<-Xb G h1];exact h0
 rename_i h1;by_cases f:Zp q∈c.take p
 ·subst g;rw[h.now _ f,Fr AA];exact h0
 subst g;exact h.rest _ f
def Zt9(v:Xq G){a:List Nat}(f:Ni G a)(h:chkT G a tab n=true):∀k,k<=n->∀i,i<(Q G.O)->tab k i=Zv G (-1-(i:Int)) k:=by
 unfold chkT at h;simp only[BG,BP] at h;have row:∀m,m<=n->Ll G a (B6 tab a m 0) m 0->∀p,p<=(Q a)->Ll G a (B6 tab a m p) m p:=by
  intro m x h0 p
  induction p with
  | zero=>intro _;exact h0
  | succ p q =>
    intro y;have t:=q AA;have hi:a[p]? = some (a[p]' AA):=AL AA;have e:a.getD p 0=a[p]' AA:=by rw[AO,hi];rfl
    have r:=Nat.eq_of_beq_eq_true (h m AA p AA);rw[e,t.next v f hi] at r;have s:=t.put hi (tab m (a[p]' AA)) r.symm;have u:U6 (B6 tab a m p) m (a[p]' AA) (tab m (a[p]' AA))=B6 tab a m (p+1):=by
     funext k j;unfold U6 B6;have o:a.take (p+1)=a.take p++[a[p]' AA]:=by rw[Du,hi];rfl
     by_cases c:k<m
     ·rw[if_neg AA,if_pos c,if_pos c]
     rw[if_neg c,if_neg c];by_cases d:k=m
     ·subst d;by_cases l:j=a[p]' AA
      ·subst l;rw[if_pos ⟨rfl,rfl⟩,if_pos ⟨rfl,by rw[List.contains_iff_mem,o];exact List.mem_append_right _ (BO.2 rfl)⟩]
      rw[if_neg λb=>l b.2];by_cases g:(a.take p).contains j=true
      ·rw[if_pos ⟨rfl,g⟩,if_pos ⟨rfl,by rw[List.contains_iff_mem] at g ⊢;rw[o];exact List.mem_append_left _ g⟩]
      rw[if_neg λb=>g b.2,if_neg λb=>g ?_];have:=b.2;rw[List.contains_iff_mem,o,DB,BO] at this;rw[List.contains_iff_mem];exact this.resolve_right l
     rw[if_neg λb=>d b.1,if_neg λb=>d b.1,if_neg λb=>d b.1]
    rw[u] at s;exact s
 have all:∀m,m<=n->Ll G a (B6 tab a m 0) m 0:=by
  intro m
  induction m with
  | zero=>intro _;rw[cut_zero];exact Ll.zt G a
  | succ m q =>
    intro x;have h1:=row m AA (q AA) (Q a) (AJ _);refine⟨λk c i hi=>?_,λi hi=>by simp at hi,λi _=>?_⟩
    ·rcases (AA:k<m\/k=m) with d | rfl
     ·have:=h1.low k d i hi;unfold B6 at this ⊢;rw[if_pos d] at this;rw[if_pos AA];exact this
     have:=h1.now i (by rw[List.take_length];exact f.all i hi);unfold B6 at this ⊢;rw[if_neg AA,if_pos ⟨rfl,by simpa using f.all i hi⟩] at this;rw[if_pos AA];exact this
    unfold B6;rw[if_neg AA,if_neg];rintro⟨_,h⟩;simp at h
 intro k c i hi;have h1:=row k c (all k c) (Q a) (AJ _);have:=h1.now i (by rw[List.take_length];exact f.all i hi);unfold B6 at this;rw[if_neg AA,if_pos ⟨rfl,by simpa using f.all i hi⟩] at this;exact this
def tr_reach(g n i:Nat)(S:List Nat)(w:World)(r:V0 w g S)(hn:(Q S)=n)(av:n<=1000)(hi:i<n)(u:We S)(q:InS S)(C:Q2 w):
 Calls prog 156 #[K (some ⟨g,0,aN⟩) n n,aI aJ (i:Int)] w λe w'=>e = aR (aI .u32 (((Xu S).getD i 0:Nat):Int))/\Below w w w':=by
 subst hn;have aa:=r.at hi;have J:=LH r;have l:=LH u;have j:=LH q;have O:=LH C;have v:=LH (J5.zt u q hi);have hd:=j.out;have T:=LH λR (h:J5 S i R) (he:Qd S R (Wy R)=R)=>J5.done j hi h he;generalize S.getD i 0=v0 at aa v;generalize (Xu S).getD i 0=cl at *;clear r u q C hd;go_enter func156,ntmps156;go_wp2_with fail;go_loopw [5] (λa wr=>∃R:Nat,a = aI .u32 (R:Int)/\Hid (J5 S i R)/\Hid (Below w w wr)) (λa _=>4294967296-(intOf a).toNat)
 case atStart=>exact⟨v0,rfl,v,LH (AP _ _)⟩
 obtain⟨R,rfl,b,x⟩:=hrel;have F:=b.1;have z:=set_members R wr F (O.below x);have I:=LH z;have V:=LH (Zt7 R);clear z;go_wp2_with (go_at_call 200;refine I.out.mono ?_;rintro e w2⟨A,c,rfl,G,E⟩);have f:=LH (Zz x E);have X:=LH G;have N:Hid (V0 w2 g S):=Blk.ext J f;have y:=LH (J5.next l j hi b);have U:=LH (moreN_le S (Wy R) R);clear E G F;have t:(Z6 (Wy R)).length=(Wy R).length:=Mv _;have W:=LH t;have aq:(Z6 (Wy R)).length<=32:=by rw[t];exact V
 generalize B:(Z6 (Wy R)).length=L at *;have HL:=LH B;clear B t;go_wp2_with fail;go_loop [6,17] (λm k=>∃p:Nat,p<=L/\k = aI aJ (p:Int)/\m = aI .u32 ((Qd S R ((Wy R).take p):Nat):Int)) (λm k=>L-(intOf k).toNat)
 case atStart=>exact⟨0,AV _,rfl,by simp[Qd]⟩
 obtain⟨p,hp,rfl,rfl⟩:=hrel;by_cases ah:p<L
 case neg =>
  obtain rfl:p=L:=AA
  have D:Qd S R ((Wy R).take p)=Qd S R (Wy R):=by rw[AQ (by rw[<-W];exact AJ _)]
  rw[D];have o:=T R b;have au:=y.1;clear D;generalize Qd S R (Wy R)=M at *;by_cases ae:M=R
  ·subst ae;have ab:=o (by trivial);clear o;go_wp2_with fail;go_ret;exact⟨by rw[<-ab];rfl,f⟩
  have aw:((M:Int)==(R:Int))=false:=by rw[AR];omega
  have ar:=U.out;clear o;go_wp2_with fail;go_roundw
  case rel=>exact⟨M,rfl,y,f⟩
  simp[intOf];omega
 obtain⟨bb,a0,s,rfl,hb,Z,q0⟩:=X.get ah;obtain⟨k,rfl,d⟩:=mems_get Z;have af:k<(Q S):=((b.2.2 k ((Zwo R k).1 (AM d)).2)).1;have ao:=N.at af;have H:Qd S R ((Wy R).take (p+1))=Qd S R ((Wy R).take p) ||| S.getD k 0:=by rw[Ya d,moreN_snoc]
 have ax:=or32 (Qd S R ((Wy R).take p)) (S.getD k 0) (Zxv l _ b.1) (l.get k);generalize Qd S R ((Wy R).take p)=m0 at *;generalize S.getD k 0=vk at *;have Y:=LH H;have Hk:=LH d;clear H d;go_wp2_with fail;go_round
 case rel=>exact⟨p+1,AA,AF,by rw[Y]⟩
 simp[intOf];omega
def tr_start(h:GH)(G:Gr)(w:World)(hg:Yf w h G)(hs:∀t∈G.T,t.name.size<=maxLen)(h1:h.n1<=100)(z:h.n2<=100)(h3:h.n3<=100)(hr:G.rt=true):
 Calls prog 99 #[GV h G.zt] w (RetStart h G w):=by
 obtain⟨a1,n1,c1,a2,n2,c2,a3,n3,c3⟩:=h;simp only[] at h1 z h3;have Hg:=LH hg;have Hs:=LH hs;have aq:=Zy w (aC #[K a1 n1 c1,K a2 n2 c2,K a3 n3 c3,aI aJ G.zt] 26);have av:=Y1.new w 26 ⟨a1,n1,c1,a2,n2,c2,a3,n3,c3⟩ G.zt;clear hg hs;go_enter func99,ntmps99;go_upto_region 1 with fail;generalize w.alloc (aC #[K a1 n1 c1,K a2 n2 c2,K a3 n3 c3,aI aJ G.zt] 26)=S at *;have⟨z5,z0,z1,z2,z3⟩:=av;simp only[] at z0 z1 z2 z3;have Z:=LH aq;have Hr:=LH hr;have b5:=@run_makeMap prog;clear av aq hr;refine H6 (λlisted a X=>∃bb0 bb1 bb2 bb3 u o l g:Bool,∃u3 u4 u5 u6 u7 u8 u9 u2:Value,listed=#[bb0,bb1,bb2,bb3,u,o,l,g]/\a=(⟨(GV ⟨a1,n1,c1,a2,n2,c2,a3,n3,c3⟩ G.zt::aP (some ⟨w,0,aN⟩)::u2::u3::u4::u5::u6::u7::u8::u9::[]).toArray,[]⟩:Act)/\(g=false->Below S S X)/\(g=true->∃k:CH,u2=aP (some ⟨k.c,0,aN⟩)/\Below w w X/\Yo w k ⟨a1,n1,c1,a2,n2,c2,a3,n3,c3⟩ G (λ_=>False) X)/\(bb0=true->u3=aG #[K a1 n1 c1,K a2 n2 c2,K a3 n3 c3,aI aJ G.zt])/\(bb1=true->u4=aG #[K a1 n1 c1,K a2 n2 c2,K a3 n3 c3,aI aJ G.zt])/\(bb2=true->g=false->∃j,u5=K (some ⟨j,0,aN⟩) n2 n2/\S.heap.size<=j/\Z8 X j (Zj G))/\(bb3=true->g=false->∃j,u6=Value.map (some j)/\S.heap.size<=j/\Vv prog 257 X j []/\(u=true->u6≠u7))/\(u=true->g=false->∃j,u7=Value.map (some j)/\S.heap.size<=j/\Vv prog 261 X j [])/\(o=true->g=false->∃T L M,u8=aG #[K a1 n1 c1,K a2 n2 c2,K a3 n3 c3,aI aJ G.zt,K (some ⟨T,0,aN⟩) n2 n2,Value.map (some L),Value.map (some M)]/\S.heap.size<=T/\S.heap.size<=L/\S.heap.size<=M/\Z8 X T (Zj G)/\Vv prog 257 X L []/\Vv prog 261 X M []/\L≠M)/\(l=true->g=false->∃k:CH,u9=aP (some ⟨k.c,0,aN⟩)/\Blk X k.c 211 #[K a1 n1 c1,K a2 n2 c2,K a3 n3 c3,aI aJ G.zt,K (some ⟨k.n,0,aN⟩) n2 n2,Value.map (some k.t),Value.map (some k.f)]/\Z8 X k.n (Zj G)/\Vv prog 257 X k.t []/\Vv prog 261 X k.f []/\k.t≠k.f/\S.heap.size<=k.t/\S.heap.size<=k.f)/\(bb2=true->bb1=true)/\(o=true->bb0=true/\bb2=true/\bb3=true/\u=true)/\(l=true->o=true)/\(g=true->l=true)) AB AB ?_ ?_ ?_
 ·exact⟨false,false,false,false,false,false,false,false,undef,undef,undef,undef,undef,undef,undef,(aP aN),rfl,rfl,λ_=>(AP _ _).drew,nofun,nofun,nofun,nofun,nofun,nofun,nofun,nofun,nofun,nofun,nofun,nofun⟩
 ·refine Xc.cons rfl (λQ listed a X B s v KK C=>?_) ?_
  ·obtain⟨bb0,bb1,bb2,bb3,u,o,l,g,u3,u4,u5,u6,u7,u8,u9,u2,rfl,rfl,x,D,r⟩:=B;have b:=LH r;clear r;have b0:bb0=false:=s;have q:g=false:=by cases h:g with | false=>rfl | true=>exact absurd (((b.out.2.2.2.2.2.2.2.2.1 ((b.out.2.2.2.2.2.2.2.2.2.1 ((b.out.2.2.2.2.2.2.2.2.2.2 h)))))).1) (by rw[b0];exact DD)
   have m:=x q;have bh:=(m.cell (p:=⟨w,0,aN⟩) z5).trans z0;have bi:=(m.cell (p:=⟨w,1,aN⟩) z5).trans z1;have bj:=(m.cell (p:=⟨w,2,aN⟩) z5).trans z2;have bk:=(m.cell (p:=⟨w,3,aN⟩) z5).trans z3;have bz:=AK z5 m.size;clear s v;go_simp;obtain⟨F,H,I,J,E,U,V,P,y,R,O⟩:=b.out;exact C _ _ ⟨true,bb1,bb2,bb3,u,o,l,g,_,u4,u5,u6,u7,u8,u9,u2,rfl,rfl,x,D,λ_=>rfl,H,I,J,E,U,V,P,λh=>⟨rfl,(((y h)).2).1,((((y h)).2).2).1,((((y h)).2).2).2⟩,R,O⟩
  refine Xc.cons rfl (λQ listed a X B s v KK C=>?_) ?_
  ·obtain⟨bb0,bb1,bb2,bb3,u,o,l,g,u3,u4,u5,u6,u7,u8,u9,u2,rfl,rfl,x,D,r⟩:=B;have b:=LH r;clear r;have b1:bb1=false:=s;have q:g=false:=by cases h:g with | false=>rfl | true=>exact absurd ((b.out.2.2.2.2.2.2.2.1 ((((b.out.2.2.2.2.2.2.2.2.1 ((b.out.2.2.2.2.2.2.2.2.2.1 ((b.out.2.2.2.2.2.2.2.2.2.2 h)))))).2).1))) (by rw[b1];exact DD)
   have m:=x q;have bh:=(m.cell (p:=⟨w,0,aN⟩) z5).trans z0;have bi:=(m.cell (p:=⟨w,1,aN⟩) z5).trans z1;have bj:=(m.cell (p:=⟨w,2,aN⟩) z5).trans z2;have bk:=(m.cell (p:=⟨w,3,aN⟩) z5).trans z3;have bz:=AK z5 m.size;clear s v;go_simp;obtain⟨F,H,I,J,E,U,V,P,y,R,O⟩:=b.out;exact C _ _ ⟨bb0,true,bb2,bb3,u,o,l,g,u3,_,u5,u6,u7,u8,u9,u2,rfl,rfl,x,D,F,λ_=>rfl,I,J,E,U,V,λh=>rfl,y,R,O⟩
  refine Xc.cons rfl (λQ listed a X B s v KK C=>?_) ?_
  ·obtain⟨bb0,bb1,bb2,bb3,u,o,l,g,u3,u4,u5,u6,u7,u8,u9,u2,rfl,rfl,x,D,r⟩:=B;have b:=LH r;clear r;have am:bb2=false:=s;have a6:bb1=true:=v ⟨1,.data⟩ AE rfl;have q:g=false:=by cases h:g with | false=>rfl | true=>exact absurd ((((b.out.2.2.2.2.2.2.2.2.1 ((b.out.2.2.2.2.2.2.2.2.2.1 ((b.out.2.2.2.2.2.2.2.2.2.2 h)))))).2).1) (by rw[am];exact DD)
   have m:=x q;obtain rfl:=b.out.2.1 a6;have Y:o=true->False:=λh=>absurd ((((b.out.2.2.2.2.2.2.2.2.1 h)).2).1) (by rw[am];exact DD);have W:l=true->False:=λh=>absurd ((((b.out.2.2.2.2.2.2.2.2.1 ((b.out.2.2.2.2.2.2.2.2.2.1 h)))).2).1) (by rw[am];exact DD);have br:=Hg.out.below (Zz Z.out m);clear s v;go_simp;(with_reducible refine (Zzh ⟨a1,n1,c1,a2,n2,c2,a3,n3,c3⟩ G X br Hs.out (by simp only[];omega) (by simp only[];omega) (by simp only[];omega)).mono ?_);rintro e w5⟨ai,⟨ay,_⟩ | ⟨_,gn,bs,rfl,bp⟩⟩
   ·rw[Hr.out] at ay;cases ay
   go_simp;obtain⟨F,H,I,J,E,U,V,P,y,R,O⟩:=b.out;exact C _ _ ⟨bb0,bb1,true,bb3,u,o,l,g,u3,_,_,u6,u7,u8,u9,u2,rfl,rfl,λ_=>Zz m ai,λh=>absurd h (by rw[q];exact DD),F,H,λ_ _=>⟨gn,rfl,BC m.size bs,bp⟩,λh1 z=>(J h1 z).elim λj d=>⟨j,d.1,d.2.1,d.2.2.1.below ai,d.2.2.2⟩,λh1 z=>(E h1 z).elim λj d=>⟨j,d.1,d.2.1,d.2.2.below ai⟩,λh=>(Y h).elim,λh=>(W h).elim,λ_=>a6,λh=>⟨((y h)).1,rfl,((((y h)).2).2).1,((((y h)).2).2).2⟩,R,O⟩
  refine Xc.cons rfl (λQ listed a X B s v KK C=>?_) ?_
  ·obtain⟨bb0,bb1,bb2,bb3,u,o,l,g,u3,u4,u5,u6,u7,u8,u9,u2,rfl,rfl,x,D,r⟩:=B;have b:=LH r;clear r;have an:bb3=false:=s;have q:g=false:=by cases h:g with | false=>rfl | true=>exact absurd (((((b.out.2.2.2.2.2.2.2.2.1 ((b.out.2.2.2.2.2.2.2.2.2.1 ((b.out.2.2.2.2.2.2.2.2.2.2 h)))))).2).2).1) (by rw[an];exact DD)
   have m:=x q;have Y:o=true->False:=λh=>absurd (((((b.out.2.2.2.2.2.2.2.2.1 h)).2).2).1) (by rw[an];exact DD);have W:l=true->False:=λh=>absurd (((((b.out.2.2.2.2.2.2.2.2.1 ((b.out.2.2.2.2.2.2.2.2.2.1 h)))).2).2).1) (by rw[an];exact DD);have A:=Zy X (.map #[] 0);have aj:=Vv.made X prog 257;clear s v;go_simp;obtain⟨F,H,I,J,E,U,V,P,y,R,O⟩:=b.out;exact C _ _ ⟨bb0,bb1,bb2,true,u,o,l,g,u3,u4,u5,_,u7,u8,u9,u2,rfl,rfl,λ_=>Zz m A,λh=>absurd h (by rw[q];exact DD),F,H,λh1 z=>(I h1 z).elim λj d=>⟨j,d.1,d.2.1,Blk.ext d.2.2 A⟩,λ_ _=>⟨X,rfl,m.size,aj,λh4 N=>(E h4 q).elim λj d=>by rw[d.1] at N;injection N with N;injection N with N;have:=d.2.2.lt;omega⟩,λh1 z=>(E h1 z).elim λj d=>⟨j,d.1,d.2.1,d.2.2.below A⟩,λh=>(Y h).elim,λh=>(W h).elim,P,λh=>⟨((y h)).1,(((y h)).2).1,rfl,((((y h)).2).2).2⟩,R,O⟩
  refine Xc.cons rfl (λQ listed a X B s v KK C=>?_) ?_
  ·obtain⟨bb0,bb1,bb2,bb3,u,o,l,g,u3,u4,u5,u6,u7,u8,u9,u2,rfl,rfl,x,D,r⟩:=B;have b:=LH r;clear r;have ao:u=false:=s;have q:g=false:=by cases h:g with | false=>rfl | true=>exact absurd (((((b.out.2.2.2.2.2.2.2.2.1 ((b.out.2.2.2.2.2.2.2.2.2.1 ((b.out.2.2.2.2.2.2.2.2.2.2 h)))))).2).2).2) (by rw[ao];exact DD)
   have m:=x q;have Y:o=true->False:=λh=>absurd (((((b.out.2.2.2.2.2.2.2.2.1 h)).2).2).2) (by rw[ao];exact DD);have W:l=true->False:=λh=>absurd (((((b.out.2.2.2.2.2.2.2.2.1 ((b.out.2.2.2.2.2.2.2.2.2.1 h)))).2).2).2) (by rw[ao];exact DD);have A:=Zy X (.map #[] 0);have aj:=Vv.made X prog 261;clear s v;go_simp;obtain⟨F,H,I,J,E,U,V,P,y,R,O⟩:=b.out;exact C _ _ ⟨bb0,bb1,bb2,bb3,true,o,l,g,u3,u4,u5,u6,_,u8,u9,u2,rfl,rfl,λ_=>Zz m A,λh=>absurd h (by rw[q];exact DD),F,H,λh1 z=>(I h1 z).elim λj d=>⟨j,d.1,d.2.1,Blk.ext d.2.2 A⟩,λh1 z=>(J h1 z).elim λj d=>⟨j,d.1,d.2.1,d.2.2.1.below A,λ_ N=>by rw[d.1] at N;injection N with N;injection N with N;have:=d.2.2.1.lt;omega⟩,λ_ _=>⟨X,rfl,m.size,aj⟩,λh=>(Y h).elim,λh=>(W h).elim,P,λh=>⟨((y h)).1,(((y h)).2).1,((((y h)).2).2).1,rfl⟩,R,O⟩
  refine Xc.cons rfl (λQ listed a X B s v KK C=>?_) ?_
  ·obtain⟨bb0,bb1,bb2,bb3,u,o,l,g,u3,u4,u5,u6,u7,u8,u9,u2,rfl,rfl,x,D,r⟩:=B;have b:=LH r;clear r;have a4:o=false:=s;have a5:bb0=true:=v ⟨0,.data⟩ AE rfl;have a7:bb2=true:=v ⟨2,.data⟩ AE rfl;have a8:bb3=true:=v ⟨3,.data⟩ AE rfl;have ap:u=true:=v ⟨4,.data⟩ AE rfl;have q:g=false:=by cases h:g with | false=>rfl | true=>exact absurd ((b.out.2.2.2.2.2.2.2.2.2.1 ((b.out.2.2.2.2.2.2.2.2.2.2 h)))) (by rw[a4];exact DD)
   have m:=x q;obtain rfl:=b.out.1 a5;obtain⟨T,rfl,ak,aa⟩:=b.out.2.2.1 a7 q;obtain⟨L,rfl,ab,ag,bx⟩:=b.out.2.2.2.1 a8 q;obtain⟨M,rfl,ad,ah⟩:=b.out.2.2.2.2.1 ap q;have W:l=true->False:=λh=>absurd ((b.out.2.2.2.2.2.2.2.2.2.1 h)) (by rw[a4];exact DD);clear s v;go_simp;obtain⟨F,H,I,J,E,U,V,P,y,R,O⟩:=b.out;exact C _ _ ⟨bb0,bb1,bb2,bb3,u,true,l,g,_,u4,_,_,_,_,u9,u2,rfl,rfl,x,D,F,H,I,J,E,λ_ _=>⟨T,L,M,rfl,ak,ab,ad,aa,ag,ah,λe=>bx ap (by rw[e])⟩,λh=>(W h).elim,P,λ_=>⟨a5,a7,a8,ap⟩,λh=>rfl,O⟩
  refine Xc.cons rfl (λQ listed a X B s v KK C=>?_) ?_
  ·obtain⟨bb0,bb1,bb2,bb3,u,o,l,g,u3,u4,u5,u6,u7,u8,u9,u2,rfl,rfl,x,D,r⟩:=B;have b:=LH r;clear r;have b2:l=false:=s;have a9:o=true:=v ⟨5,.data⟩ AE rfl;have q:g=false:=by cases h:g with | false=>rfl | true=>exact absurd ((b.out.2.2.2.2.2.2.2.2.2.2 h)) (by rw[b2];exact DD)
   have m:=x q;obtain⟨T,L,M,rfl,ak,ab,ad,aa,ag,ah,ax⟩:=b.out.2.2.2.2.2.1 a9 q;have A:=Zy X (aC #[K a1 n1 c1,K a2 n2 c2,K a3 n3 c3,aI aJ G.zt,K (some ⟨T,0,aN⟩) n2 n2,Value.map (some L),Value.map (some M)] 211);have bo:=Blk.new X 211 #[K a1 n1 c1,K a2 n2 c2,K a3 n3 c3,aI aJ G.zt,K (some ⟨T,0,aN⟩) n2 n2,Value.map (some L),Value.map (some M)];clear s v;go_simp;obtain⟨F,H,I,J,E,U,V,P,y,R⟩:=b.out;exact C _ _ ⟨bb0,bb1,bb2,bb3,u,o,true,g,u3,u4,u5,u6,u7,_,_,u2,rfl,rfl,λ_=>Zz m A,λh=>absurd h (by rw[q];exact DD),F,H,λh1 z=>(I h1 z).elim λj d=>⟨j,d.1,d.2.1,Blk.ext d.2.2 A⟩,λh1 z=>(J h1 z).elim λj d=>⟨j,d.1,d.2.1,d.2.2.1.below A,d.2.2.2⟩,λh1 z=>(E h1 z).elim λj d=>⟨j,d.1,d.2.1,d.2.2.below A⟩,λ_ _=>⟨T,L,M,rfl,ak,ab,ad,Blk.ext aa A,ag.below A,ah.below A,ax⟩,λ_ _=>⟨⟨X,T,L,M⟩,rfl,bo,Blk.ext aa A,ag.below A,ah.below A,ax,ab,ad⟩,P,y,λ_=>a9,λh=>rfl⟩
  refine Xc.cons rfl (λQ listed a X B s v KK C=>?_) ?_
  ·obtain⟨bb0,bb1,bb2,bb3,u,o,l,g,u3,u4,u5,u6,u7,u8,u9,u2,rfl,rfl,x,D,r⟩:=B;have b:=LH r;clear r;have b3:g=false:=s;have ba:l=true:=v ⟨6,.data⟩ AE rfl;have q:g=false:=b3;have m:=x q;obtain⟨k,rfl,al,ae,af,bt,bu,bv,bw⟩:=b.out.2.2.2.2.2.2.1 ba q;have ar:=Zz Z.out m;have bb:=LH (And.intro ar (cnt_new (h:=⟨a1,n1,c1,a2,n2,c2,a3,n3,c3⟩) ar al ae af bt bu (BC Z.out.size bv) (BC Z.out.size bw)));clear s v;go_simp;exact C _ _ ⟨bb0,bb1,bb2,bb3,u,o,l,true,u3,u4,u5,u6,u7,u8,_,_,rfl,rfl,nofun,λ_=>⟨k,rfl,bb.out⟩,b.out.1,b.out.2.1,λ_=>nofun,λ_=>nofun,λ_=>nofun,λ_=>nofun,λ_=>nofun,b.out.2.2.2.2.2.2.2.1,b.out.2.2.2.2.2.2.2.2.1,b.out.2.2.2.2.2.2.2.2.2.1,λ_=>ba⟩
  exact Xc.nil
 rintro listed a W9⟨bb0,bb1,bb2,bb3,u,o,l,g,u3,u4,u5,u6,u7,u8,u9,u2,rfl,rfl,x,D,b⟩ au;have bq:=D (au 7 AC);clear x D au b;obtain⟨k,al,ae,af⟩:=bq;subst al;have bd:=LH ae;have be:=LH af;clear ae af;go_wp2_with fail;go_ret;exact⟨bd.out,k,rfl,be.out⟩
open Go.Lib Go.Sort in
def tr_Del(B f g a n:Nat)(N:List Bool)(ss:List Int)(v:Value)(w:World)(O:w.ownsRow B 3 1 v n (ints .i64 ss))(z:Zwl w f g a N)(W:f<B)(U:g<B)(C:B<=w.heap.size)(y:a<=1000)(P:∀s∈ss,-(a:Int)<=s/\s<=1000):
 Calls prog 198 #[v,.func (.func 199) #[] #[aP (some ⟨f,0,aN⟩)]] w λe w'=>(∃A c,e = aR (K A (Vo N ss).length c)/\Za .i64 w' A (Vo N ss).length c (Vo N ss))/\Below B w w':=by
 obtain⟨r,⟨rfl,rfl⟩ | ⟨b,cap,o,rfl,E,I,T,u,X,S⟩⟩:=O
 ·have R:ss=[]:=by
   rw[Y9] at r;exact List.length_eq_zero_iff.1 AA
  subst R;refine (tr_Del_nil _ w).mono ?_;rintro e w'⟨rfl,rfl⟩;exact⟨⟨aN,0,rfl,Za.nil _ _ _ _ AC⟩,AP _ _⟩
 obtain⟨ds,l⟩:=sb_list ss P;have h:Blk w b 3 o:=I;have t:(Q ds)=n:=by
  rw[Y9] at r;rw[<-BI (λs:Sb a=>s.1),l];omega
 have p:Holds (encB a) w b 0 ds.toArray:=λj d=>by
  have J:j<(Q ds):=by simpa using d
  refine⟨?_,Blk.frozen h _⟩;rw[BF,Blk.cell h j];have h1:o[j]? = (ints .i64 ss)[j]? := by
   rw[<-S,Eh,List.getElem?_take_of_lt AA,Array.getElem?_toList]
  rw[h1,<-l];rw[getElem!_pos ds.toArray j d];simp[ints,encB,J]
 have M:ds.toArray.size=n:=by simpa using t
 have m:=bare_map N ds;rw[l] at m;have k:=Tryz.slices_DeleteFunc (encB a) (λ_=>rfl) (λs=>Xg N s.1) 199 #[aP (some ⟨f,0,aN⟩)] enters_bare (⟨0,AA,AA⟩:Sb a) (λw=>AB) b 0 cap ds.toArray w
  (pred_bare z AA AA y) (over_bare z AA AA y 0 ds.toArray.size AA AA) p (by simp[maxLen] at u;omega) AA
 rw[M] at k;refine k.mono ?_;clear k;have D:(Vo N ss).length=(ds.filter λx=>!Xg N x.1).length:=by rw[<-m,BI]
 have V:(ds.filter λx=>!Xg N x.1).length<=n:=by rw[<-t];exact List.length_filter_le _ _
 have G:=h.lt;simp only[List.toList_toArray];rw[D,<-m];generalize (ds.filter λx=>!Xg N x.1)=F at *;rintro e w'⟨rfl,q,rfl⟩;refine⟨⟨_,_,rfl,?_⟩,Zn (put_grown w q b 0 _) C E⟩;have H:=holds_putRow (encB a) (Sort.ahead w q) b 0 ds.toArray (F++List.replicate (n-(Q F)) (⟨0,AA,AA⟩:Sb a)).toArray p AG;refine⟨by simp[ints],AA,by simp[maxLen] at u;omega,λ_=>⟨b,0,rfl,by simpa using G,λj d=>?_⟩⟩;have L:j<(Q F):=by simpa [ints] using d
 rw[(H j AG).1];rw[getElem!_pos _ j AG];simp[ints,encB,L]
def tr_Cycles(l:B5)(h:GH)(G:Gr)(w:World)(d:Yf w h G)(C:∀t∈G.T,t.name.size<=maxLen)(u:Q2 w)(h1:h.n1<=100)(h2:h.n2<=100)(h3:h.n3<=100):
 Calls prog 97 #[GV h G.zt] w λe w'=>Below w w w'/\e = aR (aI .u32 ((Vh G:Nat):Int)):=by
 obtain⟨a1,n1,c1,a2,n2,c2,a3,n3,c3⟩:=h;have q:(Q G.O)=n2:=d.O.len;have k2:=d.O.cap;simp only[] at h1 h2 h3 k2;have N:=LH u;unfold B5 at l;have L:=LH l;have k:=Zy w (aC #[K a1 n1 c1,K a2 n2 c2,K a3 n3 c3,aI aJ G.zt] 26);have A:=Y1.new w 26 ⟨a1,n1,c1,a2,n2,c2,a3,n3,c3⟩ G.zt;have P:=LH d;have U:=LH C;clear d C u l;go_enter func97,ntmps97;have⟨z5,z0,z1,z2,z3⟩:=A;simp only[] at z0 z1 z2 z3;go_wp2_with fail;generalize w.alloc (aC #[K a1 n1 c1,K a2 n2 c2,K a3 n3 c3,aI aJ G.zt] 26)=Z at *;(with_reducible refine (L.out ⟨a1,n1,c1,a2,n2,c2,a3,n3,c3⟩ G Z (P.out.below k) U.out (by simp only[];omega) (by simp only[];omega) (by simp only[];omega)).mono ?_);rintro e p⟨y,aj⟩;have f:=LH (Zz k y);clear z0 z1 z2 z3 z5 A k y;rcases aj with ⟨a,rfl⟩ | ⟨a,gS,ag,rfl,r⟩
 ·have g:Hid (Vh G=0):=LH (by unfold Vh;rw[a];rfl);clear a;go_wp2_with fail;go_loop [2,9] (λs i=>s = aI .u32 0/\i = aI aJ 0) (λs i=>0)
  case atStart=>exact⟨rfl,rfl⟩
  obtain⟨rfl,rfl⟩:=hrel;go_wp2_with fail;go_ret;exact⟨f.out,by rw[g.out];rfl⟩
 have m:=Gr.fits a;have T:=m.n2.2;rw[q] at T;have B:=Au G m;have n:(Yz G).length=n2:=by rw[Wh];exact q
 have o:=Ks G;have g:Hid (Vh G=Jb (λi=>Yw (Yz G) i i) n2):=LH (by unfold Vh cycS;rw[a,n];rfl);have M:=LH r;generalize Yz G=S at *;have R:=LH B;have W:=LH n;have Y:=LH o;have O:=LH (Lv o);clear m a r ag o B n;go_wp2_with fail;go_loopw [2,9] (λs i wr=>∃j:Nat,j<=n2/\i = aI aJ (j:Int)/\s = aI .u32 ((Jb (λi=>Yw S i i) j:Nat):Int)/\Hid (Below p p wr)) (λs i _=>n2-(intOf i).toNat)
 case atStart=>exact⟨0,AV _,rfl,rfl,LH (AP _ _)⟩
 obtain⟨j,hj,rfl,rfl,b⟩:=hrel;by_cases ah:j<n2
 case neg =>
  obtain rfl:j=n2:=AA
  go_wp2_with fail;go_ret;exact⟨Zz f.out b.out,by rw[g.out];rfl⟩
 have J:=LH (tr_reach gS n2 j S wr (Blk.ext M.out b.out) W.out AA ah Y.out R.out (N.out.below (Zz f.out b.out)));have I:=LH λX=>tr_one (j:Int) X;have c:=O.out.get j;have am:=and32 ((Xu S).getD j 0) (Y6 (j:Int)) c (Ua _);have x:=and_one _ c j;have H:((Xu S).getD j 0).testBit j=Yw S j j:=rfl;have E:=Mp (λi=>Yw S i i) j;have ai:=or32 (Jb (λi=>Yw S i i) j) ((Xu S).getD j 0 &&& Y6 (j:Int)) (Jg _ _) (En Nat.and_le_left c);have F:Jb (λi=>Yw S i i) j ||| ((Xu S).getD j 0 &&& Y6 (j:Int))=Jb (λi=>Yw S i i) (j+1):=by
  rw[E,x,H];cases Yw S j j
  ·simp
  rfl
 rw[F] at ai;generalize D:Jb (λi=>Yw S i i) (j+1)=s1 at *;have V:=LH D;clear D;generalize Jb (λi=>Yw S i i) j=s0 at *;generalize (Xu S).getD j 0 &&& Y6 (j:Int)=z at *;generalize (Xu S).getD j 0=v at *;generalize Y6 (j:Int)=bj at *;clear x H E F c;go_wp2_with (first
  | (go_at_call 156;(with_reducible refine J.out.mono ?_);rintro e w2⟨rfl,ae⟩)
  | (go_at_call 157;(with_reducible refine (I.out _).mono ?_);rintro e w3⟨rfl,af⟩))
 go_roundw
 case rel=>exact⟨j+1,AA,AF,by rw[V.out],LH (Zz (Zz b.out ae) af)⟩
 simp[intOf];omega
def tr_Steps(h:GH)(G:Gr)(w:World)(hg:Yf w h G)(hs:∀t∈G.T,t.name.size<=maxLen)(h1:h.n1<=100)(h2:h.n2<=100)(h3:h.n3<=100):
 Calls prog 155 #[GV h G.zt] w λe w'=>Below w w w' /\
  ((G.rt=false/\e = aR (aK aN 0 0))\/(G.rt=true/\∃g,w.heap.size<=g/\e = aR (aK (some ⟨g,0,aN⟩) h.n2 h.n2)/\V0 w' g (Yz G))):=by
 obtain⟨a1,n1,c1,a2,n2,c2,a3,n3,c3⟩:=h;have e2:(Q G.O)=n2:=hg.O.len;have e3:(Q G.U)=n3:=hg.U.len;have k3:=hg.U.cap;have k2:=hg.O.cap;simp only[] at h1 h2 h3 k3 k2;have Hg:=LH hg;have Hs:=LH hs;have cm:=Zy w (aC #[aK a1 n1 c1,aK a2 n2 c2,aK a3 n3 c3,aI aJ G.zt] 26);have ct:=Y1.new w 26 ⟨a1,n1,c1,a2,n2,c2,a3,n3,c3⟩ G.zt;have gf:=Zvx n2 AA;clear hg hs;go_enter func155,ntmps155;have⟨z5,z0,z1,z2,z3⟩:=ct;simp only[] at z0 z1 z2 z3;go_wp2_with fail;generalize w.alloc (aC #[aK a1 n1 c1,aK a2 n2 c2,aK a3 n3 c3,aI aJ G.zt] 26)=W0 at *;(with_reducible refine (J4 ⟨a1,n1,c1,a2,n2,c2,a3,n3,c3⟩ G W0 (Hg.out.below cm) Hs.out (by simp only[];omega) (by simp only[];omega)).mono ?_);rintro e W⟨rfl,cq⟩;have a4:=Zz cm cq;have cu:=ct.below cq;clear z0 z1 z2 z3 z5 ct;have⟨y5,y0,y1,y2,y3⟩:=cu;simp only[] at y0 y1 y2 y3;rcases bs:G.rt with _ | _
 ·go_wp2_with fail;go_ret;exact⟨a4,.inl ⟨bs,rfl⟩⟩
 have du:=Gr.fits bs;have cg:=LH bs;have ca:=LH du;have CN:=LH λX (L:Below W W X)=>(Zzh ⟨a1,n1,c1,a2,n2,c2,a3,n3,c3⟩ G X ((Hg.out.below a4).below L) Hs.out (by simp only[];omega) (by simp only[];omega) (by simp only[];omega)).mono λe w' c=>And.intro (Zz L c.1) (And.intro (LH c.1) (c.2.resolve_left λhc=>by rw[cg.out] at hc;cases hc.1).2);have CP:=LH λX (L:Below W W X)=>(N4 ⟨a1,n1,c1,a2,n2,c2,a3,n3,c3⟩ G X ((Hg.out.below a4).below L) Hs.out (by simp only[];omega) (by simp only[];omega) (by simp only[];omega)).mono λe w' c=>And.intro (Zz L c.1) (And.intro (LH c.1) (c.2.resolve_left λhc=>by rw[cg.out] at hc;cases hc.1).2);have HS:Hid (∀W',Below W W W'->W'.cell? ⟨w,0,aN⟩=some (aK a1 n1 c1)/\W'.cell? ⟨w,1,aN⟩=some (aK a2 n2 c2)/\W'.cell? ⟨w,2,aN⟩=some (aK a3 n3 c3)/\W'.cell? ⟨w,3,aN⟩=some (aI aJ G.zt)/\Below W W W'):=LH λW' L=>⟨by rw[L.cell (by exact y5)];exact y0,by rw[L.cell (by exact y5)];exact y1,by rw[L.cell (by exact y5)];exact y2,by rw[L.cell (by exact y5)];exact y3,L⟩;have fa:=LH a4;have fk:=LH cu;clear bs du a4 cu cm cq;go_upto_region 3 with fail;refine Dq (λlisted a X=>∃b0 u F y A B H:Bool,∃u3 u4 u14 u15 u16 u17:Value,listed=#[b0,u,F,y,A,B,H]/\a=(⟨(GV ⟨a1,n1,c1,a2,n2,c2,a3,n3,c3⟩ G.zt::aP (some ⟨w,0,aN⟩)::aK aN 0 0::u3::u4::undef::undef::undef::undef::undef::undef::aG #[aK a1 n1 c1,aK a2 n2 c2,aK a3 n3 c3,aI aJ G.zt]::aB true::aB false::u14::u15::u16::u17::undef::undef::undef::undef::undef::undef::undef::undef::undef::undef::undef::undef::undef::undef::undef::undef::undef::undef::undef::undef::undef::undef::undef::undef::undef::undef::undef::undef::undef::undef::undef::undef::undef::undef::undef::undef::undef::undef::undef::undef::undef::undef::undef::undef::undef::undef::undef::undef::undef::undef::undef::undef::undef::undef::undef::undef::undef::undef::undef::undef::undef::undef::[]).toArray,[]⟩:Act)/\Below W W X /\
  (b0=true->u14=aG #[aK a1 n1 c1,aK a2 n2 c2,aK a3 n3 c3,aI aJ G.zt])/\(F=true->u16=aG #[aK a1 n1 c1,aK a2 n2 c2,aK a3 n3 c3,aI aJ G.zt]) /\
  (u=true->∃C,W.heap.size<=C/\u15=aK (some ⟨C,0,aN⟩) n2 n2/\Z8 X C (Zj G)) /\
  (y=true->∃I,W.heap.size<=I/\u17=aK (some ⟨I,0,aN⟩) n2 n2/\Z8 X I (Zt G)) /\
  (A=true->∃q v,W.heap.size<=q/\u3=aP (some ⟨q,0,aN⟩)/\Blk X q 103 #[v]/\(B=true->v=u15))/\(B=true->u=true/\A=true)/\(H=true->u4=u17/\y=true)) AB AB ?_ ?_ ?_
 ·exact⟨false,false,false,false,false,false,false,undef,undef,undef,undef,undef,undef,rfl,rfl,(AP _ _).drew,nofun,nofun,nofun,nofun,nofun,nofun,nofun⟩
 ·refine Xw.cons (λlisted a X Y M E K Z=>?_) ?_
  ·obtain⟨b0,u,F,y,A,B,H,u3,u4,u14,u15,u16,u17,rfl,rfl,D,N,P,O,R,S,U,T⟩:=Y;obtain⟨q0,q1,q2,q3,_⟩:=HS.out X D;clear M E;go_simp;exact Z _ _ ⟨true,u,F,y,A,B,H,u3,u4,_,u15,u16,u17,rfl,rfl,D,λ_=>rfl,P,O,R,S,U,T⟩
  refine Xw.cons (λlisted a X Y M E K Z=>?_) ?_
  ·obtain⟨b0,u,F,y,A,B,H,u3,u4,u14,u15,u16,u17,rfl,rfl,D,N,P,O,R,S,U,T⟩:=Y;have p0:b0=true:=E ⟨0,.data⟩ AE rfl;obtain rfl:=N p0;have n1:u=false:=M;have n5:B=true->False:=λh=>by have:=(U h).1;rw[n1] at this;cases this
   clear M E;go_simp;(with_reducible refine (CN.out _ D).mono ?_);rintro e w2⟨cn,a0,C,ar,rfl,an⟩;go_simp;exact Z _ _ ⟨b0,true,F,y,A,B,H,u3,u4,_,_,u16,u17,rfl,rfl,cn,λ_=>rfl,P,λ_=>⟨C,BC D.size ar,rfl,an⟩,λh=>(R h).imp λI c=>⟨c.1,c.2.1,Blk.ext c.2.2 a0.out⟩,λh=>(S h).imp λq c=>c.imp λv hv=>⟨hv.1,hv.2.1,Blk.ext hv.2.2.1 a0.out,λh5=>absurd h5 n5⟩,λh=>absurd h n5,T⟩
  refine Xw.cons (λlisted a X Y M E K Z=>?_) ?_
  ·obtain⟨b0,u,F,y,A,B,H,u3,u4,u14,u15,u16,u17,rfl,rfl,D,N,P,O,R,S,U,T⟩:=Y;obtain⟨q0,q1,q2,q3,_⟩:=HS.out X D;clear M E;go_simp;exact Z _ _ ⟨b0,u,true,y,A,B,H,u3,u4,u14,u15,_,u17,rfl,rfl,D,N,λ_=>rfl,O,R,S,U,T⟩
  refine Xw.cons (λlisted a X Y M E K Z=>?_) ?_
  ·obtain⟨b0,u,F,y,A,B,H,u3,u4,u14,u15,u16,u17,rfl,rfl,D,N,P,O,R,S,U,T⟩:=Y;have p2:F=true:=E ⟨2,.data⟩ AE rfl;obtain rfl:=P p2;have gq:y=false:=M;have n6:H=true->False:=λh=>by have:=(T h).2;rw[gq] at this;cases this
   clear M E;go_simp;(with_reducible refine (CP.out _ D).mono ?_);rintro e w2⟨cn,a0,I,a6,rfl,ax⟩;go_simp;exact Z _ _ ⟨b0,u,F,true,A,B,H,u3,u4,u14,u15,_,_,rfl,rfl,cn,N,λ_=>rfl,λh=>(O h).imp λC c=>⟨c.1,c.2.1,Blk.ext c.2.2 a0.out⟩,λ_=>⟨I,BC D.size a6,rfl,ax⟩,λh=>(S h).imp λq c=>c.imp λv hv=>⟨hv.1,hv.2.1,Blk.ext hv.2.2.1 a0.out,hv.2.2.2⟩,U,λh=>absurd h n6⟩
  refine Xw.cons (λlisted a X Y M E K Z=>?_) ?_
  ·obtain⟨b0,u,F,y,A,B,H,u3,u4,u14,u15,u16,u17,rfl,rfl,D,N,P,O,R,S,U,T⟩:=Y;have n4:A=false:=M;have n5:B=true->False:=λh=>by have:=(U h).2;rw[n4] at this;cases this
   clear M E;go_simp;exact Z _ _ ⟨b0,u,F,y,true,B,H,_,u4,u14,u15,u16,u17,rfl,rfl,Zo D _,N,P,λh=>(O h).imp λC c=>⟨c.1,c.2.1,Blk.ext c.2.2 (Zy _ _)⟩,λh=>(R h).imp λI c=>⟨c.1,c.2.1,Blk.ext c.2.2 (Zy _ _)⟩,λ_=>⟨_,_,D.size,rfl,Blk.new _ _ _,λh5=>absurd h5 n5⟩,λh=>absurd h n5,T⟩
  refine Xw.cons (λlisted a X Y M E K Z=>?_) ?_
  ·obtain⟨b0,u,F,y,A,B,H,u3,u4,u14,u15,u16,u17,rfl,rfl,D,N,P,O,R,S,U,T⟩:=Y;have p1:u=true:=E ⟨1,.data⟩ AE rfl;have p4:A=true:=E ⟨4,.data⟩ AE rfl;obtain⟨C,ar,rfl,an⟩:=O p1;obtain⟨q,v,br,rfl,HK,_⟩:=S p4;have cy:C≠q:=by
    rintro rfl;have h4:=an.symm.trans HK;simp at h4
   have gg:∀I,Z8 X I (Zt G)->I≠q:=by
    rintro I ax rfl;have h4:=ax.symm.trans HK;simp at h4
   have he:=HK.cell 0;have bo:=HK.frozen 0;have hq:=HK.lt;clear M E;go_simp;exact Z _ _ ⟨b0,u,F,y,A,true,H,_,u4,u14,_,u16,u17,rfl,rfl,Zg D q 0 _ br,N,P,λ_=>⟨C,ar,rfl,Blk.other an q 0 _ cy⟩,λh=>(R h).imp λI c=>⟨c.1,c.2.1,Blk.other c.2.2 q 0 _ (gg I c.2.2)⟩,λ_=>⟨q,_,br,rfl,Blk.set HK 0 _,λ_=>rfl⟩,λ_=>⟨p1,p4⟩,T⟩
  refine Xw.cons (λlisted a X Y M E K Z=>?_) ?_
  ·obtain⟨b0,u,F,y,A,B,H,u3,u4,u14,u15,u16,u17,rfl,rfl,D,N,P,O,R,S,U,T⟩:=Y;have p3:y=true:=E ⟨3,.data⟩ AE rfl;clear M E;go_simp;exact Z _ _ ⟨b0,u,F,y,A,B,true,u3,_,u14,u15,u16,u17,rfl,rfl,D,N,P,O,R,S,U,λ_=>⟨rfl,p3⟩⟩
  exact Xw.nil
 rintro listed a w3⟨b0,u,F,y,A,B,H,u3,u4,u14,u15,u16,u17,rfl,rfl,co,N,P,O,R,S,U,T⟩ aj;obtain⟨C,ar,rfl,an⟩:=O (aj 1 AC);obtain⟨I,a6,rfl,ax⟩:=R (aj 3 AC);obtain⟨q,v,br,rfl,de,hv⟩:=S (aj 4 AC);obtain rfl:=hv (aj 5 AC);obtain⟨rfl,_⟩:=T (aj 6 AC);obtain rfl:=N (aj 0 AC);obtain rfl:=P (aj 2 AC);have db:Hid (Z8 w3 C (Zj G)):=an;have dc:Hid (Z8 w3 I (Zt G)):=ax;have da:Hid (Blk w3 q 103 #[aK (some ⟨C,0,aN⟩) n2 n2]):=de;have am:=LH (Zz fa.out co);have b9:=LH (fk.out.below co);clear N P O R S U T aj ar a6 br an ax de hv co CN CP HS y0 y1 y2 y3 y5;have⟨y5,y0,y1,y2,y3⟩:=b9.out;simp only[] at y0 y1 y2 y3;go_upto_region 5 with fail;have dl:=V0.new w3 (List.replicate n2 0);have cp:=Zy w3 (aC (nums .u32 (List.replicate n2 0)).toArray 41);generalize w3.alloc (aC (nums .u32 (List.replicate n2 0)).toArray 41)=W4 at *;generalize dv:w3.heap.size=f at *;have ah:=LH dv;have fi:=LH dl;have fb:=LH cp;have dr:=b9.out.below (by rw[ah.out];exact cp);clear dv dl cp y0 y1 y2 y3 y5 gf;have⟨y5,y0,y1,y2,y3⟩:=dr;simp only[] at y0 y1 y2 y3;clear dr;go_wp2_with fail;clear y0 y1 y2 y3 y5;go_loopw [25] (λi wr=>∃j:Nat,j<=n3/\i = aI aJ (j:Int)/\Hid (Below f w3 wr)/\Hid (V0 wr f (Wo (Zj G) (Zt G) (G.U.take j) (List.replicate n2 0)))) (λi _=>n3-(intOf i).toNat)
 case atStart=>exact⟨0,AV _,rfl,fb,LH (by simpa [Wo] using fi.out)⟩
 obtain⟨j,hj,rfl,HB,V⟩:=hrel;have cv:w3.heap.size=f:=ah.out;have be:=LH (am.out.trans (HB.out.mono (by rw[<-cv];exact am.out.size)));have fw:=b9.out.below (by rw[cv];exact HB.out);clear cv fw;by_cases f8:j<n3
 case neg =>
  obtain rfl:j=n3:=AA
  have Hf:Hid (V0 wr f (Yz G)):=LH (by have:=V.out;rw[AQ AA] at this;unfold Yz;rw[e2];exact this);go_wp2_with fail;go_ret;exact⟨be.out,.inr ⟨cg.out,f,by rw[<-ah.out];exact am.out.size,rfl,Hf.out⟩⟩
 obtain⟨bb,hy,r,Ar,cr,rfl,dn,Hr,q0,q1,q2,d0⟩:=Hg.out.U.get f8;rw[<-be.out.cell (by exact dn)] at q0 q1 q2;have L:bb<wr.heap.size:=AK dn be.out.size;have cf:=LH d0;have bp:=AM Hr.out;have fo:Hid (Wo (Zj G) (Zt G) (G.U.take (j+1)) (List.replicate n2 0)=Y2 (Zj G) (Zt G) r (Q r.rt) (Wo (Zj G) (Zt G) (G.U.take j) (List.replicate n2 0))):=LH (by rw[Ya Hr.out,Zz0]);have ds:(Wo (Zj G) (Zt G) (G.U.take j) (List.replicate n2 0)).length=n2:=by rw[De];simp
 have dt:=Lm (Zj G) (Zt G) (G.U.take j) (We.zero n2);generalize Wo (Zj G) (Zt G) (G.U.take j) (List.replicate n2 0)=l at *;obtain⟨l1,l2⟩:=ca.out.L r bp;obtain⟨d,dx⟩:∃d:Nat,r.L=(d:Int):=⟨r.L.toNat,AA⟩;have f9:d<n2:=AA
 have fn:Hid (r.L.toNat=d):=LH AA;have hp:=ca.out.len r bp;have c5:=ca.out.symB bp;rw[e2] at c5;rw[dx] at q0;have dh:=LH c5;have fl:=LH ds;have fm:=LH dt;have cs:=Zy wr (aC #[aI aJ (d:Int),aK Ar (Q r.rt) cr,aI aJ r.P] 60);have dk:=Blk.new wr 60 #[aI aJ (d:Int),aK Ar (Q r.rt) cr,aI aJ r.P];have au:f<wr.heap.size:=V.out.lt;clear d0 c5 ds dt l1 l2 dx bp;go_upto_region 8 with fail;have dd:Hid (V0 (wr.alloc (aC #[aI aJ (d:Int),aK Ar (Q r.rt) cr,aI aJ r.P] 60)) f l):=Blk.ext V.out cs;have bd:=LH (HB.out.trans (cs.mono (DS au)));have bg:=LH dk;have hl:f<wr.heap.size:=au;generalize wr.alloc (aC #[aI aJ (d:Int),aK Ar (Q r.rt) cr,aI aJ r.P] 60)=WA at *;generalize wr.heap.size=gR at *;clear cs dk q0 q1 q2 V HB be L;have gd:f<WA.heap.size:=dd.out.lt;have fu:=bg.out.lt;have r0:=bg.out.cell 0;have r1:=bg.out.cell 1;have fc:=LH (am.out.trans (bd.out.mono (by rw[<-ah.out];exact am.out.size)));have ar:C<f:=by have:=db.out.lt;rw[ah.out] at this;exact this
 have a6:I<f:=by have:=dc.out.lt;rw[ah.out] at this;exact this
 have f7:q<f:=by have:=da.out.lt;rw[ah.out] at this;exact this
 have CC:=LH (Zxu Ar (Q r.rt) cr r.rt WA (cf.out.below fc.out) AA);have ff:Hid ((Zj G).length=n2):=LH (by rw[Qe,Qq];exact e2);have CD:=LH λX v' (hB:Below WA WA X) (bq:X.ownsRow WA 3 1 v' (Q r.rt) (ints .i64 r.rt))=>(tr_Del WA q C n2 (Q r.rt) (Zj G) r.rt v' X bq
  ⟨by rw[(hB.cell (p:=⟨q,0,aN⟩) (by show q<_;omega)).trans ((bd.out.cell (p:=⟨q,0,aN⟩) f7))];exact da.out.cell 0,λi hi=>by rw[(hB.cell (p:=⟨C,i,aN⟩) (by show C<_;omega)).trans ((bd.out.cell (p:=⟨C,i,aN⟩) ar))];exact db.out.at (by rw[ff.out];exact hi)⟩ AA AA hB.size AA dh.out).mono λe w' c=>And.intro c.1 (hB.trans c.2)
 go_wp2_with (first
  | (go_at_call 92;(with_reducible refine CC.out.mono ?_);rintro e wc⟨v',rfl,bq,di⟩)
  | (go_at_call 198;(with_reducible refine (CD.out _ _ di bq).mono ?_);rintro e wd⟨⟨Ab,cb,rfl,dp⟩,a5⟩;have gy:=(a5.cell (p:=⟨gR,1,aN⟩) fu).trans r1))
 have fd:=LH (bd.out.trans (a5.mono (DS gd)));have fh:=LH (Blk.ext bg.out a5);have b7:Hid (V0 wd f l):=Blk.ext dd.out a5;have b8:=LH dp;have ge:f<wd.heap.size:=b7.out.lt;have hd:=cf.out.cap;clear bq di a5 dp gy r0 r1 CC CD;go_loopw [37] (λi wz=>∃kk:Nat,kk<=(Q r.rt)/\i = aI aJ (kk:Int)/\Hid (V0 wz f (Y2 (Zj G) (Zt G) r kk l))/\Hid (wd.grownBy wz (some f))) (λi _=>(Q r.rt)-(intOf i).toNat)
 case atStart=>exact⟨0,AV _,rfl,b7,LH (Jl _ _)⟩
 obtain⟨kk,ho,rfl,V,ad⟩:=hrel;have fv:gR≠f:=AA
 have bn:=fh.out.grown ad.out (by intro e;injection e with e;exact fv e);have r0:=bn.cell 0;have g9:gR<wr.heap.size:=bn.lt;have bx:=LH (fd.out.trans (Zn ad.out (DS ge) (AJ _)));have fe:=LH (am.out.trans (bx.out.mono (by rw[<-ah.out];exact am.out.size)));have al:(Y2 (Zj G) (Zt G) r kk l).length=n2:=by rw[Kb];exact fl.out
 have af:=N1 (Zj G) (Zt G) r fm.out kk;have fp:=LH (cf.out.below fe.out);have au:f<wr.heap.size:=V.out.lt;by_cases gc:kk<(Q r.rt)
 case neg =>
  obtain rfl:kk=(Q r.rt):=AA
  clear al af bn;go_wp2_with fail;go_roundw
  case rel=>exact⟨j+1,AA,AF,bx,LH (by rw[fo.out];exact V.out)⟩
  simp[intOf];omega
 obtain⟨sb,so,s,rfl,hr,Hs,qs⟩:=fp.out.get gc;have gj:=dh.out s (AM Hs.out);have dz:=Uk (Zj G) (Zt G) r kk l;have dw:Um (Zj G) (Zt G) r kk (Y2 (Zj G) (Zt G) r kk l)=if Xk (Zj G) (Zt G) r.rt kk s then addAt d (Y6 (-1-s)) (Y2 (Zj G) (Zt G) r kk l) else Y2 (Zj G) (Zt G) r kk l:=by unfold Um;rw[Hs.out];simp only[fn.out]
 have cd:=LH (dz.trans dw);have dm:=V.out.at (i:=d) (by rw[al];exact f9);have dj:Z8 wr I (Zt G):=Blk.below dc.out bx.out a6;have fg:Hid ((Zt G).length=n2):=LH (by rw[Vx];exact e2);have c4:=(stands_eq (null_prod G) Hs.out).symm;unfold Zyn at c4;have dq:∀k,k<(Vo (Zj G) r.rt).length->∃b o x,Ab=some ⟨b,o,aN⟩/\b<wr.heap.size/\Hid ((Vo (Zj G) r.rt)[k]? = some x)/\wr.cell? ⟨b,o+k,aN⟩=some (aI aJ x):=λk hk=>by
  obtain⟨b,o,x,e,L,Hx,hc⟩:=b8.out.get hk;have cy:b≠f:=by
   rintro rfl;have h2:=b7.out.cell (o+k);rw[hc] at h2;have h3:((nums .u32 l).toArray)[o+k]? = some (aI aJ x):=h2.symm;simp[nums] at h3
  exact⟨b,o,x,e,AK L ad.out.size,Hx,(Zrj ad.out L cy).trans hc⟩
 have ha:=b8.out.cap;have aa:=LH c4;have fj:=LH dq;clear dz dw c4 bn dq b8;generalize Vo (Zj G) r.rt=lb at *;have bi:Hid (Xk (Zj G) (Zt G) r.rt kk s=false->Hid (V0 wr f (Y2 (Zj G) (Zt G) r (kk+1) l))):=LH λhf=>LH (by rw[cd.out,hf];exact V.out);by_cases h0:0<=s
 ·have Hf:=bi.out (by rw[aa.out,show decide (s<0)=false by rw[AZ];omega];rfl);clear al af;go_wp2_with fail;go_roundw
  case rel=>exact⟨kk+1,AA,AF,Hf,ad⟩
  simp[intOf];omega
 have gh:decide (s<0)=true:=by rw[BA];omega
 obtain⟨J,ga,dy,hw⟩:=Vy (s:=s) (n:=n2) AA gj.1 AA;have c0:=Z8.at dj (i:=J) (by rw[fg.out];exact ga);have cc:=LH dy;have dg:Hid (Xk (Zj G) (Zt G) r.rt kk s=((true&&(Zt G).getD J false)&&(decide ((Q lb)=0) || (decide ((Q lb)=1)&&decide (lb[0]? = some s))))):=LH (by rw[aa.out,gh,cc.out]);clear dy dj aa;have aa:=dg;clear dg;generalize (Zt G).getD J false=pv at *;rcases pv with _ | _
 ·have Hf:=bi.out (by rw[aa.out];rfl);clear al af;go_wp2_with fail;go_roundw
  case rel=>exact⟨kk+1,AA,AF,Hf,ad⟩
  simp[intOf];omega
 rcases (AA:(Q lb)=0\/(Q lb)=1\/2<=(Q lb)) with hm | hm | hm
 ·have Hm:=LH hm;rw[hm] at aa;generalize (Q lb)=m at *;subst hm;have a7:Xk (Zj G) (Zt G) r.rt kk s=true:=by rw[aa.out];rfl
  have ao:Hid (Y2 (Zj G) (Zt G) r (kk+1) l=addAt d (Y6 (-1-s)) (Y2 (Zj G) (Zt G) r kk l)):=LH (by rw[cd.out,a7];rfl);have cz:-1-s=(J:Int):=by have:=cc.out;unfold Zp at this;omega
  rw[cz] at ao;have cx:=af.get d;have cw:=Ua (J:Int);have gi:=or32 ((Y2 (Zj G) (Zt G) r kk l).getD d 0) (Y6 (J:Int)) cx cw;have ce:=LH λx:Ext wr=>V0.put (Blk.ext V.out (Zr wr x):V0 (bl wr x) f (Y2 (Zj G) (Zt G) r kk l)) d ((Y2 (Zj G) (Zt G) r kk l).getD d 0 ||| Y6 (J:Int));have bo:=Blk.frozen V.out d;have CB:=LH λx:Ext wr=>tr_one (J:Int) (bl wr x);unfold addAt at ao;generalize (Y2 (Zj G) (Zt G) r kk l).getD d 0 ||| Y6 (J:Int)=z at *
  generalize (Y2 (Zj G) (Zt G) r kk l).getD d 0=gt at *;generalize Y6 (J:Int)=bv at *;have bc:=Yt wr;have bf:=Kh wr;clear a7 al af;go_upto_region 13 with fail;refine Yx 10 AB AB ?_;simp only[List.take_succ_cons,List.take_zero,List.drop_succ_cons,Ed];repeat (go_big_quiet_step ((go_at_call 157;with_reducible exact Ve (CB.out _))))
  refine BJ ?_;rintro _⟨x,rfl⟩;have fx:=(bc x f d au).trans dm;have fz:=(bf x f d au).trans bo;have gk:=Lb wr x;go_wp2_with fail;go_roundw
  case rel=>exact⟨kk+1,AA,AF,LH (by rw[ao.out];exact ce.out x),LH (Zc (Zc ad.out (Xz _ (Zr wr x))) (Zd _ _ _ _))⟩
  simp[intOf];omega
 ·obtain⟨xb,xo,x,rfl,hx,Hx,qx⟩:=fj.out 0 AA;have fq:Hid (decide (lb[0]? = some s)=decide (x=s)):=LH (by rw[Hx.out];simp);rw[hm,fq.out] at aa;have hu:wr.cell? ⟨xb,xo,aN⟩=some (aI aJ x):=qx;generalize (Q lb)=m at *;subst hm;clear qx;by_cases d2:x=s
  ·subst d2;have a7:Xk (Zj G) (Zt G) r.rt kk x=true:=by rw[aa.out];simp
   have ao:Hid (Y2 (Zj G) (Zt G) r (kk+1) l=addAt d (Y6 (-1-x)) (Y2 (Zj G) (Zt G) r kk l)):=LH (by rw[cd.out,a7];rfl);have cz:-1-x=(J:Int):=by have:=cc.out;unfold Zp at this;omega
   rw[cz] at ao;have cx:=af.get d;have cw:=Ua (J:Int);have gi:=or32 ((Y2 (Zj G) (Zt G) r kk l).getD d 0) (Y6 (J:Int)) cx cw;have ce:=LH λx:Ext wr=>V0.put (Blk.ext V.out (Zr wr x):V0 (bl wr x) f (Y2 (Zj G) (Zt G) r kk l)) d ((Y2 (Zj G) (Zt G) r kk l).getD d 0 ||| Y6 (J:Int));have bo:=Blk.frozen V.out d;have CB:=LH λx:Ext wr=>tr_one (J:Int) (bl wr x);unfold addAt at ao;generalize (Y2 (Zj G) (Zt G) r kk l).getD d 0 ||| Y6 (J:Int)=z at *
   generalize (Y2 (Zj G) (Zt G) r kk l).getD d 0=gt at *;generalize Y6 (J:Int)=bv at *;have bc:=Yt wr;have bf:=Kh wr;clear a7 al af;go_upto_region 13 with fail;refine Yx 10 AB AB ?_;simp only[List.take_succ_cons,List.take_zero,List.drop_succ_cons,Ed];repeat (go_big_quiet_step ((go_at_call 157;with_reducible exact Ve (CB.out _))))
   refine BJ ?_;rintro _⟨x,rfl⟩;have fx:=(bc x f d au).trans dm;have fz:=(bf x f d au).trans bo;have gk:=Lb wr x;go_wp2_with fail;go_roundw
   case rel=>exact⟨kk+1,AA,AF,LH (by rw[ao.out];exact ce.out x),LH (Zc (Zc ad.out (Xz _ (Zr wr x))) (Zd _ _ _ _))⟩
   simp[intOf];omega
  have Hf:=bi.out (by rw[aa.out,show decide (x=s)=false by rw[AZ];exact d2];rfl);clear al af;go_wp2_with fail;go_roundw
  case rel=>exact⟨kk+1,AA,AF,Hf,ad⟩
  simp[intOf];omega
 have Hf:=bi.out (by rw[aa.out,show decide ((Q lb)=0)=false by rw[AZ];omega,show decide ((Q lb)=1)=false by rw[AZ];omega];rfl);have g0:¬(((Q lb):Int)=0):=AA
 have g1:¬(((Q lb):Int)=1):=AA
 generalize (Q lb)=m at *;clear al af;go_wp2_with fail;go_roundw
 case rel=>exact⟨kk+1,AA,AF,Hf,ad⟩
 simp[intOf];omega
def stepsSaid:B5:=tr_Steps
def of_told(a:Xp G=true)(hi:Zi G=G)(f:Vh G=0){j:List Nat}(o:chkO G j=true)(q:chkT G j tab n=true)(A:n<=10){l:List Int}(y:(Q l)<=6)(r:(l.all λs=>G.has s)=true){m:Nat}(z:m<=n):Wi G l (m:Int)=Xm (Zx (Yk tab) l m):=by
 have g:G.rt=true/\(Zt G).getD G.zt.toNat false=true:=by unfold Xp at a;rw[AS] at a;exact a
 obtain⟨c,_,_⟩:=U7 g.1 g.2 hi f;have p:=Bt c.fits o;have u:=Zt9 c p q;have d:=BG.1 r;unfold Wi;rw[if_neg,if_neg (by rw[f];exact λh=>h rfl),DH]
 ·congr 1;refine (Wp λs b k x=>?_).symm;by_cases h0:0<=s
  ·rw[Xb G h0];unfold Yk;rw[if_pos h0]
  have v:=H7 (d s b);have t:Zp s<(Q G.O):=by unfold Zp;omega
  unfold Yk;rw[if_neg h0,u k AA _ t];congr 1;unfold Zp;omega
 rintro (h | h | h | h | ⟨s,b,h⟩)
 ·rw[Zzn.2 ⟨a,hi⟩] at h;cases h
 ·omega
 ·omega
 ·omega
 rw[d s b] at h;cases h
def Ztt{k:Nat}(h:k<=4):Zv Xt (-1) k=tab22A k 0:=by
 have:=Zt9 Zxe (Bt Zxe.fits ord22A) chk22A k h 0 AC;exact this.symm
def M0:Z0 (Zv Xt) Xt.U 0 1 1=0/\Yv (Zv Xt) (-1) [] 1 1=0/\Yv (Zv Xt) (-1) [-1] 2 1=0/\Yv (Zv Xt) (-1) [] 2 2=0/\Yv (Zv Xt) (-1) [-1] 3 1=0/\Yv (Zv Xt) (-1) [-1] 3 2=1:=by
 have a:Zv Xt (-1) 0=0:=(Ztt (k:=0) AC).trans AB;have b:Zv Xt (-1) 1=1:=(Ztt (k:=1) AC).trans AB;have c:Zv Xt (-1) 2=1:=(Ztt (k:=2) AC).trans AB;exact ahead22 a b c (by funext n;exact Xb Xt AC n)
section
open Go.Maps (Keyed IsMap Tidy)
open Go.Maps (Keyed IsMap Tidy)
def Yo.putT{v w':World}{k:CH}{h:GH}(C:Yo v k h G S w)(j:Zzo w k.t G S ts){s:Int}(H:s<0)(I:Zp s<100)(u:n<=100)(l:H8 w g (Zv G s n))(D:¬S g)(a:Vv prog 257 w' k.t ((kT s n,g)::ts.map λp=>(kT p.1.1 p.1.2,p.2)))(E:w.grownBy w' (some k.t)):Yo v k h G S w'/\Off k.maps w w':=by
 have b:=Off.of_grown E;have F:Zf w w':=Zf.of_off b λq f=>by injection f with f;rw[<-f];exact j.map.noInt
 have o:∀{q:Nat} {t:TypeId} {cs:Array Value},Blk w q t cs->Blk w' q t cs:=λy=>b.blk y λe=>by injection e with e;exact j.map.ne_blk y e.symm
 have r:∀{q x:Nat},H8 w q x->H8 w' q x:=λ{q x} l=>by
  obtain⟨A,n,c,d,h1,B⟩:=l;exact⟨A,n,c,d,o h1,B.kept F⟩
 refine⟨⟨C.base.trans (b.is_below C.base.size λq f=>by injection f with f;rw[<-f];exact C.low.1),o C.box,o C.nul,C.low,C.ne,⟨((s,n),g)::ts,by simpa using a,λp a=>?_,λp a=>?_⟩,?_⟩,⟨b.os,b.tape,b.output,b.size,λq f u=>b.keep q f λe=>u (by injection e with e;exact .inl e.symm)⟩⟩
 ·rcases BY.1 a with e | a
  ·rw[e];exact⟨H,I,u⟩
  exact j.key p a
 ·rcases BY.1 a with e | a
  ·rw[e];exact⟨r l,D⟩
  exact⟨r (j.val p a).1,(j.val p a).2⟩
 obtain⟨z,m⟩:=C.forts;refine⟨z,m.map.block (b.keep _ m.map.lt λe=>by injection e with e;exact C.ne e),m.key,λp a=>?_⟩;obtain⟨x,J,l,h1⟩:=m.val p a;exact⟨x,J,r l,h1⟩
def Yo.putF{z w':World}{k:CH}{h:GH}(C:Yo z k h G S w)(o:Zue w k.f G S r){d:Nat}(I:G.U[i]? = some x)(hi:i<=100)(hd:d<=100)(v:n<=100)(m:H8 w g (Zx (Zv G) (x.rt.drop d) n))(E:¬S g)(a:Vv prog 261 w' k.f ((kF i d n,g)::r.map λp=>(kF p.1.1 p.1.2.1 p.1.2.2,p.2)))(F:w.grownBy w' (some k.f)):Yo z k h G S w'/\Off k.maps w w':=by
 have b:=Off.of_grown F;have H:Zf w w':=Zf.of_off b λq j=>by injection j with j;rw[<-j];exact o.map.noInt
 have s:∀{q:Nat} {t:TypeId} {cs:Array Value},Blk w q t cs->Blk w' q t cs:=λB=>b.blk B λe=>by injection e with e;exact o.map.ne_blk B e.symm
 have u:∀{q x:Nat},H8 w q x->H8 w' q x:=λ{q x} m=>by
  obtain⟨A,n,c,d,h1,D⟩:=m;exact⟨A,n,c,d,s h1,D.kept H⟩
 refine⟨⟨C.base.trans (b.is_below C.base.size λq j=>by injection j with j;rw[<-j];exact C.low.2),s C.box,s C.nul,C.low,C.ne,?_,⟨((i,d,n),g)::r,by simpa using a,λp a=>?_,λp a=>?_⟩⟩,⟨b.os,b.tape,b.output,b.size,λq j v=>b.keep q j λe=>v (by injection e with e;exact .inr e.symm)⟩⟩
 ·obtain⟨ts,l⟩:=C.trees;exact⟨ts,l.map.block (b.keep _ l.map.lt λe=>by injection e with e;exact C.ne e.symm),l.key,λp a=>⟨u (l.val p a).1,(l.val p a).2⟩⟩
 ·rcases BY.1 a with e | a
  ·rw[e];exact⟨hi,hd,v⟩
  exact o.key p a
 rcases BY.1 a with e | a
 ·rw[e];exact⟨x,I,u m,E⟩
 obtain⟨y,J,m,h1⟩:=o.val p a;exact⟨y,J,u m,h1⟩
def Zzo.look(h:Zzo w g G S ts)(s:Int)(n:Nat)(v:s<0)(t:Zp s<100)(u:n<=100):
 (∃b,(∀x:Ext w,(Instr.lookup 208 (.map (some g)) (kT s n) false).run prog (bl w x) = .ok (aP (some ⟨b,0,aN⟩)) (bl w x))/\H8 w b (Zv G s n)) \/
 (∀x:Ext w,(Instr.lookup 208 (.map (some g)) (kT s n) false).run prog (bl w x) = .ok (aP aN) (bl w x)):=by
 have j:∀w,(zeroValue 258).run prog w = .ok (aP aN) w:=λw=>AB
 have q:U4 prog 257 (kT s n):=Zww (by unfold Zp at t;omega) AA AA;by_cases d:kT s n∈(ts.map λp=>(kT p.1.1 p.1.2,p.2)).map (·.1)
 ·left;obtain⟨b,c,o⟩:=h.map.look Tryz.keyKT d;obtain⟨p,r,a⟩:=CX.1 c;injection a with a hpb;obtain⟨l,m⟩:=kT_inj a;have f:=(h.val p r).1;rw[l,m,hpb] at f;exact⟨b,λx=>(h.map.below (Zr w x)).look_at Tryz.keyKT underlying208 (j _) c o,f⟩
 exact .inr λx=>(h.map.below (Zr w x)).look_none Tryz.keyKT underlying208 (j _) q d
def Zue.look(h:Zue w g G S c){d:Nat}(A:G.U[i]? = some x)(hi:i<=100)(hd:d<=100)(B:n<=100):
 (∃b,(∀y:Ext w,(Instr.lookup 209 (.map (some g)) (kF i d n) false).run prog (bl w y) = .ok (aP (some ⟨b,0,aN⟩)) (bl w y))/\H8 w b (Zx (Zv G) (x.rt.drop d) n)) \/
 (∀y:Ext w,(Instr.lookup 209 (.map (some g)) (kF i d n) false).run prog (bl w y) = .ok (aP aN) (bl w y)):=by
 have o:∀w,(zeroValue 258).run prog w = .ok (aP aN) w:=λw=>AB
 have u:U4 prog 261 (kF i d n):=Zsn AA AA AA;by_cases j:kF i d n∈(c.map λp=>(kF p.1.1 p.1.2.1 p.1.2.2,p.2)).map (·.1)
 ·left;obtain⟨b,f,t⟩:=h.map.look Tryz.keyKF j;obtain⟨p,v,a⟩:=CX.1 f;injection a with a hpb;obtain⟨q,r,s⟩:=kF_inj a;obtain⟨y,m,l,_⟩:=h.val p v;rw[q,A] at m;obtain rfl:=BM m;rw[r,s,hpb] at l;exact⟨b,λz=>(h.map.below (Zr w z)).look_at Tryz.keyKF underlying209 (o _) f t,l⟩
 exact .inr λz=>(h.map.below (Zr w z)).look_none Tryz.keyKF underlying209 (o _) u j
end
section
open Go.Maps (Keyed IsMap Tidy)
def NumM.look{b:List Nat}(h:NumM w g b)(f:b.Nodup)(hi:i∈b)(d:i<=1000):(Instr.lookup 147 (.map (some g)) (aI aJ (i:Int)) false).run prog w = .ok (aI aJ (toI b i)) w:=by
 obtain⟨c,j,a,_⟩:=World.ownsMap.lookup_int h keyInt underlying147 underlying3 (zeroInt w) (key_num i d);rw[at_numD _ i b f hi] at a;injection a with a;injection a with _ a;rw[j,a]
end
end
section
variable{B n c g i id fuel:Nat}{A a:Option Addr}{s:List Nat}{tab:Nat->Nat->Nat}{w':World}{S:Nat->Prop}{o:Oper}{ts:List ((List Int × Nat) × Nat)}{l rest:List Oper}{F:(Nat->Value)->Act}{D:Nat->Value->World->Prop}{xs:List Int}{ops:Array Oper}{J:Array Bool->Act->World->Prop}{v:Value}{f:List Value}{p:List (List Nat)}
def Jc.put{w:World}{N:Nat}(h:Jc w B A n c N s tab){m:Nat}(l:s[m]? = some g)(hi:i<N){n1 c1:Nat}{d:Bool}{x:Nat}(J:Z1 w a n1 c1 d x):
 Jc ((w.setCell ⟨g,i*2,aN⟩ (K a n1 c1)).setCell ⟨g,i*2+1,aN⟩ (aB d)) B A n c N s (U6 tab m i x)/\Off (λk=>k=g) w ((w.setCell ⟨g,i*2,aN⟩ (K a n1 c1)).setCell ⟨g,i*2+1,aN⟩ (aB d)):=by
 have p:Off (λk=>k=g) w ((w.setCell ⟨g,i*2,aN⟩ (K a n1 c1)).setCell ⟨g,i*2+1,aN⟩ (aB d)):=(Off.of_set w g (i*2) (K a n1 c1)).trans (Off.of_set _ g (i*2+1) (aB d)) λ_ _ h=>h;have C:=h.apart l;obtain⟨y,H⟩:=h.row m g l;obtain⟨I,F⟩:=H.put (j:=i) (by simpa using hi) J;have h1:∀b,(K A n c).ownBlock=some b->¬b=g:=λb D e=>C (by rw[D,e]);refine⟨⟨p.row h.own h1,λq u=>(h.noInt q u).same (p.keep q (h.own.lt q u).2 (h1 q u)),h.nodup,λr f o=>?_⟩,p⟩;by_cases t:r=m
 ·subst t;obtain rfl:g=f:=by rw[l] at o;exact BM o
  exact⟨y,by rw[<-tab_set hi];exact I⟩
 have G:=nodup_ne h.nodup l o t;obtain⟨z,v⟩:=h.row r f o;have e:(List.range N).map (U6 tab m i x r)=(List.range N).map (tab r):=List.map_congr_left λj _=>by unfold U6;rw[if_neg λE=>t E.1]
 rw[e];exact⟨z,v.kept F (p.keep f v.lt G)⟩
section
open Go.Maps (Keyed IsMap Tidy)
def As(A:Option Addr)(n c:Nat)(xs:List Nat)(w:World)(h:Zq .u32 w A n c xs)(g:Lim xs):
 Calls prog 168 #[K A n c] w (Xr w (Xm (val xs))):=by
 have a:=Zs4 xs g;by_cases d:(Xx xs).length<=32
 ·rw[if_pos d] at a;have b:=LH a;clear a;go_enter func168,ntmps168;go_wp2_with (go_at_call 31;refine (G6 _ _ _ _ _ h).mono ?_;rintro e w'⟨rfl,f,rfl⟩);go_ret2;rw[<-b];exact⟨_,_,rfl,AH,AP _ _⟩
 rw[if_neg d] at a;have b:=LH a;clear a;go_enter func168,ntmps168;go_wp2_with (go_at_call 31;refine (G6 _ _ _ _ _ h).mono ?_;rintro e w'⟨rfl,f,rfl⟩);go_ret2;rw[<-b];exact⟨aN,0,rfl,Zq.nil _ _ _ _ AE,AP _ _⟩
def Zu0(j:Option Addr)(n c1:Nat)(xs:List Nat)(l:Option Addr)(m c2:Nat)(ys:List Nat)(w:World)(h1:Zq .u32 w j n c1 xs)(c:Zq .u32 w l m c2 ys)(d:Lim xs)(f:Lim ys):
 Calls prog 125 #[K j n c1,K l m c2] w (Xr w (Mu xs ys)):=by
 by_cases g:Zm xs=true
 case neg =>
  have R:Zm xs=false:=by simpa using g
  have a:Mu xs ys=([],1):=by simp[Mu,R]
  rw[a];clear a g;go_enter func125,ntmps125;go_wp2_with (first
   | (go_at_call 35;(with_reducible refine (Z4 _ _ _ _ _ h1).mono ?_);rintro e w'⟨rfl,rfl⟩)
   | (go_at_call 35;(with_reducible refine (Z4 _ _ _ _ _ c).mono ?_);rintro e w'⟨rfl,rfl⟩))
  go_ret2;exact⟨aN,0,rfl,Zq.nil _ _ _ _ AE,AP _ _⟩
 by_cases h:Zm ys=true
 case neg =>
  have S:Zm ys=false:=by simpa using h
  have a:Mu xs ys=([],1):=by simp[Mu,S]
  rw[a];clear a h;go_enter func125,ntmps125;go_wp2_with (first
   | (go_at_call 35;(with_reducible refine (Z4 _ _ _ _ _ h1).mono ?_);rintro e w'⟨rfl,rfl⟩)
   | (go_at_call 35;(with_reducible refine (Z4 _ _ _ _ _ c).mono ?_);rintro e w'⟨rfl,rfl⟩))
  go_ret2;exact⟨aN,0,rfl,Zq.nil _ _ _ _ AE,AP _ _⟩
 have L:=Ut xs g;have J:=Ut ys h;have a:Mu xs ys=Xm (val xs+val ys):=by simp[Mu,g,h]
 rw[a];clear a;go_enter func125,ntmps125;go_wp2_with (first
  | (go_at_call 35;(with_reducible refine (Z4 _ _ _ _ _ h1).mono ?_);rintro e w'⟨rfl,rfl⟩)
  | (go_at_call 35;(with_reducible refine (Z4 _ _ _ _ _ c).mono ?_);rintro e w'⟨rfl,rfl⟩))
 go_loopw [6,7,8] (RAddRel w xs ys) (λ_ _ i _=>(33-intOf i).toNat)
 case atStart=>exact⟨0,aN,0,AV _,rfl,rfl,rfl,BL _ _ _ _,AP _ _⟩
 obtain⟨k,A,E,U,rfl,rfl,rfl,r,b⟩:=hrel;have T:=Lg xs ys d f k;have H:=b.size;by_cases V:k<33
 ·have O:=d.getD k;have P:=f.getD k;obtain⟨x,Hx⟩:∃x,Hid (xs.getD k 0=x):=⟨_,LH rfl⟩;obtain⟨y,o⟩:∃y,Hid (ys.getD k 0=y):=⟨_,LH rfl⟩;have p:=Ww j n c1 xs k wr (h1.below b) d;have q:=Ww l m c2 ys k wr (c.below b) f;rw[Hx.out] at p O;rw[o.out] at q P;have v:=LH p;have z:=LH q;clear p q;go_wp2_with (first
   | (go_at_call 76;(with_reducible refine v.out.mono ?_);rintro e w'⟨rfl,rfl⟩)
   | (go_at_call 76;(with_reducible refine z.out.mono ?_);rintro e w'⟨rfl,rfl⟩)
   | (at_builtin;refine Vc (w:=wr) rfl _ _ 44 rfl w 41 (aI .u32 0) 4 underlying44 Tryz.info34 rfl _ k _ _ rfl r (aI .u32 (((x:Int)+(y:Int)+((V4 xs ys k).2:Int)) % 4294967296)) rfl rfl AA AA AA ?_;intro u D W N I))
  go_roundw
  case rel =>
   refine⟨k+1,u,D,AA,AF,?_,rfl,?_,X6 b I r H⟩
   ·simp only[V4,Hx.out,o.out];go_num
   simp only[V4,Hx.out,o.out,Mi];simpa using N
  simp[intOf];omega
 obtain rfl:k=33:=AA
 have s:=addP_full xs ys d f 32 L J;have B:=LH s;clear s;have M:Zq .u32 wr A 33 E (V4 xs ys 33).1:=Yl r;go_wp2_with (go_at_call 168;(with_reducible refine (As _ _ _ _ _ M (Zxn xs ys 33)).mono ?_);rintro e w'⟨t,C,rfl,G,F⟩);go_ret2;rw[<-B.out];exact⟨t,C,rfl,G,Zz b F⟩
end
def ref_mul(I:Option Addr)(n c1:Nat)(xs:List Nat)(l:Option Addr)(m c2:Nat)(ys:List Nat)(w:World)(h1:Zq .u32 w I n c1 xs)(h:Zq .u32 w l m c2 ys)(U:Lim xs)(s:Lim ys):
 Calls prog 175 #[K I n c1,K l m c2] w (Xr w (N9 xs ys)):=by
 by_cases t:Zm xs=true
 case neg =>
  have ar:Zm xs=false:=by simpa using t
  have f:N9 xs ys=([],1):=by simp[N9,ar]
  rw[f];clear f t;go_enter func175,ntmps175;go_wp2_with (first
   | (go_at_call 35;(with_reducible refine (Z4 _ _ _ _ _ h1).mono ?_);rintro e w'⟨rfl,rfl⟩)
   | (go_at_call 35;(with_reducible refine (Z4 _ _ _ _ _ h).mono ?_);rintro e w'⟨rfl,rfl⟩))
  go_ret2;exact⟨aN,0,rfl,Zq.nil _ _ _ _ AE,AP _ _⟩
 by_cases u:Zm ys=true
 case neg =>
  have au:Zm ys=false:=by simpa using u
  have f:N9 xs ys=([],1):=by simp[N9,au]
  rw[f];clear f u;go_enter func175,ntmps175;go_wp2_with (first
   | (go_at_call 35;(with_reducible refine (Z4 _ _ _ _ _ h1).mono ?_);rintro e w'⟨rfl,rfl⟩)
   | (go_at_call 35;(with_reducible refine (Z4 _ _ _ _ _ h).mono ?_);rintro e w'⟨rfl,rfl⟩))
  go_ret2;exact⟨aN,0,rfl,Zq.nil _ _ _ _ AE,AP _ _⟩
 have an:=Ut xs t;have am:=Ut ys u;obtain rfl:=h1.len;obtain rfl:=h.len;have N:=Wm (P:=prog) 44 41 .u32 4 underlying44 Tryz.info34 64 AA AA;have O:∀w:World,(Instr.makeSlice 44 (aI aJ 64) (aI aJ 64)).run prog w = .ok (K (some ⟨w,0,aN⟩) 64 64) (w.alloc (aC (nums .u32 (List.replicate 64 0)).toArray 41)):=N;clear N;obtain⟨aw,p⟩:∃zs,Hid (List.replicate 64 0=zs):=⟨_,LH rfl⟩;rw[p.out] at O;have f:N9 xs ys=Xm (val xs*val ys):=by simp[N9,t,u]
 rw[f];clear f;go_enter func175,ntmps175;go_wp2_with (first
  | (go_at_call 35;(with_reducible refine (Z4 _ _ _ _ _ h1).mono ?_);rintro e w'⟨rfl,rfl⟩)
  | (go_at_call 35;(with_reducible refine (Z4 _ _ _ _ _ h).mono ?_);rintro e w'⟨rfl,rfl⟩))
 go_loopw [7] (RMulRel w xs ys) (λi _=>(Q xs)-(intOf i).toNat)
 case atStart =>
  refine⟨0,aw,AV _,rfl,?_,?_,?_,Own.new _ _ _ _,(AP _ _).alloc (AJ _) _⟩
  ·rw[<-p.out];rfl
  ·rw[<-p.out];exact zeros_lim 64
  rw[<-p.out,zeros_val];simp[val]
 obtain⟨i,a,hi,rfl,J,r,L,g,d⟩:=hrel;have b:=LH J;have v:=LH L;clear J L O;by_cases F:i<(Q xs)
 ·obtain⟨x,Hx⟩:∃x,Hid (xs[i]? = some x):=⟨_,LH (AL F)⟩;have S:=U.of_get Hx.out;have E:=mul_fits xs ys U s an am i F;rw[Yg Hx.out] at E;have W:=LH E;clear E;go_wp2;obtain⟨V,rfl⟩:∃V:World,V=wr:=⟨_,rfl⟩;go_loopw [8,9] (RMulRel2 w x ys a i) (λ_ q _=>(64-intOf q).toNat)
  case atStart=>exact⟨0,AA,rfl,rfl,by rw[Zz7];exact g,d⟩
  clear g d;obtain⟨k,hk,rfl,rfl,g,d⟩:=hrel;have al:=Zy8 x ys (a.drop i) S s (r.drop _) k;by_cases a5:i+k<64
  ·obtain⟨b1,o1,x',rfl,az,ad,a0⟩:=(h1.below d).get (j:=i) F;obtain rfl:x=x':=by have h1:=Hx.out;rw[ad.out] at h1;injection h1 with h1;exact h1.symm
   have T:=s.getD k;obtain⟨y,o⟩:∃y,Hid (ys.getD k 0=y):=⟨_,LH rfl⟩;have Y:=LH (Nq x ys a i k (by rw[b.out];omega));obtain⟨z,Hz,a1⟩:=g.cell (i:=i+k) (by rw[Y.out,b.out];omega);have a2:=g.frozen (i+k);have B:Hid (a[i+k]? = some z):=LH (by rw[<-Zwa x ys a i k (by rw[b.out];omega)];exact Hz.out);have aq:=r.of_get B.out;rw[o.out] at T;have hb:=Ag S T aq al;have a6:(0:Int)<=(x:Int)*(y:Int):=by rw[<-Int.natCast_mul];omega
   have a7:(x:Int)*(y:Int)+(z:Int)+((Vn x ys (a.drop i) k).2:Int)<18446744073709551616:=by rw[<-Int.natCast_mul];omega
   have a8:(z:Int)+(x:Int)*(y:Int)+((Vn x ys (a.drop i) k).2:Int)<18446744073709551616:=AA
   have aa:=LH (Zze x ys a i k (by rw[b.out];omega));have M:∀q,Calls prog 76 #[K l (Q ys) c2,aI aJ (k:Int)] (wr.drewN q) λe w'=>e = aR (aI .u64 (y:Int))/\wr.drewN q=w':=λq=>by
    have:=Ww l (Q ys) c2 ys k (wr.drewN q) ((h.below d).drewN q) s;rw[o.out] at this;exact this
   have X:=LH M;clear hb M;have j1:(0:Int)<=(i:Int)+(k:Int):=AA
   have j2:(i:Int)+(k:Int)<64:=AA
   have j3:(0:Int)<=(i:Int):=AA
   have j4:(i:Int)<((Q xs):Int):=AA
   have C:IntKind.i64.wrap ((i:Int)+(k:Int))=(i:Int)+(k:Int):=i64w AA AA;have D:((i:Int)+(k:Int)).toNat=i+k:=AA
   have e3:IntKind.u64.wrap ((x:Int)*(y:Int))=(x:Int)*(y:Int):=u64w AA AA;have e4:IntKind.u64.wrap ((z:Int)+(x:Int)*(y:Int))=(z:Int)+(x:Int)*(y:Int):=u64w AA AA;have e5:IntKind.u64.wrap ((z:Int)+(x:Int)*(y:Int)+((Vn x ys (a.drop i) k).2:Int))=(z:Int)+(x:Int)*(y:Int)+((Vn x ys (a.drop i) k).2:Int):=u64w AA AA;go_wp2;go_quiet ((go_at_call 76;exact Lk (X.out _)))
   clear C D e3 e4 e5;go_wp2;go_roundw
   case rel =>
    refine⟨k+1,AA,AF,?_,?_,(Fp d _).setCell AE _⟩
    ·have ap:=B.out;simp only[Vn,o.out];rw[show (a.drop i).getD k 0=z from by simp[DX,ap]];go_num
    have:=(g.drewN nq).set_ (i+k) ((x*y+z+(Vn x ys (a.drop i) k).2) % 4294967296);have R:=aa.out;rw[o.out,Yg B.out] at R;rw[R] at this;rw[show ((z:Int)+(x:Int)*(y:Int)+((Vn x ys (a.drop i) k).2:Int))=(x:Int)*(y:Int)+(z:Int)+((Vn x ys (a.drop i) k).2:Int) from by omega];simpa using this
   simp[intOf] <;> omega
  obtain rfl:k=64-i:=AA
  have G:=mul_row_full x ys a i (by rw[b.out];omega) (by rw[v.out,b.out];exact W.out) (by rw[b.out];omega);rw[b.out] at G;have Z:=LH G;have a3:¬(i:Int)+((64-i:Nat):Int)<64:=AA
  clear G;go_wp2;go_roundw
  case rel =>
   obtain⟨C,D⟩:=Z.out;refine⟨i+1,_,AA,AF,D,Zx0 x ys a i _ r,?_,g,d⟩;rw[C,v.out,Y5,Yg Hx.out,Nat.add_mul,DT]
  simp[intOf] <;> omega
 obtain rfl:i=(Q xs):=AA
 have H:=v.out;rw[List.take_length] at H;have ao:=g.nums (n:=64) (c:=64) b.out (AJ _) AA;have ab:=LH H;clear H;go_wp2_with (go_at_call 168;(with_reducible refine (As _ _ _ _ _ ao r).mono ?_);rintro e w'⟨A,c,rfl,hN,hB⟩);go_ret2;rw[<-ab.out];exact⟨A,c,rfl,hN,Zz d hB⟩
def Zuc(a:Option Addr)(n1 c1:Nat)(b:Bool)(x:Nat)(f:Option Addr)(n2 c2:Nat)(g:Bool)(y:Nat)(w:World)(h1:Z1 w a n1 c1 b x)(v:Z1 w f n2 c2 g y):
 Calls prog 67 #[aG #[K a n1 c1,aB b],aG #[K f n2 c2,aB g]] w (RetV w (x+y)):=by
 have k1:=h1.cases;have k2:=v.cases;have z1:=h1.none_iff;have z2:=v.none_iff;have T:=LH h1.2;have U:=LH v.2;have N:=Zy w (aC #[K a n1 c1,aB b] 110);have E:=Zy (w.alloc (aC #[K a n1 c1,aB b] 110)) (aC #[K f n2 c2,aB g] 110);have h:=Zy ((w.alloc (aC #[K a n1 c1,aB b] 110)).alloc (aC #[K f n2 c2,aB g] 110)) (aC #[K aN 0 0,aB false] 110);have R:=(Blk.new w 110 #[K a n1 c1,aB b]);have S:=(Blk.new (w.alloc (aC #[K a n1 c1,aB b] 110)) 110 #[K f n2 c2,aB g]);have A:=(Blk.new ((w.alloc (aC #[K a n1 c1,aB b] 110)).alloc (aC #[K f n2 c2,aB g] 110)) 110 #[K aN 0 0,aB false]);have D:(w.alloc (aC #[K a n1 c1,aB b] 110)).heap.size=w.heap.size+1:=Zl _ _;have M:((w.alloc (aC #[K a n1 c1,aB b] 110)).alloc (aC #[K f n2 c2,aB g] 110)).heap.size=w.heap.size+2:=by rw[Zl,D]
 have q:=Blk.ext (Blk.ext R E) h;have o:=Blk.ext S h;have z:=Zz (Zz N E) h;rw[D] at o;rw[M] at A;go_enter func67,ntmps67;go_upto_region 1 with fail;generalize ((w.alloc (aC #[K a n1 c1,aB b] 110)).alloc (aC #[K f n2 c2,aB g] 110)).alloc (aC #[K aN 0 0,aB false] 110)=W at *;have l1:=q.lt;have l2:=o.lt;have l3:=A.lt;have ad:=q.cell 0;have J:=q.cell 1;have ae:=o.cell 0;have L:=o.cell 1;have CA:=LH (Zu0 a n1 c1 (Vk x).1 f n2 c2 (Vk y).1 W (T.below z) (U.below z) (Wx x) (Wx y));have Y:=LH q;have Z:=LH o;have aa:=LH A;have V:=LH z;go_wp2_with fail;refine CA.out.mono ?_;rintro e t⟨H,c3,rfl,O,h⟩;have B:=Y.ext h;have C:=Z.ext h;have n:=aa.ext h;have X:=LH (Zz V h);have J:=B.cell 1;have L:=C.cell 1;have al:=n.cell 0;have am:=n.cell 1;have an:=n.frozen 0;have ao:=n.frozen 1;have m1:=B.lt;have m2:=C.lt;have m3:=n.lt;have I:=LH O;have s:=LH (Vb n X (DC _ _));generalize P:Mu (Vk x).1 (Vk y).1=p at *;obtain⟨zs,er⟩:=p;simp only[] at I;have Hp:=LH P;rcases k1 with ⟨F,rfl,ex⟩ | ⟨F,rfl,ex⟩;rcases k2 with ⟨G,rfl,u⟩ | ⟨G,rfl,u⟩
 ·have k:Xm (x+y)=(zs,er):=by rw[<-Hp,ex,u,Nz x y F G]
  by_cases r:x+y<big
  ·unfold Xm at k;rw[if_pos r] at k;obtain⟨rfl,rfl⟩:=Prod.mk.inj k;obtain⟨c,d⟩:=s H (Zq3 (x+y)).length c3 false;have l:=LH c;have j:=LH d;have m:=LH r;go_wp2_with fail;refine AW (AX (p:=4) AB _ _ (w.heap.size+2) 110 #[K H (Zq3 (x+y)).length c3,aB false] (0,0) _ rfl j.1 underlying110 rfl AB) rfl ?_;refine⟨l,_,_,_,_,rfl,?_⟩;unfold Z1;rw[Z7 m];exact⟨rfl,I.kept j.2⟩
  unfold Xm at k;rw[if_neg r] at k;obtain⟨rfl,rfl⟩:=Prod.mk.inj k;obtain⟨c,d⟩:=s aN 0 0 true;have l:=LH c;have j:=LH d;have m:Hid (¬x+y<big):=LH (by exact r);go_wp2_with fail;refine AW (AX (p:=4) AB _ _ (w.heap.size+2) 110 #[K aN 0 0,aB true] (0,0) _ rfl j.1 underlying110 rfl AB) rfl ?_;exact⟨l,_,_,_,_,rfl,Z1.over _ m⟩
 ·obtain⟨c,d⟩:=s aN 0 0 true;have l:=LH c;have j:=LH d;have m:Hid (¬x+y<big):=LH AA;go_wp2_with fail;refine AW (AX (p:=4) AB _ _ (w.heap.size+2) 110 #[K aN 0 0,aB true] (0,0) _ rfl j.1 underlying110 rfl AB) rfl ?_;exact⟨l,_,_,_,_,rfl,Z1.over _ m⟩
 obtain⟨c,d⟩:=s aN 0 0 true;have l:=LH c;have j:=LH d;have m:Hid (¬x+y<big):=LH AA;go_wp2_with fail;refine AW (AX (p:=4) AB _ _ (w.heap.size+2) 110 #[K aN 0 0,aB true] (0,0) _ rfl j.1 underlying110 rfl AB) rfl ?_;exact⟨l,_,_,_,_,rfl,Z1.over _ m⟩
def Aa(c:Option Addr)(c1 a:Nat)(d:Option Addr)(c2 b:Nat)(w:World)(h1:Zq .u32 w c (Zq3 a).length c1 (Zq3 a))(f:Zq .u32 w d (Zq3 b).length c2 (Zq3 b))(g:a<big)(h:b<big):
 Calls prog 125 #[K c (Zq3 a).length c1,K d (Zq3 b).length c2] w (Xr w (Xm (a+b))):=by
 rw[<-Nz a b g h];exact Zu0 c _ c1 _ d _ c2 _ w h1 f (Z9 _) (Z9 _)
def Zxi(d:Option Addr)(c1 a:Nat)(f:Option Addr)(c2 b:Nat)(w:World)(h1:Zq .u32 w d (Zq3 a).length c1 (Zq3 a))(g:Zq .u32 w f (Zq3 b).length c2 (Zq3 b))(k:a+b<big):
 Calls prog 65 #[K d (Zq3 a).length c1,K f (Zq3 b).length c2] w λe w'=>∃A c,e = aR (K A (Zq3 (a+b)).length c)/\Zq .u32 w' A (Zq3 (a+b)).length c (Zq3 (a+b))/\Below w w w':=by
 have CA:=Zu0 d _ c1 (Zq3 a) f _ c2 (Zq3 b) w h1 g (Z9 _) (Z9 _);rw[Nz a b AA AA,Km k] at CA;have CA:=LH CA;go_enter func65,ntmps65;go_wp2_with (first
  | (go_at_call 125
     refine CA.out.mono ?_;rintro e n⟨h,j,rfl,m,l⟩))
 go_ret;exact⟨h,j,rfl,m,l⟩
section
open Go.Maps (Keyed IsMap Tidy)
open Go.Maps (Keyed IsMap Tidy)
theorem Gt(d:Option Addr)(n1 c1:Nat)(b:Bool)(x:Nat)(g:Option Addr)(n2 c2:Nat)(k:Bool)(y:Nat)(w:World)(h1:Z1 w d n1 c1 b x)(E:Z1 w g n2 c2 k y):
 Calls prog 124 #[.agg #[.slice d n1 c1,.bool b],.agg #[.slice g n2 c2,.bool k]] w (RetV w (x*y)):=by
 have U:=h1.cases;have V:=E.cases;have v:=h1.none_iff;have B:=E.none_iff;have H1:=LH h1.2;have H2:=LH E.2;clear h1 E;have ae:=Zy w (.cells #[.slice d n1 c1,.bool b] 110);have P:=Zy (w.alloc (.cells #[.slice d n1 c1,.bool b] 110)) (.cells #[.slice g n2 c2,.bool k] 110);have l:=Zy ((w.alloc (.cells #[.slice d n1 c1,.bool b] 110)).alloc (.cells #[.slice g n2 c2,.bool k] 110)) (.cells #[.slice none 0 0,.bool false] 110);have ak:=(Blk.new w 110 #[.slice d n1 c1,.bool b]);have al:=(Blk.new (w.alloc (.cells #[.slice d n1 c1,.bool b] 110)) 110 #[.slice g n2 c2,.bool k]);have q:=(Blk.new ((w.alloc (.cells #[.slice d n1 c1,.bool b] 110)).alloc (.cells #[.slice g n2 c2,.bool k] 110)) 110 #[.slice none 0 0,.bool false]);have N:(w.alloc (.cells #[.slice d n1 c1,.bool b] 110)).heap.size=w.heap.size+1:=Zl _ _;have e2:((w.alloc (.cells #[.slice d n1 c1,.bool b] 110)).alloc (.cells #[.slice g n2 c2,.bool k] 110)).heap.size=w.heap.size+2:=by rw[Zl,N]
 have A:=Blk.ext (Blk.ext ak P) l;have t:=Blk.ext al l;have z:=Zz (Zz ae P) l;rw[N] at t;rw[e2] at q;go_enter func124,ntmps124;go_upto_region 1 with fail;generalize ((w.alloc (.cells #[.slice d n1 c1,.bool b] 110)).alloc (.cells #[.slice g n2 c2,.bool k] 110)).alloc (.cells #[.slice none 0 0,.bool false] 110)=W at *;clear ak al N e2 ae P l;have l1:=A.lt;have l2:=t.lt;have l3:=q.lt;have ba:=A.cell 0;have az:=A.cell 1;have bb:=t.cell 0;have a0:=t.cell 1;have a1:=q.cell 0;have a2:=q.cell 1;have a3:=q.frozen 0;have a4:=q.frozen 1;have J:=LH (Vb q z (DC _ _));have CM:=LH (ref_mul d n1 c1 (Vk x).1 g n2 c2 (Vk y).1 W (H1.out.below z) (H2.out.below z) (Wx x) (Wx y));have au:=LH A;have av:=LH t;have aw:=LH q;have HB:=LH z;clear A t q z;by_cases F:x=0
 ·obtain⟨rfl,rfl⟩:=v.2 F;clear U V v B;obtain⟨a,c⟩:=J.out none 0 0 false;have m:=LH a;have j:=LH c;have n:Hid (x*y=0):=LH (by rw[F,Nat.zero_mul]);clear a c;go_wp2_with fail;refine AW (AX (p:=4) AB _ _ (w.heap.size+2) 110 #[.slice none 0 0,.bool false] (0,0) _ rfl j.out.1 underlying110 rfl AB) rfl ?_;refine⟨m.out,_,_,_,_,rfl,?_⟩;rw[n.out];exact Z1.zero _ _ _ AA
 by_cases T:y=0
 ·obtain⟨rfl,rfl⟩:=B.2 T;have u:b=false->((n1:Int)==0)=false:=λa=>by rw[AR];intro h;exact F (v.1 ⟨a,AA⟩)
  clear U V v B;rcases b with _ | _;all_goals
   first
    | (have a6:=u rfl
       clear u)
    | clear u
   obtain⟨a,c⟩:=J.out none 0 0 false;have m:=LH a;have j:=LH c;have n:Hid (x*y=0):=LH (by rw[T,Nat.mul_zero]);clear a c;go_wp2_with fail;refine AW (AX (p:=4) AB _ _ (w.heap.size+2) 110 #[.slice none 0 0,.bool false] (0,0) _ rfl j.out.1 underlying110 rfl AB) rfl ?_;refine⟨m.out,_,_,_,_,rfl,?_⟩;rw[n.out];exact Z1.zero _ _ _ AA
 have u:b=false->((n1:Int)==0)=false:=λa=>by rw[AR];intro h;exact F (v.1 ⟨a,AA⟩)
 have ai:k=false->((n2:Int)==0)=false:=λa=>by rw[AR];intro h;exact T (B.1 ⟨a,AA⟩)
 have ag:x<=x*y:=Nat.le_mul_of_pos_right x AA;have ah:y<=x*y:=Nat.le_mul_of_pos_left y AA;have ax:=LH ag;have ay:=LH ah;clear v B J ag ah;rcases U with ⟨R,rfl,ex⟩ | ⟨R,rfl,ex⟩;all_goals
  rcases V with ⟨S,rfl,O⟩ | ⟨S,rfl,O⟩;all_goals
   try (have a6:=u rfl)
   try (have bc:=ai rfl)
   have aa:=LH R;have ab:=LH S;have Ex:=LH ex;have Ey:=LH O;clear u ai R S ex O;go_upto_region 4 with (first
    | (go_at_call 175;(with_reducible refine CM.out.mono ?_);rintro e C⟨X,c3,rfl,af,l⟩))
   have L:=au.out.ext l;have M:=av.out.ext l;have r:=aw.out.ext l;have ar:=LH (Zz HB.out l);have az:=L.cell 1;have a0:=M.cell 1;have a1:=r.cell 0;have a2:=r.cell 1;have a3:=r.frozen 0;have a4:=r.frozen 1;have m1:=L.lt;have m2:=M.lt;have m3:=r.lt;have Y:=LH af;have I:=LH (Vb r ar.out (DC _ _));clear L M r af l;generalize hp:N9 (Vk x).1 (Vk y).1=p at *;obtain⟨zs,D⟩:=p;simp only[] at Y;have Z:=LH hp;clear hp;have a7:(¬x*y<big)\/(x*y<big/\x<big/\y<big):=by
    by_cases f:x*y<big
    ·exact .inr ⟨f,by have:=ax.out;omega,by have:=ay.out;omega⟩
    exact .inl f
   rcases a7 with f | ⟨f,G,H⟩
   ·have a5:(λ(_:Unit)=>D) ()=D:=rfl;clear a5;by_cases s:x<big/\y<big
    ·have o:Xm (x*y)=(zs,D):=by rw[<-Z.out,<-Nw x y s.1 s.2,Z7 s.1,Z7 s.2]
     unfold Xm at o;rw[if_neg f] at o;obtain⟨rfl,rfl⟩:=Prod.mk.inj o;clear o;obtain⟨a,c⟩:=I.out none 0 0 true;have m:=LH a;have j:=LH c;have n:=LH f;clear a c f s;go_wp2_with fail;refine AW (AX (p:=4) AB _ _ (w.heap.size+2) 110 #[.slice none 0 0,.bool true] (0,0) _ rfl j.out.1 underlying110 rfl AB) rfl ?_;exact⟨m.out,_,_,_,_,rfl,Z1.over _ n.out⟩
    first
     | exact absurd (And.intro aa.out ab.out) s
     | (obtain⟨a,c⟩:=I.out none 0 0 true
        have m:=LH a;have j:=LH c;have n:=LH f;clear a c f s;go_wp2_with fail;refine AW (AX (p:=4) AB _ _ (w.heap.size+2) 110 #[.slice none 0 0,.bool true] (0,0) _ rfl j.out.1 underlying110 rfl AB) rfl ?_;exact⟨m.out,_,_,_,_,rfl,Z1.over _ n.out⟩)
   first
    | exact absurd G aa.out
    | exact absurd H ab.out
    | (have o:Xm (x*y)=(zs,D):=by rw[<-Z.out,<-Nw x y G H,Z7 G,Z7 H]
       unfold Xm at o;rw[if_pos f] at o;obtain⟨rfl,rfl⟩:=Prod.mk.inj o;obtain⟨a,c⟩:=I.out X (Zq3 (x*y)).length c3 false;have m:=LH a;have j:=LH c;have n:=LH f;clear a c o f G H;go_wp2_with fail;refine AW (AX (p:=4) AB _ _ (w.heap.size+2) 110 #[.slice X (Zq3 (x*y)).length c3,.bool false] (0,0) _ rfl j.out.1 underlying110 rfl AB) rfl ?_;refine⟨m.out,_,_,_,_,rfl,?_⟩;unfold Z1;rw[Z7 n.out];exact⟨rfl,Y.out.kept j.out.2⟩)
end
section
open Ieee
open Go.Maps (Keyed IsMap Tidy)
def Wd.keep{a w:World}{k:BkH}{h:GH}{G:Gr}(C:Wd a k h G S w)(c:Off k.map w w'):Zf w w':=Zf.of_off c λg b=>by rw[b];exact C.map_noInt
def Wd.map_lt{a w:World}{k:BkH}{h:GH}{G:Gr}(C:Wd a k h G S w):k.t<w.heap.size:=by
 obtain⟨ts,b⟩:=C.known;exact b.map.lt
def Wd.move{g w:World}{k:BkH}{h:GH}{G:Gr}{P:Nat->Prop}(C:Wd g k h G S w)(f:Off P w w')(l:Zf w w')(h1:∀b,P b->S b/\g.heap.size<=b/\b≠k.c/\b≠k.t):Wd g k h G S w':=by
 have m:=C.map_lt;refine⟨C.base.trans (f.is_below C.base.size λb j=>(h1 b j).2.1),f.blk C.box λa=>(h1 _ a).2.2.1 rfl,C.low,?_⟩;obtain⟨ts,d⟩:=C.known;exact⟨ts,d.map.block (f.keep _ m λa=>(h1 _ a).2.2.2 rfl),d.key,λp a=>⟨(d.val p a).1.kept l (f.keep _ (d.val p a).1.lt λj=>(d.val p a).2 (h1 _ j).1),(d.val p a).2⟩⟩
def Wd.put{o w:World}{k:BkH}{h:GH}{G:Gr}(C:Wd o k h G S w)(j:Gk w k.t G S ts){l:List Int}(E:J1 l n)(m:Fx w g (Zx (Zv G) l n))(B:¬S g)(a:Vv prog 220 w' k.t ((kB l n,g)::ts.map λp=>(kB p.1.1 p.1.2,p.2)))(D:w.grownBy w' (some k.t)):Wd o k h G S w'/\Off k.map w w'/\Gk w' k.t G S (((l,n),g)::ts):=by
 have f:=Off.of_grown D;have F:Zf w w':=Zf.of_off f λq b=>by injection b with b;rw[<-b];exact j.map.noInt
 have v:∀{q:Nat} {t:TypeId} {r:Array Value},Blk w q t r->Blk w' q t r:=λs=>f.blk s λe=>by injection e with e;exact j.map.ne_blk s e.symm
 have y:∀{q x:Nat},Fx w q x->Fx w' q x:=λ{q x} m=>by
  obtain⟨A,n,c,d,h1,z⟩:=m;exact⟨A,n,c,d,v h1,z.kept F⟩
 have u:Gk w' k.t G S (((l,n),g)::ts):=by
  refine⟨by simpa using a,λp a=>?_,λp a=>?_⟩
  ·rcases BY.1 a with e | a
   ·rw[e];exact E
   exact j.key p a
  rcases BY.1 a with e | a
  ·rw[e];exact⟨y m,B⟩
  exact⟨y (j.val p a).1,(j.val p a).2⟩
 exact⟨⟨C.base.trans (f.is_below C.base.size λq b=>by injection b with b;rw[<-b];exact C.low),v C.box,C.low,_,u⟩,⟨f.os,f.tape,f.output,f.size,λq b H=>f.keep q b λe=>H (by injection e with e;exact e.symm)⟩,u⟩
end
section
open Go.Maps (Keyed IsMap Tidy)
variable {P:Program} {Γ:Type} {R:World->World->Prop}
def Zw(P:Program)(l:List Oper)(M:Γ->(Nat->Bool)->(Nat->Value)->World->Prop)(R:World->World->Prop)(F:(Nat->Value)->Act)(D:Nat->Value->World->Prop):Nat->List Oper->Prop
 | _,[]=>True
 | i,o::rest=>(o.guard=none/\(∀u v,(F u).put o.dst v=F (upd u i v))/\∀(Q:Exit->Act->World->Prop) (g:Γ) (b:Nat->Bool) (u:Nat->Value) (X:World),G9 l b->b i=false->M g b u X->(∀p,onB o p=true->b p=true/\D p (u p) X)->
    ∀K:Act->World->Prop,(∀v c a,R X a->M c (Mz b i) (upd u i v) a->D i v a->K ((F u).put o.dst v) a)->o.wp P (F u) X K Q)/\Zw P l M R F D (i+1) rest
def Zw.nil{M:Γ->(Nat->Bool)->(Nat->Value)->World->Prop}:Zw P l M R F D i []:=trivial
def Zw.cons{M:Γ->(Nat->Bool)->(Nat->Value)->World->Prop}(d:o.guard=aN)(f:∀u v,(F u).put o.dst v=F (upd u i v))(h:∀(Q:Exit->Act->World->Prop) (g:Γ) (b:Nat->Bool) (u:Nat->Value) (X:World),G9 l b->b i=false->M g b u X->(∀p,onB o p=true->b p=true/\D p (u p) X)->∀K:Act->World->Prop,(∀v c a,R X a->M c (Mz b i) (upd u i v) a->D i v a->K ((F u).put o.dst v) a)->o.wp P (F u) X K Q)(t:Zw P l M R F D (i+1) rest):Zw P l M R F D i (o::rest):=⟨⟨d,f,h⟩,t⟩
def Zw.con{M:Γ->(Nat->Bool)->(Nat->Value)->World->Prop}(h:∀(Q:Exit->Act->World->Prop) (g:Γ) (b:Nat->Bool) (u:Nat->Value) (X:World),G9 l b->b i=false->M g b u X->(∀p,onB o p=true->b p=true/\D p (u p) X)->∀K:Act->World->Prop,(∀v c a,R X a->M c (Mz b i) (upd u i v) a->D i v a->K ((F u).put o.dst v) a)->o.wp P (F u) X K Q)(t:Zw P l M R F D (i+1) rest)(d:o.guard=aN:=by rfl)(f:∀u v,(F u).put o.dst v=F (upd u i v):=by exact λ_ _=>rfl):Zw P l M R F D i (o::rest):=Zw.cons d f h t
def Zw.steps{M:Γ->(Nat->Bool)->(Nat->Value)->World->Prop}(r:∀i v X f,D i v X->R X f->D i v f):
 ∀(m:List Oper) (i:Nat),(∀j,j<(aQ m)->m[j]? = l[i+j]?)->i+(aQ m)=(aQ l)->Zw P l M R F D i m->Xc P (JG l M F D) i m
 | [],i,_,hl,_=>trivial
 | o::m,i,hm,hl,hs=>by
   have J:l[i]? = some o:=by simpa using (hm 0 AE).symm
   refine Xc.cons hs.1.1 (λQ listed a X y O L K z=>?_) (Zw.steps r m (i+1) (λj c=>by have:=hm (j+1) AG;simpa [DY,Em 1 j] using this) (by simp only[AY] at hl;omega) hs.2);obtain⟨u,g,rfl,N,s,A,hd⟩:=y;obtain⟨h,I⟩:=Zu4 O;have q:∀p,onB o p=true->listed.getD p false=true:=λp b=>by
    obtain⟨e,G,E,rfl⟩:=Zyf.1 b;exact L e G E
   have H:(λj=>(listed.setIfInBounds i true).getD j false)=Mz (λj=>listed.getD j false) i:=by
    funext j;rw[Uj h];rfl
   refine hs.1.2.2 Q g _ u X s I A (λp b=>⟨q p b,hd p (q p b)⟩) K λv x f C B S=>?_;refine z _ _ ⟨upd u i v,x,hs.1.2.1 u v,by simpa using N,?_,by rw[H];exact B,λj c=>?_⟩
   ·intro j T n c p b;show (listed.setIfInBounds i true).getD p false=true;have k:(listed.setIfInBounds i true).getD j false=true:=c;rw[Uj h] at k ⊢;by_cases t:p=i
    ·rw[if_pos t]
    rw[if_neg t];by_cases d:j=i
    ·subst d;rw[J] at n;obtain rfl:=BM n;exact q p b
    rw[if_neg d] at k;exact s j T n k p b
   rw[Uj h] at c;unfold upd;by_cases d:j=i
   ·subst d;rw[if_pos rfl];exact S
   rw[if_neg d] at c ⊢;exact r j _ X f (hd j c) C
def wp_region_free{Q:Exit->Act->World->Prop}{a:Act}{w:World}(M:Γ->(Nat->Bool)->(Nat->Value)->World->Prop)(R:World->World->Prop)(g0:Γ)(F:(Nat->Value)->Act)(u0:List Value)(D:List (Value->World->Prop))(s:P.follows .mixedOrders=true)(p:Zvw l.toArray=true)(m:a=F λi=>u0.getD i undef)(f:M g0 (λ_=>false) (λi=>u0.getD i undef) w.drew)(c:Zwm R D)(t:Zw P l M R F (atL D) 0 l)(q:∀g b u X,(∀i,i<(aQ l)->b i=true)->M g b u X->(∀i,i<(aQ l)->atL D i (u i) X)->Q .normal (F u) X):(Code.region id l.toArray true).wp P Q a w:=by
 have v:(λi=>(Array.replicate (aQ l) false).getD i false)=λ_:Nat=>false:=by
  funext i;simp[Array.getD]
 refine H6 (JG l M F (atL D)) s p ⟨_,g0,m,AE,λi o _ h=>?_,by rw[v];exact f,λi h=>?_⟩ ?_ λlisted a X d n=>?_
 ·simp[Array.getD] at h
 ·simp[Array.getD] at h
 ·exact Zw.steps c.at l 0 (λj _=>by rw[BF]) (BF _) t
 obtain⟨u,g,rfl,x,_,k,hd⟩:=d;have hi:∀i,i<(aQ l)->listed.getD i false=true:=λi hi=>by
  have h1:=n i hi;have r:i<listed.size:=AA
  simp only[Array.getD,dif_pos r] at h1 ⊢;exact h1
 exact q g _ u X hi k λi h=>hd i (hi i h)
end
section
open Go.Maps (Keyed IsMap Tidy)
variable {W0:World} {k:BkH} {h:GH} {G:Gr} {S':Nat->Prop} {w:World} {gR:Nat} {b:Nat->Bool} {u:Nat->Value} {X:World}
def Zu.of_off{w:World}(h:Off S w w')(a:∀g,S g->∀o z,w.cell? ⟨g,o,aN⟩≠some (aI .u32 z)):Zu w w':=⟨h.size,λb c ⟨o,z,d⟩=>h.keep b c λf=>a b f o z d⟩
def M4.off{w:World}{base:Nat}(h:M4 w base A n c xs)(f:Off S w w')(d:∀g,(K A n c).ownBlock=some g->¬S g):M4 w' base A n c xs :=
 ⟨f.row h.1 d,λg b o v j=>h.2 g b o v ((DG (a:=⟨g,o,aN⟩) (f.keep g (h.1.lt g b).2 (d g b))).symm.trans j)⟩
def UnL.ex{G:Gr}(g:Xq G):∀(l:List Int) (n r:Nat),(∀(d:Nat) (s:Int) (m k:Nat),l[d]? = some s->s<0->m<=n->k+Uy (Zj G) (l.drop (d+1))<=m->(m=n->∀(p:Nat) q,p<d->l[p]? = some q->Xg (Zj G) q=true)->∀q,q<Zv G s k->∃t,UnT G (Zp s) k q t)->r<Zx (Zv G) l n->∃t,UnL G l n r t
 | [],n,r,_,h=>by
   unfold Zx at h;split at h
   ·rename_i h0;subst h0;obtain rfl:r=0:=AA
    exact⟨[],.nil⟩
   ·omega
 | s::l,n,r,hT,h=>by
   rw[<-Jn] at h;obtain⟨k,v,O,rfl,x⟩:=Zwn h;have f:0<Zx (Zv G) l (n-k):=by
    rcases BW (Zx (Zv G) l (n-k)) with h0 | h0
    ·rw[h0,Nat.mul_zero] at x;omega
    exact h0
   have o:0<Zv G s k:=by
    rcases BW (Zv G s k) with h0 | h0
    ·rw[h0,Nat.zero_mul] at x;omega
    exact h0
   have R:Uy (Zj G) l<=n-k:=by
    rcases BD (n-k) (Uy (Zj G) l) with h1 | h1
    ·rw[Kn (λs h=>Jw g h) h1] at f;omega
    exact h1
   have J:v % Zx (Zv G) l (n-k)<Zx (Zv G) l (n-k):=Nat.mod_lt _ f;have b:v / Zx (Zv G) l (n-k)<Zv G s k:=by rw[Nat.div_lt_iff_lt_mul f];exact x
   obtain⟨B,c⟩:=UnL.ex g l (n-k) (v % Zx (Zv G) l (n-k)) (λd q m j hd u S F E L I=>hT (d+1) q m j (by simpa using hd) u AA (by simpa using F) (λN p A y z=>by
    cases p with
    | zero =>
      obtain rfl:s=A:=by simpa using z
      obtain rfl:k=0:=AA
      exact Jw g AA
    | succ p=>exact E AA p A AA (by simpa using z)) L I) J
   have a:=Nat.div_add_mod v (Zx (Zv G) l (n-k));by_cases h0:0<=s
   ·rw[Xb G h0] at b o;have H:k=1:=by
     unfold K0 at o;split at o
     ·assumption
     omega
    subst H;have u:v / Zx (Zv G) l (n-1)=0:=by have C:K0 1=1:=rfl;rw[C] at b;exact Nat.lt_one_iff.1 b
    rw[u,Nat.mul_zero,BF] at a;have D:Yv (Zv G) s l n 1=0:=by
     rw[Xy,Ug,Xb G h0];simp[K0]
    rw[a] at c;refine⟨B,?_⟩;have:=UnL.term h0 c;rw[show n-1+1=n by omega] at this;rw[D,BF];exact this
   obtain⟨M,h1⟩:=hT 0 s n k rfl AA (AJ _) (by simpa using (AA:k+Uy (Zj G) l<=n)) (λ_ p q y=>absurd y AA) _ b;have:=UnL.non' AA h1 c;rw[show k+(n-k)=n by omega] at this;refine⟨M++B,?_⟩;rw[Ef] at a;rw[DY,a] at this;exact this
def UnT.ex{G:Gr}(a:Xq G):∀(m n:Nat) (s:Int),s<0->Zp s<(Q G.O)->mu G n s=m->∀r,r<Zv G s n->∃t,UnT G (Zp s) n r t:=by
 intro m
 induction m using Nat.strongRecOn with
 | ind m A =>
   intro n s h0 o D r f;rw[Uu a h0 o,<-Qj (Zv G) (AJ (Q G.U))] at f;obtain⟨i,x,v,hi,g,h,rfl,z⟩:=Zv0 f;have c:=AM g;obtain⟨t,y⟩:=UnL.ex a x.rt n v (λd q E k hd b p l j B u=>by
    have C:=Zvg a c hd b p j l (s:=s) h.symm;refine A _ AA k q b (InG.rule a.fits c q (AM hd) b) rfl B u) z
   exact⟨i::t,i,x,v,t,g,h,y,rfl,rfl⟩
end
section
open Go.Maps (Keyed IsMap Tidy)
variable {W0:World} {k:BkH} {h:GH} {G:Gr} {S':Nat->Prop} {w:World} {gR:Nat} {b:Nat->Bool} {u:Nat->Value} {X:World}
variable {P:Program} {w:World}
def Nk{a:Act}{Q:Exit->Act->World->Prop}(D:o.guard=aN)(s x:Operand)(t:TypeId)(F:o.op = .call { callee := .builtin .append,args:=#[s,x],argTypes:=#[t,t] })(base:Nat)(bytes:Nat)(L:P.underlying t=some (.slice 3))(hi:(P.info? 3).map (λi=>(i.zero,i.size,i.bytes))=some (some (aI aJ 0),1,bytes))(A:Option Addr)(n c:Nat)(xs:List Int)(J:a.eval s = K A n c)(G:M4 w base A n c xs)(y:Int)(M:a.eval x = K (some ⟨w,0,aN⟩) 1 1)(q:n+1<=maxLen)(B:(n+1)*bytes<=140737488355328)(z:base<=w.heap.size)(h:∀d f w',M4 w' base d (n+1) f (xs++[y])->(w.alloc (aC #[aI aJ y] 3)).grownBy w' (K A n c).ownBlock->(∀b,(K d (n+1) f).ownBlock=some b->b<w.heap.size->(K A n c).ownBlock=some b)->
   wpList P ops Q rest (a.put o.dst (K d (n+1) f)) w'):wpList P ops Q (o::rest) a (w.alloc (aC #[aI aJ y] 3)):=by
 have g:=Zy w (aC #[aI aJ y] 3);have H:M4 (w.alloc (aC #[aI aJ y] 3)) base A n c xs:=G.off (S:=λ_=>False) (Off.of_below g) λ_ _ h=>h;have C:∀(j:Nat) (u:Value),(ints .i64 [y])[j]? = some u->(w.alloc (aC #[aI aJ y] 3)).cell? ((⟨w,0,aN⟩:Addr).add j)=some u:=λj u k=>by
  rcases j with _ | j
  ·rw[show (⟨w,0,aN⟩:Addr).add 0=⟨w,0,aN⟩ from rfl,cell_of_row _ w _ _ _ _ (heap_alloc_new w _)];exact k
  cases k
 obtain⟨d,f,w',I,l,m,p⟩:=run_appendR (P:=P) base t o.type bytes L hi A n c xs H ⟨w,0,aN⟩ 1 1 [y] rfl AC C q B (BC z g.size);refine wpList_plain D λK r=>?_;unfold Oper.wp execOp;simp only[F,resolve,invoke,builtin,Sem.run_bind,Sem.run_pure,Result.andThen_ok,List.map_toArray,CU,List.map_nil,J,M,I];exact r _ _ (h d f w' l m λb v E=>p b v (AK E g.size))
end
section
variable {P:Program} {Γ:Type} {R:World->World->Prop}
def Zyv{Q:Exit->Act->World->Prop}(g:backA l=true)(m:∀i o,l.toArray[i]? = some o->∀(listed:Array Bool) (a:Act) (w:World),J listed a w->listed.getD i true=false->(∀e∈o.after,Region.binds .any e=true->listed.getD e.on false=true)->
   ∀K:Act->World->Prop,(∀c w',J (listed.setIfInBounds i true) c w'->K c w')->if Region.wanted o (yielded l.toArray a.tmps) then o.wp P a w K Q else K (a.put o.dst undef) w)(j:∀(listed:Array Bool) (a:Act) (w:World),J listed a w->(∀i,i<(aQ l)->listed.getD i true=true)->Q .normal a w):
 ∀(fuel:Nat) (listed:Array Bool) (a:Act) (w:World),leftN l.toArray.size listed<=fuel->J listed a w->wpAny P .any l.toArray Q fuel listed a w
 | 0,listed,a,w,hl,hJ=>by
   have d:Region.ready .any l.toArray listed=[]:=by
    rw[List.eq_nil_iff_forall_not_mem];intro i hi;obtain⟨f,o,b,_⟩:=mem_ready.1 hi;have:=F6 (n:=l.toArray.size) (Array.getElem?_eq_some_iff.1 b).1 f;omega
   exact⟨d,j listed a w hJ (Zzk g d)⟩
 | fuel+1,listed,a,w,hl,hJ=>by
   refine⟨λd=>j listed a w hJ (Zzk g d),λi hi=>?_⟩;obtain⟨f,o,b,p⟩:=mem_ready.1 hi;have q:=F6 (n:=l.toArray.size) (Array.getElem?_eq_some_iff.1 b).1 f;have h1:=m i o b listed a w hJ f p (wpAny P .any l.toArray Q fuel (listed.setIfInBounds i true)) (λc w' h=>Zyv g m j fuel _ c w' AA h);unfold wpOp;simp only[b];split
   ·rename_i k;rw[if_pos k] at h1;exact .inl h1
   rename_i k;rw[if_neg k] at h1;exact h1
def wp_region_invA{Q:Exit->Act->World->Prop}{a:Act}{w:World}(J:Array Bool->Act->World->Prop)(m:P.follows .mixedOrders=true)(g:backA l=true)(h0:J (Array.replicate (aQ l) false) a w.drew)(c:Xc P J 0 l)(j:∀(listed:Array Bool) (a:Act) (w:World),J listed a w->(∀i,i<(aQ l)->listed.getD i true=true)->Q .normal a w):(Code.region id l.toArray true).wp P Q a w:=by
 have c:=c.inv (ops:=l.toArray) (Q:=Q);refine wp_region_any m ?_;refine Zyv g (λi o n listed a w b q p K f=>?_) (λlisted a w b h=>j listed a w b h) _ _ _ _ ?_ (by simpa using h0)
 ·have:=Xw.at (k:=i) c (by simpa using n) listed a w b (by rw[BF];exact q) p K (λd w' h=>f d w' (by rw[BF] at h;exact h));exact this
 exact BC (List.length_filter_le _ _) AE
def Yi{Q:Exit->Act->World->Prop}{a:Act}{w:World}(M:Γ->(Nat->Bool)->(Nat->Value)->World->Prop)(R:World->World->Prop)(g0:Γ)(F:(Nat->Value)->Act)(u0:List Value)(D:List (Value->World->Prop))(s:P.follows .mixedOrders=true)(p:backA l=true)(m:a=F λi=>u0.getD i undef)(f:M g0 (λ_=>false) (λi=>u0.getD i undef) w.drew)(c:Zwm R D)(t:Zw P l M R F (atL D) 0 l)(q:∀g b u X,(∀i,i<(aQ l)->b i=true)->M g b u X->(∀i,i<(aQ l)->atL D i (u i) X)->Q .normal (F u) X):(Code.region id l.toArray true).wp P Q a w:=by
 have v:(λi=>(Array.replicate (aQ l) false).getD i false)=λ_:Nat=>false:=by
  funext i;simp[Array.getD]
 refine wp_region_invA (JG l M F (atL D)) s p ⟨_,g0,m,AE,λi o _ h=>?_,by rw[v];exact f,λi h=>?_⟩ ?_ λlisted a X d n=>?_
 ·simp[Array.getD] at h
 ·simp[Array.getD] at h
 ·exact Zw.steps c.at l 0 (λj _=>by rw[BF]) (BF _) t
 obtain⟨u,g,rfl,x,_,k,hd⟩:=d;have hi:∀i,i<(aQ l)->listed.getD i false=true:=λi hi=>by
  have h1:=n i hi;have r:i<listed.size:=AA
  simp only[Array.getD,dif_pos r] at h1 ⊢;exact h1
 exact q g _ u X hi k λi h=>hd i (hi i h)
def Zw.vf{M:Γ->(Nat->Bool)->(Nat->Value)->World->Prop}(r:∀Q g b u X K,G9 l b->b i=false->M g b u X->(∀p,onB o p=true->D p (u p) X)->K ((F u).put o.dst v) X->o.wp P (F u) X K Q)(t:Zw P l M R F D (i+1) rest)(hd:∀X,D i v X:=by exact λ_=>rfl)(f:∀g b u X w,G9 l b->b i=false->M g b u X->M g (Mz b i) (upd u i w) X:=by first | exact VMs.still rfl | exact Do.still AC | exact SMs.still AB rfl)(k:∀X,R X X:=by exact λ_=>⟨AJ _,λ_ _ _=>rfl⟩)(m:o.guard=aN:=by rfl)(n:∀u v,(F u).put o.dst v=F (upd u i v):=by exact λ_ _=>rfl):Zw P l M R F D i (o::rest) :=
 Zw.cons m n (λQ g b u X d c a q K j=>r Q g b u X K d c a (λp h=>(q p h).2) (j v g X (k X) (f g b u X v d c a) (hd X))) t
def Zw.v0{M:Γ->(Nat->Bool)->(Nat->Value)->World->Prop}(t:Zw P l M R F D (i+1) rest)(hd:∀X,D i v X:=by exact λ_=>rfl)(j:∀Q u X K,K ((F u).put o.dst v) X->o.wp P (F u) X K Q:=by exact λ_ _ _ _ h=>h)(a:∀g b u X w,G9 l b->b i=false->M g b u X->M g (Mz b i) (upd u i w) X:=by first | exact VMs.still rfl | exact Do.still AC | exact SMs.still AB rfl)(c:∀X,R X X:=by exact λ_=>⟨AJ _,λ_ _ _=>rfl⟩)(d:o.guard=aN:=by rfl)(f:∀u v,(F u).put o.dst v=F (upd u i v):=by exact λ_ _=>rfl):Zw P l M R F D i (o::rest) :=
 Zw.vf (λQ g b u X K _ _ _ _ h=>j Q u X K h) t hd a c d f
def Zw.v1{M:Γ->(Nat->Bool)->(Nat->Value)->World->Prop}{c:Value}(p:Nat)(t:Zw P l M R F D (i+1) rest)(r:∀x X,D p x X->x=c:=by exact λ_ _ h=>h)(hd:∀X,D i v X:=by exact λ_=>rfl)(s:∀Q u X K,K ((F (upd u p c)).put o.dst v) X->o.wp P (F (upd u p c)) X K Q:=by exact λ_ _ _ _ h=>h)(n:onB o p=true:=by rfl)(d:∀g b u X w,G9 l b->b i=false->M g b u X->M g (Mz b i) (upd u i w) X:=by first | exact VMs.still rfl | exact Do.still AC | exact SMs.still AB rfl)(k:∀X,R X X:=by exact λ_=>⟨AJ _,λ_ _ _=>rfl⟩)(m:o.guard=aN:=by rfl)(q:∀u v,(F u).put o.dst v=F (upd u i v):=by exact λ_ _=>rfl):Zw P l M R F D i (o::rest) :=
 Zw.vf (λQ g b u X K _ _ _ f h=>by
  have e:upd u p c=u:=by
   funext j;unfold upd;split
   ·rename_i a;rw[a,r _ _ (f p n)]
   rfl
  have a:=s Q u X K;rw[e] at a;exact a h) t hd d k m q
end
def Kg(G:Gr)(n:Int):Lim (Z2 G n).1/\((Z2 G n).2=0->Zm (Z2 G n).1=true):=by
 have h0:Zm ([]:List Nat)=true:=AC
 have a:∀x,Lim (Xm x).1/\Zm (Xm x).1=true:=λx=>by
  rcases F8 x with ⟨b,e⟩ | ⟨b,e⟩
  ·rw[e];exact⟨Z9 x,Ym x b⟩
  rw[e];exact⟨Lim.nil,h0⟩
 unfold Z2 Wi;split
 ·exact⟨Lim.nil,λ_=>h0⟩
 split
 ·exact⟨Lim.nil,λ_=>h0⟩
 split
 ·exact⟨Lim.nil,λ_=>h0⟩
 split
 ·exact⟨Lim.nil,λ_=>h0⟩
 exact⟨(a _).1,λ_=>(a _).2⟩
def Qp.no{G:Gr}{n:Int}{b:List Nat}{w:World}{a:Nat}(c:Below w w w')(h:V9 G n b [] a):Qp G n b w (aR (.tuple #[K aN 0 0,aI aJ (a:Int)])) w' :=
 ⟨c,[],a,aN,0,rfl,Za.nil _ _ _ _ AA,h⟩
def Zqc(xs a:List Nat):Lim (Mw xs a).1:=by
 unfold Mw;split
 ·split;exact Lim.nil;exact Z9 _
 exact Lim.nil
def maskP_lim(k:Nat)(a:List Nat)(c:Lim a)(i:Nat):Lim (Zrx k a i):=by
 induction i with
 | zero=>exact Lim.nil
 | succ i b =>
   refine b.append (Lim.mk ?_ Lim.nil);have:=c.getD i;split
   ·exact En (Nat.mod_le _ _) this
   exact this
def Zqs(k:Nat)(a:List Nat)(b:Lim a)(h0:0<(Q a))(h1:32*((Q a)-1)<k)(c:k<=32*(Q a)):
 Xx (Zrx k a (Q a))=oneOf k a:=by
 rw[Vg _ (maskP_lim k a b _),maskP_val k a b h0 h1 c];rfl
def Za.keep{w:World}{d:List Int}(h:Za .i64 w A n c d)(m:Zf w w'):Za .i64 w' A n c d:=by
 refine⟨h.1,h.2.1,h.2.2.1,λf=>?_⟩;obtain⟨b,g,e,k,l⟩:=h.2.2.2 f;have h0:=l 0 f;have hi:∃o q z,w.cell? ⟨b,o,aN⟩=some (aI q z):=by
  have s:0<(Q d):=by simpa [ints] using f
  refine⟨g+0,.i64,d[0],?_⟩;rw[h0];simp[ints,s]
 have p:=m.2 b k hi;exact⟨b,g,e,AK k m.1,λj r=>(DG (a:=⟨b,g+j,aN⟩) p).trans (l j r)⟩
def Zrk.snoc{w:World}{g:Option Addr}{k:Nat}(h:Zrk w B A n c f p){d:Nat}{xs:List Nat}(C:Za .i64 w a (Q xs) d (Zrc xs))(y:w'.ownsRow B 30 1 (K g (n+1) k) (n+1) (f++[K a (Q xs) d]))(u:w.grownBy w' (K A n c).ownBlock)(x:∀b,(K g (n+1) k).ownBlock=some b->Qf w' b):
 Zrk w' B g (n+1) k (f++[K a (Q xs) d]) (p++[xs]):=by
 have o:Zf w w':=Zf.of_off (Off.of_grown u) λq z=>h.noInt q z;have m:(Q f)=n:=by have:=h.own.1;simpa using this
 refine⟨y,x,by rw[AU,h.len];rfl,λj D l=>?_⟩;rcases H4 l with ⟨v,l⟩ | ⟨rfl,rfl⟩
 ·obtain⟨r,s,h1,t⟩:=h.row j D l;exact⟨r,s,by rw[DF (by rw[m,<-h.len];exact v)];exact h1,t.keep o⟩
 exact⟨a,d,by rw[BX (by rw[m,h.len];exact AJ _),m,h.len,Nat.sub_self];rfl,C.keep o⟩
def Zrn.nil(w:World):Zrn w aN 0 0 []:=⟨rfl,AJ _,AA,λh=>AA⟩
def Zqz{W:World}{d:List Nat}(h:Zq .u32 W A n c d)(hi:i<=n):∃At:Option Addr,
 (∀w:World,(Instr.sliceAt 27 (K A n c) (some (aI aJ (i:Int))) aN aN).run prog w = .ok (K At (n-i) (c-i)) w)/\Zq .u32 W At (n-i) (c-i) (d.drop i):=by
 have g:=h.len;have r:=h.cap;rcases BW n with rfl | l
 ·obtain rfl:i=0:=AA
  have m:=BH g;subst m;refine⟨A,λw=>?_,Zq.nil _ _ _ _ AA⟩;rcases A with _ | a
  ·go_simp
  by_cases p:c=0
  ·go_simp
  have q:¬((c:Int)<0):=AA
  go_simp
 obtain⟨b,k,s,rfl,o,_,_⟩:=h.get (j:=0) l;refine⟨if c=i then some ⟨b,k,aN⟩ else some ⟨b,k+i,aN⟩,λw=>?_,?_⟩
 ·have t:¬((n:Int)<(i:Int)):=AA
  go_simp
 by_cases f:c=i
 ·rw[if_pos f];obtain rfl:i=n:=AA
  rw[Nat.sub_self,<-g,List.drop_length];exact Zq.nil _ _ _ _ AA
 rw[if_neg f];have:=h.part i (n-i) (c-i) AA AA AA;rwa [AQ (by rw[CJ];omega)] at this
def step_appendV{P:Program}{w:World}{a:Act}{K:Act->World->Prop}{Q:Exit->Act->World->Prop}{E:Prop}(V:o.guard=aN)(s x:Operand)(t:TypeId)(Y:o.op = .call { callee := .builtin .append,args:=#[s,x],argTypes:=#[t,t] })(base:Nat)(e:TypeId)(z:Value)(bytes:Nat)(J:P.underlying t=some (.slice e))(hi:(P.info? e).map (λi=>(i.zero,i.size,i.bytes))=some (some z,1,bytes))(af:z.cells.size=1)(ag:∀u∈z.cells.toList,∀k x,u≠aI k x)(A:Option Addr)(n c:Nat)(xs:List Value)(Z:a.eval s = aK A n c)(H:w.ownsRow base e 1 (aK A n c) n xs)(X:∀g,(aK A n c).ownBlock=some g->Qf w g)(ae:∀u∈xs,∀k x,u≠aI k x)(f:Addr)(c2:Nat)(u:Value)(hx:a.eval x = aK (some f) 1 c2)(U:w.cell? f=some u)(h1:u.oneCell'=true)(hu:∀k x,u≠aI k x)(C:n+1<=9223372036854775807)(S:(n+1)*bytes<=140737488355328)(T:base<=w.heap.size)(h:∀d l w',w'.ownsRow base e 1 (aK d (n+1) l) (n+1) (xs++[u])->w.grownBy w' (aK A n c).ownBlock->(∀b,(aK d (n+1) l).ownBlock=some b->b<w.heap.size->(aK A n c).ownBlock=some b)->
   (∀b,(aK d (n+1) l).ownBlock=some b->Qf w' b)->K (a.put o.dst (aK d (n+1) l)) w'):if Region.wanted o (yielded ops a.tmps)=true then Oper.wp P o a w K Q else E:=by
 have hw:Region.wanted o (yielded ops a.tmps)=true:=by simp[Region.wanted,V]
 rw[if_pos hw];obtain⟨i,G,L,r,D⟩:=info_parts hi;have F:∀j v,[u][j]? = some v->w.cell? (f.add j)=some v:=by
  intro j v m;have W:j=0:=by have:=(AN.1 m).1;simp at this;omega
  subst W;obtain rfl:u=v:=by simpa using m
  have M:f.add 0=f:=by unfold Addr.add;simp
  rw[M];exact U
 have y:∀v∈[u],v.oneCell'=true:=λv m=>by rw[BO.1 m];exact h1
 obtain⟨v',w',I,B,N,_,p⟩:=run_append_own_at (P:=P) w base t o.type e i z 1 bytes J G L r D af AC _ n xs H f 1 c2 [u] rfl F y (by simpa [maxLen] using C) S T;have R:=Zr7 (P:=P) w base t o.type e i z J G L A n c xs (by rw[r];exact H) f 1 c2 AC [u] (by rw[r];rfl) F y C (by rw[D];exact S) X (λv m=>by rw[BO.1 m];exact hu) ae ag I;obtain⟨d,l,rfl⟩:=M3 B;have O:∀b,(aK d (n+1) l).ownBlock=some b->b<w.heap.size->(aK A n c).ownBlock=some b:=by
  intro b q ah;rcases p with p | p
  ·rw[<-p];exact q
  rw[p] at q;injection q with q;omega
 unfold Oper.wp execOp;simp only[Y,resolve,invoke,builtin,Sem.run_bind,Sem.run_pure,Result.andThen_ok,List.map_toArray,CU,List.map_nil,Z,hx,I];exact h d l w' B N O R
def valcell_set{a:World}{l:Option Addr}{ns cs:Nat}{m:Bool}(d:Blk a g 110 #[K l ns cs,aB m])(A:Option Addr)(n c:Nat)(b:Bool):
 Off (λk=>k=g) a ((a.setCell ⟨g,0,aN⟩ (K A n c)).setCell ⟨g,1,aN⟩ (aB b)) /\
 Blk ((a.setCell ⟨g,0,aN⟩ (K A n c)).setCell ⟨g,1,aN⟩ (aB b)) g 110 #[K A n c,aB b]/\Zf a ((a.setCell ⟨g,0,aN⟩ (K A n c)).setCell ⟨g,1,aN⟩ (aB b)):=by
 have j:Off (λk=>k=g) a ((a.setCell ⟨g,0,aN⟩ (K A n c)).setCell ⟨g,1,aN⟩ (aB b)):=(Off.of_set a g 0 (K A n c)).trans (Off.of_set _ g 1 (aB b)) λ_ _ h=>h;refine⟨j,(d.set 0 _).set 1 _,Zf.of_off j λq p=>?_⟩;rw[p];intro o k z f;rw[d.cell o] at f;rcases o with _ | _ | o <;> cases f
def X7.nil(w:World)(B:Nat):X7 w B aN 0 [] aN 0 []:=⟨BL _ _ _ _,BL _ _ _ _,λb a _=>by cases a⟩
def La.form{G:Gr}{q at_:Nat}{non:Int}{t:List Int}{w:World}{e:Ending}(h:La G q at_ non t w e w'):
 ∃(a kk:Nat) (j:Option Addr) (m:Nat) (g:Option Addr) (l:Nat) (f d:List Int),e = aR (aG #[aI aJ ((a:Nat):Int),K j (Q f) m,aI aJ ((kk:Nat):Int),K g (Q d) l])/\X7 w' w j m f g l d/\YOr G q at_ non t a kk f d:=by
 rcases h.2 with ⟨h1,b⟩ | ⟨c,k,a,o,r,n,p,h1,b,u,v,x,y,z,A,B,s⟩
 ·exact⟨0,0,aN,0,aN,0,[],[],b,X7.nil _ _,.inl ⟨h1,rfl⟩⟩
 exact⟨a,k,o,r,n,p,c.word,c.posts,B,s,.inr ⟨c,h1,rfl,rfl,b,u,v,x,y,z,A⟩⟩
section
variable {G:Gr}
def red_fs(g:G.Fits){l:List Int}{r:Nat}{u:List Nat}(h:UnL (Zi G) l n r u):∀ss,l=ss.map (Xd (Ze G))->(∀s∈ss,s<0->Zp s∈Ze G)->
 ∃f wd m,Fs G ss ((u.map (Yr G)).map λi:Nat=>(i:Int)) f wd m/\(Q wd)=n:=by
 induction h with
 | nil =>
   intro ss e a;cases ss with
   | nil=>exact⟨[],[],0,.nil,rfl⟩
   | cons=>cases e
 | @term s l n r t h0 _ I =>
   intro ss e a;cases ss with
   | nil=>cases e
   | cons q ss =>
     rw[CU] at e;injection e with e1 e2;obtain⟨f,wd,m,h1,z⟩:=I ss e2 λs h=>a s (.tail _ h);have W:=Mk q λh=>a q (By ..) h;exact⟨f,q::wd,m,.term AA h1,by rw[AY,z]⟩
 | @non s l n k i q r x X Y h0 F H _ _ J L =>
   intro ss e a;cases ss with
   | nil=>cases e
   | cons p ss =>
     rw[CU] at e;injection e with e1 e2;have V:=Mk p λh=>a p (By ..) h;have c:p<0:=AA
     have d:=a p (By ..) c;obtain⟨b,o,j,rfl⟩:=kept_back F;have D:=AM o;have U:=g.L b D;obtain⟨O,w1,M,a1,a2⟩:=J b.rt rfl λs h=>Qz g j h;obtain⟨P,R,N,v,y⟩:=L ss e2 λs h=>a s (.tail _ h);have S:=G8 c d;have A:sig G b.L.toNat=sig G (Zp p):=by
      have T:=(C8 d).1;have B:sig G b.L.toNat=Zp s:=H;rw[B,e1];omega
     have C:=sig_inj (Zug j) d A;refine⟨O++(Yr G i:Int)::P,w1++R,max (M+1) N,?_,by rw[AU,a2,y]⟩;have E:Ur G (Yr G i:Int)=some b:=by
      unfold Ur;rw[if_pos AA,DH];exact o
     rw[CU,CU,DI,DI];exact .non c E (by unfold Zp at C;omega) a1 v
def single_un{H:Gr}{s:Int}{r:Nat}{u:List Nat}(h0:s<0)(h:UnT H (Zp s) n r u):∃q,UnL H [s] n q u:=by
 have:=UnL.non' h0 h (UnL.nil (G:=H));rw[DJ] at this;exact⟨_,this⟩
end
section
open Go.RowKit Go.Shelf
attribute [local go_sem] Oper.semAt_some
open Go.RowKit Go.Shelf
open Go.RowKit Go.Shelf
attribute [local go_sem] Oper.semAt_some
def Zrm.no{G:Gr}{n:Int}{b:List Nat}{w:World}{a:Nat}(c:Below w w w')(h:L3 G n b [] 0 a):Zrm G n b w (aR (.tuple #[K aN 0 0,aI aJ 0,aI aJ (a:Int)])) w' :=
 ⟨c,[],0,a,aN,0,rfl,Za.nil _ _ _ _ AA,h⟩
end
section
open Go.ChangeShapes Go.WideShapes Go.ChangeAt Go.RowKit
def Nj.ints{k:IntKind}{w:World}{len cap:Nat}{c:List Int}(h:Nj k w a len cap c):
 ∃xs:List Int,Za k w a len cap xs/\∀x∈xs,(Lit.int k x).wf=true:=by
 rcases h with ⟨rfl,rfl,rfl,rfl⟩ | ⟨x,rfl,p,q,A,l,t⟩
 ·exact⟨[],Za.nil _ _ _ _ AE,λx u=>by cases u⟩
 have g:(c.take len).length=len:=by rw[BU];omega
 have o:∀j,j<len->(c.take len)[j]? = some (c.getD j 0):=λj d=>by
  rw[Ej,if_pos d,AO,AL AA];rfl
 refine⟨c.take len,⟨?_,p,by simpa [maxLen] using q,λr=>?_⟩,λz v=>t z (List.mem_of_mem_take v)⟩
 ·rw[Y9,g]
 rw[Y9,g] at r;obtain⟨b,f,y⟩:=x;have h0:=l 0 AA;have s:y=aN:=by simpa [Addr.add] using World.cell?_spot h0
 subst s;have n:w.cell? ⟨b,f,aN⟩=some (aI k (c.getD 0 0)):=by simpa [Addr.add] using h0
 refine⟨b,f,rfl,Zyg n,λj d=>?_⟩;rw[Y9,g] at d;have m:=l j AA;have e:(⟨b,f,aN⟩:Addr).add j=⟨b,f+j,aN⟩:=by
  unfold Addr.add;split
  ·rename_i h0;subst h0;rfl
  rfl
 rw[e] at m;rw[m];simp only[Go.Proofs.YtaagompdgiobeaaGreatDoor.ints,BB,o j d,Ei]
end
section
open Go.ChangeShapes Go.WideShapes Go.ChangeAt Go.RowKit
open Go.ChangeShapes Go.WideShapes Go.ChangeAt Go.RowKit
open Go.ChangeShapes Go.WideShapes Go.ChangeAt Go.RowKit Go.Lib Go.Deep
open Go.ChangeShapes Go.WideShapes Go.ChangeAt Go.RowKit Go.Lib Go.Deep
variable {H:Type} {enc:TypeId × Value->H} {w:World} {base:Nat} {held:Bool}
def open_intsG{x:DataW H × List MemPlace}(h:DataW.trod enc prog w base (λ_=>true) held fuel 30 [v]=some x):
 ∃A n c f,v = K A n c/\Za .i64 w A n c f/\∀z∈f,U3 z:=by
 rcases open_ints underlying30 underlying3 AB h with ⟨b,_⟩ | ⟨a,len,cap,f,b,_,l,m,d,_,j,p⟩
 ·simp at b;exact⟨aN,0,0,[],b,Za.nil _ _ _ _ AA,λz d=>by cases d⟩
 simp at b;obtain⟨xs,g,o⟩:=Nj.ints (k := .i64) (w:=w) (.inr ⟨a,rfl,l,m,by simpa using d,j,p⟩:Nj .i64 w (some a) len cap f);exact⟨some a,len,cap,xs,b,g,λz d=>bounds_i64 (o z d)⟩
def open_strsG{x:DataW H × List MemPlace}(h:DataW.trod enc prog w base (λ_=>true) held fuel 23 [v]=some x):
 ∃A n c ss,v = K A n c/\Js w A n c ss:=by
 rcases open_strings underlying23 underlying9 AB h with ⟨b,_⟩ | ⟨a,l,c,ss,b,_,f,g,j,_,d,_⟩
 ·simp at b;exact⟨aN,0,0,[],b,Sl.nil _ _ _ AC⟩
 simp at b;exact⟨some a,l,c,_,b,Js.of_row f g (by simpa using j) d⟩
def open_rules{x:DataW H × List MemPlace}(h:DataW.trod enc prog w base (λ_=>true) held fuel 24 [v]=some x):
 ∃A n c E,v = K A n c/\Dv w A n c E/\∀r∈E,∀s∈r.rt,U3 s:=by
 rcases open_slice underlying24 h with ⟨g,_⟩ | ⟨a,len,cap,m,n,D,X,g,_,J,L,M,_,P⟩
 ·simp at g;exact⟨aN,0,0,[],g,⟨rfl,AJ _,AA,λh=>AA⟩,λt d=>by cases d⟩
 simp at g;have Z:len<=m:=by rw[M];split <;> omega
 have each:∀i,∃r:Rul,i<len->(w.cell? (a.add (i*3))=some (aI aJ r.L)/\(∃Ar cr,w.cell? (a.add (i*3+1))=some (K Ar (Q r.rt) cr)/\Za .i64 w Ar (Q r.rt) cr r.rt)/\w.cell? (a.add (i*3+2))=some (aI aJ r.P)/\∀s∈r.rt,U3 s):=λi=>by
  by_cases hi:i<len
  ·obtain⟨Y,h1,I⟩:=P i AA;have u:prog.cellsOf 60=3:=AB
   rw[u] at h1;obtain⟨v0,v1,v2,y0,y1,y2,k,S,T,U,g0,F,G⟩:=elem3 underlying60 u rfl rfl rfl AB AB AB h1 I;obtain⟨n1,y,_,_⟩:=DataW.trod_int underlying3 g0;obtain⟨Ar,nr,cr,W,rfl,l,O⟩:=open_intsG F;obtain⟨n2,z,_,_⟩:=DataW.trod_int underlying3 G;simp at y z;subst y z;obtain rfl:=l.len;exact⟨⟨n1,W,n2⟩,λ_=>⟨S,⟨Ar,cr,T,l⟩,U,O⟩⟩
  exact⟨⟨0,[],0⟩,λh=>absurd h hi⟩
 obtain⟨f,q⟩:=Classical.axiomOfChoice each;refine⟨some a,len,cap,(List.range len).map f,g,⟨AE,J,by simpa [maxLen] using L,λh0=>?_⟩,λt d=>?_⟩
 ·obtain⟨b,R,V⟩:=a;have p:=(q 0 h0).1;have N:V=aN:=by simpa [Addr.add] using World.cell?_spot p
  subst N;rw[Bi] at p;refine⟨b,R,rfl,by have:=Zyg p;simpa using this,λj t d=>?_⟩;rw[BB] at d;have o:j<len:=by
   rcases BD j len with h | h
   ·exact h
   simp[BE (show (List.range len).length<=j by simpa using h)] at d
  simp[o] at d;subst d;obtain⟨p0,⟨Ar,cr,B,l⟩,C,_⟩:=q j o;rw[Bi] at p0 B C;exact⟨Ar,cr,p0,by rw[DY];exact B,by rw[DY];exact C,l⟩
 obtain⟨j,o,rfl⟩:=CX.1 d;exact (q j (BP.1 o)).2.2.2
end
section
open Go.ChangeShapes Go.WideShapes Go.ChangeAt Go.RowKit
open Go.ChangeShapes Go.WideShapes Go.ChangeAt Go.RowKit
open Go.ChangeShapes Go.WideShapes Go.ChangeAt Go.RowKit Go.Lib Go.Deep
open Go.ChangeShapes Go.WideShapes Go.ChangeAt Go.RowKit Go.Lib Go.Deep
def one_limb(h:Zm [c]=true)(b:c<4294967296):[c]=Zq3 c:=by
 have h1:=(Ul [c] (Lim.mk b Lim.nil) h).1;have a:val [c]=c:=by simp[val]
 rwa [a] at h1
def smp_even{G:Gr}{k K w:Nat}(f:Z2 G (k:Int)=([c],0))(B:2<=c)(M:c<=40)(C:2 ^ K<2*c)(D:c<=2 ^ K)(L:w<2 ^ K){u j:Nat}(h:L3 G (k:Int) [w] s u j):
 (c<=w/\j=12)\/(w<c/\(j=13\/(j=0/\u=1/\V9 G (k:Int) (Zq3 w) s 0))):=by
 have q:=(Kg G (k:Int)).2 (by rw[f]);rw[f] at q;have H:=one_limb q AA;have p:=below_even c K w B AA C D L;rw[<-H] at p;unfold L3 at h;rw[f] at h;simp only[] at h;rw[p] at h;rcases h with ⟨a,_⟩ | ⟨_,a,_⟩ | ⟨_,_,a,_,_,e⟩ | ⟨_,_,a,o,e,r,hd⟩
 ·exact absurd rfl a
 ·cases a
 ·by_cases g:w<c
  ·rw[if_pos g] at a;exact absurd rfl a
  rw[if_neg g] at e;exact .inl ⟨AA,e⟩
 by_cases g:w<c
 ·rw[if_pos g] at r hd;refine .inr ⟨g,?_⟩;have E:w<big:=Zrf w AA;have J:val (Z2 G (k:Int)).1=c:=by rw[f];simp[val]
  rcases r with ⟨b,_⟩ | ⟨_,b,_⟩ | ⟨_,_,b,_⟩ | ⟨b,v,x,t,I,F⟩
  ·rcases b with b | b | b | b
   ·exfalso;unfold Z2 at f;rw[if_pos (.inl b)] at f;cases f
   ·omega
   ·exfalso;unfold Z2 at f;rw[if_pos (.inr (.inr b))] at f;cases f
   simp only[] at b;rw[Ym w E] at b;cases b
  ·rw[f] at b;exact absurd rfl b
  ·simp only[] at b;rw[J,Yd] at b;omega
  rcases F with ⟨m,n,l⟩ | ⟨m,n,l⟩
  ·subst l;rcases hd with ⟨_,_,_,d⟩ | ⟨d,_⟩
   ·exact .inl d
   cases d
  subst l;rcases hd with ⟨d,_⟩ | ⟨_,y,z,A⟩
  ·exact absurd rfl d
  refine .inr ⟨A,z,?_⟩;subst y;exact .inr (.inr (.inr ⟨b,v,x,t,I,.inr ⟨m,n,rfl⟩⟩))
 rw[if_neg g] at a;cases a
end
end
section
variable{g n r:Nat}{S:Nat->Prop}{ts:List ((List Int × Nat) × Nat)}{l:List Int}{t j:List Nat}{s:Int}{A At:Option Addr}{xs:List Value}
def Zvc(h:GH)(G:Gr)(w:World)(B:Yf w h G)(h1:h.n1<=100)(h2:h.n2<=100)(h3:h.n3<=100):
 Calls prog 61 #[GV h G.zt] w λe w'=>Below w w w'/\e = aR (aI .u32 ((Vh G:Nat):Int)):=by
 obtain⟨a1,n1,c1,a2,n2,c2,a3,n3,c3⟩:=h;have T:(Q G.O)=n2:=B.O.len;have k2:=B.O.cap;simp only[] at h1 h2 h3 k2;have Hg:=LH B;have u:=Zy w (aC #[K a1 n1 c1,K a2 n2 c2,K a3 n3 c3,aI aJ G.zt] 26);have A:=Y1.new w 26 ⟨a1,n1,c1,a2,n2,c2,a3,n3,c3⟩ G.zt;clear B;go_enter func61,ntmps61;have⟨z5,z0,z1,z2,z3⟩:=A;simp only[] at z0 z1 z2 z3;go_wp2_with fail;generalize w.alloc (aC #[K a1 n1 c1,K a2 n2 c2,K a3 n3 c3,aI aJ G.zt] 26)=m at *;have af:=LH A;have ad:=LH u;(with_reducible refine (Zss ⟨a1,n1,c1,a2,n2,c2,a3,n3,c3⟩ G m (Hg.out.below u) (by simp only[];omega) (by simp only[];omega) (by simp only[];omega)).mono ?_);rintro e W1⟨y,ba⟩;have N:=LH (Zz u y);have ae:=LH y;have E:=A.below y;clear z0 z1 z2 z3 z5 A u y;rcases ba with ⟨o,rfl⟩ | ⟨o,l,W,rfl,C⟩
 ·have⟨y5,y0,y1,y2,y3⟩:=E;simp only[] at y0 y1 y2 y3;have t:Hid (Vh G=0):=LH (by unfold Vh;rw[o];rfl);clear o E;go_wp2_with fail;go_loop [4] (λi=>i = aI aJ 0) (λi=>0)
  case atStart=>rfl
  subst hrel;rcases BW n2 with rfl | bo
  ·go_wp2_with fail;go_loop [7,8] (λs i=>s = aI .u32 0/\i = aI aJ 0) (λs i=>0)
   case atStart=>exact⟨rfl,rfl⟩
   obtain⟨rfl,rfl⟩:=hrel;go_wp2_with fail;go_ret;exact⟨N.out,by rw[t.out];rfl⟩
  go_wp2_with fail;go_loop [7,8] (λs i=>s = aI .u32 0/\i = aI aJ 0) (λs i=>0)
  case atStart=>exact⟨rfl,rfl⟩
  obtain⟨rfl,rfl⟩:=hrel;go_wp2_with fail;go_ret;exact⟨N.out,by rw[t.out];rfl⟩
 have H:=Gr.fits o;have ap:=H.n2.2;have ao:=H.n2.1;rw[T] at ap ao;have J:(Yz G).length=n2:=by rw[Wh];exact T
 have L:=Ks G;have t:Hid (Vh G=cycS (Yz G)):=LH (by unfold Vh;rw[o];rfl);have a:=LH C;have al:=LH W;have bm:l<W1.heap.size:=C.lt;generalize Yz G=S at *;subst J;have bh:decide (0<(Q S))=true:=by rw[BA];omega
 have bi:decide ((0:Int)<((Q S):Int))=true:=by rw[BA];omega
 have ax:=LH L;have aj:=LH (Zsf S);have c:=Lv L;have ai:=LH c;have ah:=LH (Li S);clear H o C W L c E;go_wp2_with fail;go_loopw [4] (λi wr=>∃q:Nat,q<=(Q S)/\i = aI aJ (q:Int)/\Hid (Below m m wr)/\Hid (V0 wr l (Z3 (fwI (Q S) (Q S)) q S))) (λi _=>(Q S)-(intOf i).toNat)
 case atStart=>exact⟨0,AV _,rfl,ae,a⟩
 obtain⟨q,hq,rfl,g,a⟩:=hrel;have D:=af.out.below g.out;have⟨y5,y0,y1,y2,y3⟩:=D;simp only[] at y0 y1 y2 y3;by_cases bq:q<(Q S)
 case neg =>
  obtain rfl:q=(Q S):=AA
  rw[aj.out] at a;have V:cycS S=Jb (λi=>Yw S i i) (Q S):=rfl;have ag:=LH V;clear V D;go_wp2_with fail;go_loop [7,8] (λs i=>∃j:Nat,j<=(Q S)/\i = aI aJ (j:Int)/\s = aI .u32 ((Jb (λi=>Yw S i i) j:Nat):Int)) (λs i=>(Q S)-(intOf i).toNat)
  case atStart=>exact⟨0,AV _,rfl,rfl⟩
  obtain⟨j,hj,rfl,rfl⟩:=hrel;by_cases I:j<(Q S)
  case neg =>
   obtain rfl:j=(Q S):=AA
   go_wp2_with fail;go_ret;exact⟨Zz ad.out g.out,by rw[t.out,ag.out];rfl⟩
  have U:=a.out.at (i:=j) (by rw[ah.out];exact I);have Y:=ai.out.get j;have n:=Bl ((Xu S).getD j 0) j wr Y;have hx:((Xu S).getD j 0).testBit j=Yw S j j:=rfl;have Z:=Mp (λi=>Yw S i i) j;have J:=Jg (λi=>Yw S i i) j;have a9:=or32 (Jb (λi=>Yw S i i) j) (Y6 (j:Int)) J (Ua _);have R:=Ch (j:Int) wr;rw[hx] at n;generalize (Xu S).getD j 0=v at *;generalize Yw S j j=b at *;generalize Jb (λi=>Yw S i i) j=s0 at *;generalize Y6 (j:Int)=bj at *;have O:=LH Z;have CH:=LH n;have CB:=LH R;clear hx Z n R Y;cases b
  ·go_wp2_with (go_at_call 120;(with_reducible refine CH.out.mono ?_);rintro e w'⟨rfl,rfl⟩);go_round
   case rel=>exact⟨j+1,AA,AF,by rw[O.out];rfl⟩
   simp[intOf];omega
  go_wp2_with (first
   | (go_at_call 120;(with_reducible refine CH.out.mono ?_);rintro e w'⟨rfl,rfl⟩)
   | (go_at_call 121;(with_reducible refine CB.out.mono ?_);rintro e w'⟨rfl,rfl⟩))
  go_round
  case rel=>exact⟨j+1,AA,AF,by rw[O.out];rfl⟩
  simp[intOf];omega
 have ar:Hid (Z3 (fwI (Q S) (Q S)) (q+1) S=fwI (Q S) (Q S) (Z3 (fwI (Q S) (Q S)) q S)):=rfl;have f:=K5 (Q S) (Q S) S q;have c:=Lo (Q S) (Q S) ax.out q;generalize Z3 (fwI (Q S) (Q S)) q S=F at *;have an:=LH f;have aw:=LH c;clear f c D;go_wp2_with fail;clear y0 y1 y2 y3 y5;go_loopw [5] (λi p=>∃j:Nat,j<=(Q S)/\i = aI aJ (j:Int)/\Hid (Below m m p)/\Hid (V0 p l (fwI (Q S) j F))) (λi _=>(Q S)-(intOf i).toNat)
 case atStart=>exact⟨0,AV _,rfl,g,a⟩
 obtain⟨j,hj,rfl,g,a⟩:=hrel;by_cases I:j<(Q S)
 case neg =>
  obtain rfl:j=(Q S):=AA
  go_wp2_with fail;go_roundw
  case rel=>exact⟨q+1,AA,AF,g,LH (by rw[ar.out];exact a.out)⟩
  simp[intOf];omega
 have aq:=LH (M9 (Q S) j F);have f:=Zyc (Q S) F j;have c:=Zzu (Q S) aw.out j;rw[an.out] at f;generalize fwI (Q S) j F=r at *;have am:=LH f;have av:=LH c;clear f c;go_wp2_with fail;go_loopw [6] (λi p=>∃k:Nat,k<=(Q S)/\i = aI aJ (k:Int)/\Hid (Below m m p)/\Hid (V0 p l (fwR j k r))) (λi _=>(Q S)-(intOf i).toNat)
 case atStart=>exact⟨0,AV _,rfl,g,a⟩
 obtain⟨k,hk,rfl,g,a⟩:=hrel;by_cases a8:k<(Q S)
 case neg =>
  obtain rfl:k=(Q S):=AA
  go_wp2_with fail;go_roundw
  case rel=>exact⟨j+1,AA,AF,g,LH (by rw[aq.out];exact a.out)⟩
  simp[intOf];omega
 have M:=Mm j k r;have f:=Zyi j r k;have c:=Zzp j av.out k;rw[am.out] at f;generalize fwR j k r=d at *;unfold fwK addAt at M;have U:=a.out.at (i:=j) (by rw[f];exact I);have be:=a.out.at (i:=k) (by rw[f];exact a8);have a6:=Blk.frozen a.out j;have X:l<wr.heap.size:=a.out.lt;have n:=Bl (d.getD j 0) k wr (c.get j);have a9:=or32 (d.getD j 0) (d.getD k 0) (c.get j) (c.get k);have au:=LH λx:Ext wr=>V0.put (Blk.ext a.out (Zr wr x):V0 (bl wr x) l d) j (d.getD j 0 ||| d.getD k 0);have CH:=LH n;have bc:=Yt wr;have bf:=Kh wr;generalize (d.getD j 0).testBit k=b at *;generalize d.getD j 0 ||| d.getD k 0=z at *
 generalize d.getD j 0=vj at *;generalize d.getD k 0=vk at *;have P:=LH M;clear M f c n;cases b
 ·go_wp2_with (go_at_call 120;(with_reducible refine CH.out.mono ?_);rintro e w'⟨rfl,rfl⟩);go_roundw
  case rel=>exact⟨k+1,AA,AF,g,LH (by rw[P.out];exact a.out)⟩
  simp[intOf];omega
 go_wp2_with (go_at_call 120;(with_reducible refine CH.out.mono ?_);rintro e w'⟨rfl,rfl⟩);refine Yx 12 AB AB ?_;simp only[List.take_succ_cons,List.take_zero,List.drop_succ_cons,Ed];repeat (go_big_quiet_step (fail))
 refine BJ ?_;rintro _⟨x,rfl⟩;have bg:=(bc x l j X).trans U;have bk:=(bf x l j X).trans a6;have br:=Lb wr x;go_wp2_with fail;go_roundw
 case rel=>exact⟨k+1,AA,AF,LH (Zg (Zz g.out (Zr wr x)) _ _ _ al.out),LH (by rw[P.out];exact au.out x)⟩
 simp[intOf];omega
def Zvq(h:GH)(G:Gr)(w:World)(n:Yf w h G)(h1:h.n1<=100)(h2:h.n2<=100)(h3:h.n3<=100):
 Calls prog 127 #[GV h G.zt] w λe w'=>Below w w w'/\e = aR (aI .u32 ((Gy G:Nat):Int)):=by
 obtain⟨a1,n1,c1,a2,n2,c2,a3,n3,c3⟩:=h;have r:(Q G.O)=n2:=n.O.len;have k2:=n.O.cap;simp only[] at h1 h2 h3 k2;have S:=LH n;have t:=Zy w (aC #[K a1 n1 c1,K a2 n2 c2,K a3 n3 c3,aI aJ G.zt] 26);have F:=Y1.new w 26 ⟨a1,n1,c1,a2,n2,c2,a3,n3,c3⟩ G.zt;clear n;go_enter func127,ntmps127;have⟨y5,y0,y1,y2,y3⟩:=F;simp only[] at y0 y1 y2 y3;go_upto_region 1 with fail;generalize w.alloc (aC #[K a1 n1 c1,K a2 n2 c2,K a3 n3 c3,aI aJ G.zt] 26)=a at *;have y:=LH t;have m:=LH (S.out.below t);clear t F;rcases g:G.rt with _ | _
 ·have k:=LH g;have l:=LH λx:Ext a=>(Qt ⟨a1,n1,c1,a2,n2,c2,a3,n3,c3⟩ G (bl a x) (m.out.below (Zr a x)) (by simp only[];omega) (by simp only[];omega) (by simp only[];omega)).mono λe w' c=>And.intro (c.2.resolve_right λf=>by rw[k.out] at f;cases f.1).2 c.1;have L:=LH λx:Ext a=>(Lw ⟨a1,n1,c1,a2,n2,c2,a3,n3,c3⟩ G (bl a x) (m.out.below (Zr a x)) (by simp only[];omega) (by simp only[];omega) (by simp only[];omega)).mono λe w' c=>And.intro (c.2.resolve_right λf=>by rw[k.out] at f;cases f.1).2 c.1;have o:Hid (Gy G=0):=LH (by unfold Gy;rw[g];rfl);have Y:=Yt a;clear g;refine Zs AB AB ?_;repeat (go_big_quiet_step (first
   | (go_at_call 56;with_reducible exact Ve (l.out _))
   | (go_at_call 57;with_reducible exact Ve (L.out _))))
  refine BJ ?_;rintro _⟨x,rfl⟩;have N:=LH (Zz y.out (Zr a x));generalize bl a x=W2 at *;clear y0 y1 y2 y3 y5 Y;go_wp2_with fail;go_loop [5,6] (λs i=>s = aI .u32 0/\i = aI aJ 0) (λs i=>0)
  case atStart=>exact⟨rfl,rfl⟩
  obtain⟨rfl,rfl⟩:=hrel;go_wp2_with fail;go_ret;exact⟨N.out,by rw[o.out];rfl⟩
 have af:=Gr.fits g;have k:=LH g;have o:Hid (Gy G=Qm G):=LH (by unfold Gy;rw[g];rfl);have v:=LH λX (d:Below a a X)=>(Qt ⟨a1,n1,c1,a2,n2,c2,a3,n3,c3⟩ G X (m.out.below d) (by simp only[];omega) (by simp only[];omega) (by simp only[];omega)).mono λe w' c=>And.intro (Zz d c.1) (And.intro (LH c.1) (c.2.resolve_left λf=>by rw[k.out] at f;cases f.1).2);have l:=LH λX (d:Below a a X)=>(Lw ⟨a1,n1,c1,a2,n2,c2,a3,n3,c3⟩ G X (m.out.below d) (by simp only[];omega) (by simp only[];omega) (by simp only[];omega)).mono λe w' c=>And.intro (Zz d c.1) (And.intro (LH c.1) (c.2.resolve_left λf=>by rw[k.out] at f;cases f.1).2);have z:Hid (∀b,Below a a b->b.cell? ⟨w,0,aN⟩=some (K a1 n1 c1)/\b.cell? ⟨w,1,aN⟩=some (K a2 n2 c2)/\b.cell? ⟨w,2,aN⟩=some (K a3 n3 c3)/\b.cell? ⟨w,3,aN⟩=some (aI aJ G.zt)/\Below a a b):=LH λb d=>⟨by rw[d.cell (by exact y5)];exact y0,by rw[d.cell (by exact y5)];exact y1,by rw[d.cell (by exact y5)];exact y2,by rw[d.cell (by exact y5)];exact y3,d⟩;clear g af;go_region_held3 (λb=>b.cell? ⟨w,0,aN⟩=some (K a1 n1 c1)/\b.cell? ⟨w,1,aN⟩=some (K a2 n2 c2)/\b.cell? ⟨w,2,aN⟩=some (K a3 n3 c3)/\b.cell? ⟨w,3,aN⟩=some (aI aJ G.zt)/\Below a a b)
  ((refine z.out _ ?_;(repeat (first | assumption | exact AP _ _ | refine Below.drew ?_ | refine Zo ?_ _ | refine Zg ?_ _ _ _ (by (first | exact AJ _ | exact DO _ | exact Below.size AH | exact Nat.le_succ_of_le (Below.size AH) | (simp;done) | omega))));done))
  (first
    | (go_at_call 56;refine (v.out _ (by (repeat (first | assumption | exact AP _ _ | refine Below.drew ?_ | refine Zo ?_ _ | refine Zg ?_ _ _ _ (by (first | exact AJ _ | exact DO _ | exact Below.size AH | exact Nat.le_succ_of_le (Below.size AH) | (simp;done) | omega)))))).mono ?_;rintro e w2⟨ae,R,Z,ag,rfl,A⟩)
    | (go_at_call 57;refine (l.out _ (by (repeat (first | assumption | exact AP _ _ | refine Below.drew ?_ | refine Zo ?_ _ | refine Zg ?_ _ _ _ (by (first | exact AJ _ | exact DO _ | exact Below.size AH | exact Nat.le_succ_of_le (Below.size AH) | (simp;done) | omega)))))).mono ?_;rintro e u⟨E,C,gP,ah,rfl,B⟩))
 have O:Hid (Z8 u Z (Zt G)):=Blk.hidden A C;have P:Hid (Z8 u gP (Z5 G)):=B;have M:=LH (Zz y.out E);have W:Hid (Qm G=Jb (λi=>(Zt G).getD i false&&(Z5 G).getD i false) n2):=LH (by unfold Qm;rw[r]);have T:Hid ((Zt G).length=n2):=LH (by rw[Vx];exact r);have U:Hid ((Z5 G).length=n2):=LH (by rw[K9];exact r);clear ae R ag A C ah B E v l z y0 y1 y2 y3 y5;go_wp2_with fail;go_loop [5,6] (λs i=>∃j:Nat,j<=n2/\i = aI aJ (j:Int)/\s = aI .u32 ((Jb (λi=>(Zt G).getD i false&&(Z5 G).getD i false) j:Nat):Int)) (λs i=>n2-(intOf i).toNat)
 case atStart=>exact⟨0,AV _,rfl,rfl⟩
 obtain⟨j,hj,rfl,rfl⟩:=hrel;by_cases H:j<n2
 case neg =>
  obtain rfl:j=n2:=AA
  go_wp2_with fail;go_ret;exact⟨M.out,by rw[o.out,W.out];rfl⟩
 have am:=O.out.at (i:=j) (by rw[T.out];exact H);have an:=P.out.at (i:=j) (by rw[U.out];exact H);have I:=Mp (λi=>(Zt G).getD i false&&(Z5 G).getD i false) j;have ai:=Jg (λi=>(Zt G).getD i false&&(Z5 G).getD i false) j;have ap:=or32 (Jb (λi=>(Zt G).getD i false&&(Z5 G).getD i false) j) (Y6 (j:Int)) ai (Ua _);have D:=Ch (j:Int) u;generalize Jb (λi=>(Zt G).getD i false&&(Z5 G).getD i false) j=s0 at *;generalize (Zt G).getD j false=p at *;generalize (Z5 G).getD j false=q at *;generalize Y6 (j:Int)=bj at *;have V:=LH I;have J:=LH D;clear I D;cases p <;> cases q;all_goals
  go_wp2_with (go_at_call 121;(with_reducible refine J.out.mono ?_);rintro e w'⟨rfl,rfl⟩);go_round
  case rel=>exact⟨j+1,AA,AF,by rw[V.out];rfl⟩
  simp[intOf];omega
set_option maxHeartbeats 8000000 in
def Dk(h:GH)(G:Gr)(w:World)(f:Yf w h G)(h1:h.n1<=100)(h2:h.n2<=100)(h3:h.n3<=100):
 Calls prog 27 #[GV h G.zt] w (Zyo G w):=by
 obtain⟨a1,n1,c1,a2,n2,c2,a3,n3,c3⟩:=h;have e1:(Q G.T)=n1:=f.T.len;have e2:(Q G.O)=n2:=f.O.len;have e3:(Q G.U)=n3:=f.U.len;have k1:=f.T.cap;have k2:=f.O.cap;have k3:=f.U.cap;simp only[] at h1 h2 h3 k1 k2 k3;have Hg:=LH f;have g9:=Zy w (aC #[K a1 n1 c1,K a2 n2 c2,K a3 n3 c3,aI aJ G.zt] 26);have fq:=Y1.new w 26 ⟨a1,n1,c1,a2,n2,c2,a3,n3,c3⟩ G.zt;clear f;go_enter func27,ntmps27;have⟨z5,z0,z1,z2,z3⟩:=fq;simp only[] at z0 z1 z2 z3;go_upto_region 1 with fail;have fp:=Zy (w.alloc (aC #[K a1 n1 c1,K a2 n2 c2,K a3 n3 c3,aI aJ G.zt] 26)) (aC #[K aN 0 0,K aN 0 0,K aN 0 0,aI aJ 0] 26);have fj:=Blk.new (w.alloc (aC #[K a1 n1 c1,K a2 n2 c2,K a3 n3 c3,aI aJ G.zt] 26)) 26 #[K aN 0 0,K aN 0 0,K aN 0 0,aI aJ 0];have bn:=Zz g9 fp;have fr:=fq.below fp;have jy:(w.alloc (aC #[K a1 n1 c1,K a2 n2 c2,K a3 n3 c3,aI aJ G.zt] 26)).heap.size=w.heap.size+1:=Zl _ _;generalize (w.alloc (aC #[K a1 n1 c1,K a2 n2 c2,K a3 n3 c3,aI aJ G.zt] 26)).alloc (aC #[K aN 0 0,K aN 0 0,K aN 0 0,aI aJ 0] 26)=W1 at *;rw[jy] at fj;clear jy fp fq g9 z0 z1 z2 z3 z5;have h8:Hid (Blk W1 (w.heap.size+1) 26 #[K aN 0 0,K aN 0 0,K aN 0 0,aI aJ 0]):=LH fj;have⟨y5,y0,y1,y2,y3⟩:=fr;simp only[] at y0 y1 y2 y3;go_wp2_with fail;(with_reducible refine (Jr ⟨a1,n1,c1,a2,n2,c2,a3,n3,c3⟩ G W1 (Hg.out.below bn) (by simp only[];omega) (by simp only[];omega) (by simp only[];omega)).mono ?_);rintro e L⟨rfl,dn⟩;have he:=Zz bn dn;have jg:=fr.below dn;have aj:Blk L (w.heap.size+1) 26 #[K aN 0 0,K aN 0 0,K aN 0 0,aI aJ 0]:=Blk.ext h8.out dn;clear dn fr bn fj h8 y0 y1 y2 y3 y5;have r0:=aj.cell 0;have r1:=aj.cell 1;have r2:=aj.cell 2;have r3:=aj.cell 3;have f0:=aj.frozen 0;have f1:=aj.frozen 1;have f2:=aj.frozen 2;have f3:=aj.frozen 3;have dz:=LH aj;have an:=LH he;have d1:=LH jg;clear aj he jg;rcases cj:G.rt with _ | _
 case false =>
  have bz:Hid (Xp G=false):=LH (by unfold Xp;rw[cj];rfl);clear cj;go_wp2_with fail;refine AW (Yu (p:=2) (u:=3) (v:=4) AB _ _ (w.heap.size+1) 26 #[K aN 0 0,K aN 0 0,K aN 0 0,aI aJ 0] (0,0) _ rfl ((((Blk.set (Blk.set (Blk.set (Blk.set dz.out 0 (K aN 0 0)) 1 (K aN 0 0)) 2 (K aN 0 0)) 3 (aI aJ 0))))) underlying26 rfl AB) rfl ?_;exact⟨(((an.out.trans (Zn (Zd _ _ _ _) an.out.size (DO _))).trans (Zn (Zd _ _ _ _) (by simpa using an.out.size) (DO _))).trans (Zn (Zd _ _ _ _) (by simpa using an.out.size) (DO _))).trans (Zn (Zd _ _ _ _) (by simpa using an.out.size) (DO _)),.inl ⟨bz.out,1,AC,rfl⟩⟩
 have cd:=Gr.fits cj;have dc:=LH cj;have aa:=LH cd;have jq:=cd.n1;have l3:=cd.n2;have l4:=cd.n3;rw[e1] at jq;rw[e2] at l3;rw[e3] at l4;have⟨y5,y0,y1,y2,y3⟩:=d1.out;simp only[] at y0 y1 y2 y3;have HS:Hid (∀P,Below L.heap.size L P->P.cell? ⟨w.heap.size,0,aN⟩=some (K a1 n1 c1)/\P.cell? ⟨w.heap.size,1,aN⟩=some (K a2 n2 c2)/\P.cell? ⟨w.heap.size,2,aN⟩=some (K a3 n3 c3)/\P.cell? ⟨w.heap.size,3,aN⟩=some (aI aJ G.zt)/\Below L.heap.size L P):=LH λP a=>⟨by rw[a.cell (by exact y5)];exact y0,by rw[a.cell (by exact y5)];exact y1,by rw[a.cell (by exact y5)];exact y2,by rw[a.cell (by exact y5)];exact y3,a⟩;have CP:=LH λX (a:Below L.heap.size L X)=>(Qt ⟨a1,n1,c1,a2,n2,c2,a3,n3,c3⟩ G X ((Hg.out.below an.out).below a) (by simp only[];omega) (by simp only[];omega) (by simp only[];omega)).mono λe w' hh=>And.intro (Zz a hh.1) (And.intro (LH hh.1) (hh.2.resolve_left λhc=>by rw[dc.out] at hc;cases hc.1).2);have CR:=LH λX (a:Below L.heap.size L X)=>(Lw ⟨a1,n1,c1,a2,n2,c2,a3,n3,c3⟩ G X ((Hg.out.below an.out).below a) (by simp only[];omega) (by simp only[];omega) (by simp only[];omega)).mono λe w' hh=>And.intro (Zz a hh.1) (And.intro (LH hh.1) (hh.2.resolve_left λhc=>by rw[dc.out] at hc;cases hc.1).2);clear cj cd r0 r1 r2 r3 f0 f1 f2 f3;go_upto_region 3 with fail;go_region_held3 (λP=>P.cell? ⟨w.heap.size,0,aN⟩=some (K a1 n1 c1)/\P.cell? ⟨w.heap.size,1,aN⟩=some (K a2 n2 c2)/\P.cell? ⟨w.heap.size,2,aN⟩=some (K a3 n3 c3)/\P.cell? ⟨w.heap.size,3,aN⟩=some (aI aJ G.zt)/\Below L.heap.size L P)
  ((refine HS.out _ ?_;(repeat (first | assumption | exact AP _ _ | refine Below.drew ?_));done))
  (first
    | (go_at_call 56;with_reducible refine (CP.out _ (by (repeat (first | assumption | exact AP _ _ | refine Below.drew ?_)))).mono ?_;rintro e w7⟨lk,km,gP,lp,rfl,gr⟩)
    | (go_at_call 57;with_reducible refine (CR.out _ (by (repeat (first | assumption | exact AP _ _ | refine Below.drew ?_)))).mono ?_;rintro e g⟨di,gw,gQ,lq,rfl,gs⟩))
 rename_i ll;clear ll;have gm:Hid (Z8 g gP (Zt G)):=LH (Blk.hidden gr gw);have ke:Hid (Z8 g gQ (Z5 G)):=LH gs;have V:=LH (Zz an.out di);have bm:=LH (d1.out.below di);have W:Hid (Blk g (w.heap.size+1) 26 #[K aN 0 0,K aN 0 0,K aN 0 0,aI aJ 0]):=LH (Blk.ext dz.out di);clear lk km lp gr di gw lq gs CP CR HS y0 y1 y2 y3 y5 dz an d1;have⟨y5,y0,y1,y2,y3⟩:=bm.out;simp only[] at y0 y1 y2 y3;obtain⟨S,fy⟩:∃S:Nat,G.zt=(S:Int):=⟨G.zt.toNat,by have:=aa.out.st;omega⟩;have jx:S<n2:=by have:=aa.out.st;omega
 have b2:Hid (G.zt.toNat=S):=LH AA;have c0:=gm.out.at (i:=S) (by rw[Vx,e2];exact jx);have d3:Hid (Xp G=(Zt G).getD S false):=LH (by unfold Xp;rw[dc.out,b2.out];rfl);rw[fy] at y3;have lb:=LH fy;clear fy;generalize ju:(Zt G).getD S false=pv at *;rcases pv with _ | _
 case false =>
  have r0:=W.out.cell 0;have r1:=W.out.cell 1;have r2:=W.out.cell 2;have r3:=W.out.cell 3;have f0:=W.out.frozen 0;have f1:=W.out.frozen 1;have f2:=W.out.frozen 2;have f3:=W.out.frozen 3;clear ju;go_wp2_with fail;refine AW (Yu (p:=2) (u:=3) (v:=4) AB _ _ (w.heap.size+1) 26 #[K aN 0 0,K aN 0 0,K aN 0 0,aI aJ 0] (0,0) _ rfl ((((Blk.set (Blk.set (Blk.set (Blk.set W.out 0 (K aN 0 0)) 1 (K aN 0 0)) 2 (K aN 0 0)) 3 (aI aJ 0))))) underlying26 rfl AB) rfl ?_;exact⟨(((V.out.trans (Zn (Zd _ _ _ _) V.out.size (DO _))).trans (Zn (Zd _ _ _ _) (by simpa using V.out.size) (DO _))).trans (Zn (Zd _ _ _ _) (by simpa using V.out.size) (DO _))).trans (Zn (Zd _ _ _ _) (by simpa using V.out.size) (DO _)),.inl ⟨d3.out,9,AC,rfl⟩⟩
 clear ju;have gp:Hid ((prog.info? 140).map (λi=>(i.zero,i.size,i.bytes))=some (some (aG #[aS ByteArray.empty,aI aJ 0,aI aJ 0]),3,32)):=LH AB;have g2:Hid ((g.alloc (aC #[] 140)).ownsRow g.heap.size 140 3 (K (some ⟨g.heap.size,0,aN⟩) 0 0) 0 []):=LH (World.ownsRow_made g #[] 0 (AJ _) (AV _) rfl);have cu:=LH (Zy g (aC #[] 140));have d5:=LH (D4 ((Hg.out.below V.out).below cu.out).T);have g0:Hid ((V8 G.T).length=n1*3):=LH (by rw[Ff,e1]);have ma:(g.alloc (aC #[] 140)).heap.size=g.heap.size+1:=Zl _ _;go_upto_region 6 with fail;go_upto_region 7 with (at_builtin;refine Zz6 rfl _ _ 22 rfl g.heap.size 140 _ 3 32 underlying22 gp.out AC AC (some ⟨g.heap.size,0,aN⟩) 0 0 [] rfl g2.out a1 n1 c1 (V8 G.T) g0.out rfl d5.out.1 d5.out.2 (Zuz _) AA AA AA ?_;intro E H w9 o f C;simp only[BF,DA] at o f C);have ff:Below g.heap.size g w9:=cu.out.trans (Zn f cu.out.size (AJ _));have fl:w9.ownsRow g.heap.size 140 3 (K E n1 H) n1 (V8 G.T):=o;have h9:∀b,(K E n1 H).ownBlock=some b->b<w9.heap.size:=λb a=>(fl.lt b a).2;have h4:=Blk.new w9 26 #[K E n1 H,K aN 0 0,K aN 0 0,aI aJ 0];have hn:=Zy w9 (aC #[K E n1 H,K aN 0 0,K aN 0 0,aI aJ 0] 26);have ja:=fl.alloc (aC #[K E n1 H,K aN 0 0,K aN 0 0,aI aJ 0] 26);have mb:g.heap.size<=w9.heap.size:=ff.size;have fx:(w9.alloc (aC #[K E n1 H,K aN 0 0,K aN 0 0,aI aJ 0] 26)).heap.size=w9.heap.size+1:=Zl _ _;have fe:=ff.trans (hn.mono mb);generalize w9.alloc (aC #[K E n1 H,K aN 0 0,K aN 0 0,aI aJ 0] 26)=b3 at *;generalize w9.heap.size=d at *;clear o f C fl hn ff g2 d5 g0 gp cu ma;have jf:=bm.out.below fe;have lz:=make_intsT n2 AA;clear y0 y1 y2 y3 y5;have⟨y5,y0,y1,y2,y3⟩:=jf;simp only[] at y0 y1 y2 y3;go_upto_region 8 with fail;have fk:=Blk.new b3 3 (ints .i64 (List.replicate n2 0)).toArray;have fh:=Zy b3 (aC (ints .i64 (List.replicate n2 0)).toArray 3);have h5:=Blk.ext h4 fh;have jb:=ja.alloc (aC (ints .i64 (List.replicate n2 0)).toArray 3);have mc:(b3.alloc (aC (ints .i64 (List.replicate n2 0)).toArray 3)).heap.size=b3.heap.size+1:=Zl _ _;have hd:=fe.trans (fh.mono (by rw[fx];omega));generalize b3.alloc (aC (ints .i64 (List.replicate n2 0)).toArray 3)=lf at *;rw[fx] at fk mc;have du:=LH hd;have kf:=LH fk;have gk:=LH h5;have gt:=LH jb;have cy:=LH h9;clear fk fh h4 h5 ja jb fe hd h9 jf lz y0 y1 y2 y3 y5 fx;go_wp2_with fail;go_loopw [9] (λi wr=>∃j:Nat,j<=n2/\i = aI aJ (j:Int)/\Hid (Blk wr (d+1) 3 (ints .i64 (Nb n2 j)).toArray)/\Hid (Off (λk=>k=d+1) lf wr)) (λi _=>n2-(intOf i).toNat)
 case atStart=>exact⟨0,AV _,rfl,LH (by rw[fill_start];exact kf.out),LH (Off.refl _ _)⟩
 obtain⟨j,hj,rfl,HT,HO⟩:=hrel;by_cases ji:j<n2
 case pos =>
  have hc:=HT.out.cell j;obtain⟨v,hv⟩:∃v,(ints .i64 (Nb n2 j)).toArray[j]? = some v:=⟨_,Array.getElem?_eq_getElem (by simp[ints,fill_len hj,ji])⟩;rw[hv] at hc;have hf:=HT.out.frozen j;have hl:=HT.out.lt;have a8:Hid (Blk (wr.setCell ⟨d+1,j,aN⟩ (aI aJ (-1))) (d+1) 3 (ints .i64 (Nb n2 (j+1))).toArray):=LH (by
   have:=Blk.set HT.out j (aI aJ (-1));rw[show (ints .i64 (Nb n2 j)).toArray.setIfInBounds j (aI aJ (-1))=(ints .i64 (Nb n2 (j+1))).toArray by rw[<-fill_step ji];simp[ints,List.map_set]] at this;exact this)
  clear hv;go_wp2_with fail;go_roundw
  case rel=>exact⟨j+1,AA,AF,a8,LH (HO.out.trans (Off.of_set wr (d+1) j (aI aJ (-1))) λ_ _ h=>h)⟩
  simp[intOf];omega
 as_aux_lemma =>
  obtain rfl:n2=j:=AA
  obtain⟨T,mg⟩:∃x,x=wr:=⟨wr,rfl⟩;subst mg;have me:=HO.out.size;have d6:Hid (Blk T (d+1) 3 (ints .i64 (toL n2 [])).toArray):=LH (by rw[toL_nil];have:=HT.out;rwa [fill_end] at this);have bi:Hid (Below g.heap.size g T):=LH (du.out.trans (HO.out.is_below (B:=g.heap.size) du.out.size λk I=>AA));have j8:=LH (Zz V.out bi.out);have gl:=LH (HO.out.blk gk.out AA);have gu:=LH (HO.out.row gt.out λb a h=>by have:=cy.out b a;omega);have nd:d+1<T.heap.size:=d6.out.lt;clear HT HO gk gt du me;go_wp2_with fail;go_loopw [10,11] (λkk i wz=>∃(q:Nat) (Z:Option Addr) (ck:Nat) (z:Option Addr) (A:Nat),q<=n3/\i = aI aJ (q:Int)/\kk = K Z (ksN G q).length ck/\Hid (Red2 T d (d+1) n2 (K E n1 H) G wz Z ck z A (ksN G q) (Wu (Wj G q)))) (λ_ i _=>n3-(intOf i).toNat)
  case atStart=>exact⟨0,aN,0,aN,0,AV _,rfl,rfl,LH ⟨Off.refl _ _,d6.out,gl.out,BL _ _ _ _,BL _ _ _ _⟩⟩
  obtain⟨q,Z,ck,z,A,hq,rfl,rfl,m⟩:=hrel;have F:Hid (Below g.heap.size g wr):=LH (bi.out.trans (m.out.off.is_below bi.out.size λk I=>AA));have ao:=LH (Zz V.out F.out);have cc:=bm.out.below F.out;have⟨y5,y0,y1,y2,y3⟩:=cc;simp only[] at y0 y1 y2 y3;clear cc;by_cases cg:q<n3
  case pos =>
   as_aux_lemma =>
    obtain⟨bb,j1,r,Ar,cr,rfl,cb,Hr,q0,q1,q2,ch⟩:=Hg.out.U.get cg;rw[<-ao.out.cell (by exact cb)] at q0 q1 q2;have a:bb<wr.heap.size:=AK cb ao.out.size;have db:=LH ch;have au:=AM Hr.out;obtain⟨l1,l2⟩:=aa.out.L r au;obtain⟨c,ce⟩:∃c:Nat,r.L=(c:Int):=⟨r.L.toNat,AA⟩;have bq:c<n2:=AA
    have c8:Hid (r.L.toNat=c):=LH AA;have ly:=aa.out.len r au;have bf:=aa.out.symB au;rw[e2] at bf;have d4:=LH bf;rw[ce] at q0;have ar:=Zy wr (aC #[aI aJ (c:Int),K Ar (Q r.rt) cr,aI aJ r.P] 60);have ak:=Blk.new wr 60 #[aI aJ (c:Int),K Ar (Q r.rt) cr,aI aJ r.P];have a6:=LH (m.out.below ar);have dv:=LH (F.out.trans (ar.mono F.out.size));have gz:Hid (∀b,(K Z (ksN G q).length ck).ownBlock=some b->b<wr.heap.size):=LH λb a=>(m.out.kept.lt b a).2;have dp:d+1<wr.heap.size:=m.out.tos.lt;have nx:g.heap.size<=wr.heap.size:=F.out.size;clear bf l1 l2 ce au ch;go_upto_region 17 with fail;generalize wr.alloc (aC #[aI aJ (c:Int),K Ar (Q r.rt) cr,aI aJ r.P] 60)=y at *;generalize wr.heap.size=M at *;have cz:=LH ak;clear ar ak m F ao q0 q1 q2 a y0 y1 y2 y3 y5;have x0:=cz.out.cell 0;have x1:=cz.out.cell 1;have j5:=LH (Zz V.out dv.out);have lP:Hid ((Zt G).length=n2):=LH (by rw[Vx,e2]);have h6:Z8 y gP (Zt G):=Blk.ext gm.out dv.out;have h7:Z8 y gQ (Z5 G):=Blk.ext ke.out dv.out;have cQ:=h7.at (i:=c) (by rw[K9,e2];exact bq);have CA:=LH (rf_all Ar (Q r.rt) cr gP n2 r.rt (Zt G) true y (db.out.below j5.out) h6 lP.out AA d4.out);have c9:Hid (Ky (Zt G) (Z5 G) r=((Z5 G).getD c false&&Xj true (Zt G) r.rt)):=LH (by unfold Ky;rw[c8.out]);have bz:Hid (Ky (Zt G) (Z5 G) r=false->ksN G (q+1)=ksN G q/\Wj G (q+1)=Wj G q):=LH (ksN_no Hr.out);have g4:Hid (Ky (Zt G) (Z5 G) r=true->ksN G (q+1)=ksN G q++[q]/\Wj G (q+1)=Wj G q++[r]):=LH (Zts Hr.out);generalize (Z5 G).getD c false=qv at *;generalize Xj true (Zt G) r.rt=av at *;clear h6 h7;rcases qv with _ | _
    ·obtain⟨e4,e5⟩:=bz.out (by rw[c9.out];rfl);have E4:=LH e4;have E5:=LH e5;clear e4 e5;go_wp2_with fail;go_roundw
     case rel=>exact⟨q+1,Z,ck,z,A,AA,AF,by rw[E4.out],LH (by rw[E4.out,E5.out];exact a6.out)⟩
     simp[intOf];omega
    rcases av with _ | _
    ·obtain⟨e4,e5⟩:=bz.out (by rw[c9.out];rfl);have E4:=LH e4;have E5:=LH e5;clear e4 e5;go_wp2_with (go_at_call 58;(with_reducible refine CA.out.mono ?_);rintro e w'⟨rfl,rfl⟩);go_roundw
     case rel=>exact⟨q+1,Z,ck,z,A,AA,AF,by rw[E4.out],LH (by rw[E4.out,E5.out];exact a6.out)⟩
     simp[intOf];omega
    obtain⟨e4,e5⟩:=g4.out (by rw[c9.out];rfl);have E4:=LH e4;have E6:Hid (Wu (Wj G (q+1))=N3 (Wu (Wj G q)) c):=LH (by rw[e5,Vs,c8.out]);clear e4 e5 bz g4 c9;have bx:Hid ((prog.info? 3).map (λi=>(i.zero,i.size,i.bytes))=some (some (aI aJ 0),1,8)):=LH Tryz.infoInt;have jm:=Zu9 G q;have jc:T.heap.size<=y.heap.size:=a6.out.off.size;have l5:=Zsg G aa.out q;rw[e2] at l5;generalize ksN G q=ks at *;generalize Wu (Wj G q)=t at *;by_cases be:c∈t
    case pos =>
     as_aux_lemma =>
      obtain⟨kk,lv,lw,jj⟩:∃k,k<(Q t)/\t[k]? = some c/\toI t c=(k:Int):=by
       obtain⟨k,I⟩:∃k:Nat,toI t c=(k:Int):=⟨(toI t c).toNat,by have h1:=Df t c;have h2:¬toI t c<0:=λh=>Bx.1 h be;omega⟩;unfold toI at I ⊢;obtain⟨x,hx,hp,_⟩:=Fb I;have:x=c:=by simpa using hp
       subst this;exact⟨k,(AN.1 hx).1,hx,I⟩
      have a8:Hid (N3 t c=t):=LH (by unfold N3;rw[if_pos be]);have kt:=LH jj;clear be lv lw jj;go_wp2_with (first
       | (go_at_call 58;(with_reducible refine CA.out.mono ?_);rintro e w'⟨rfl,rfl⟩)
       | (at_builtin;refine Ye rfl _ _ 30 rfl T.heap.size 3 _ 1 8 underlying30 bx.out AC AC Z (Q ks) ck (ints .i64 (Z6 ks)) rfl a6.out.kept [aI aJ (q:Int)] rfl rfl (by simp[Value.oneCell']) AA AA AA ?_;intro A5 c5 D o f C
          have N:=LH (a6.out.put AA AA q A5 c5 o f);have az:=cz.out.grown f (by intro e;have:=gz.out M e.symm;omega);have mu:=az.cell 0;have my:=az.lt;have ct:D.cell? ⟨d+1,c,aN⟩=some (aI aJ (kk:Int)):=by rw[N.out.tos.cell c];simp only[ints,DQ,BB];rw[Ji bq,kt.out];rfl
          have b8:=N.out.tos.lt;clear o f C az))
      go_roundw
      case rel=>exact⟨q+1,A5,c5,z,A,AA,AF,by rw[E4.out,AU];rfl,LH (by rw[E4.out,E6.out,a8.out];exact N.out)⟩
      simp[intOf];omega
    as_aux_lemma =>
     have a8:Hid (N3 t c=t++[c]):=LH (by unfold N3;rw[if_neg be]);have ld:Hid (toI t c=-1):=LH (Fw be);have kr:=LH be;have kq:Hid ((prog.info? 9).map (λi=>(i.zero,i.size,i.bytes))=some (some (aS ByteArray.empty),1,16)):=LH AB;clear be;go_upto_region 21 with (first
      | (go_at_call 58;(with_reducible refine CA.out.mono ?_);rintro e w'⟨rfl,rfl⟩)
      | (at_builtin;refine Ye rfl _ _ 30 rfl T.heap.size 3 _ 1 8 underlying30 bx.out AC AC Z (Q ks) ck (ints .i64 (Z6 ks)) rfl a6.out.kept [aI aJ (q:Int)] rfl rfl (by simp[Value.oneCell']) AA AA AA ?_;intro A5 c5 D o f C
         have N:=LH (a6.out.put AA AA q A5 c5 o f);have az:=cz.out.grown f (by intro e;have:=gz.out M e.symm;omega);have mu:=az.cell 0;have my:=az.lt;have ct:D.cell? ⟨d+1,c,aN⟩=some (aI aJ (-1)):=by rw[N.out.tos.cell c];simp only[ints,DQ,BB];rw[Ji bq,ld.out];rfl
         have m6:=N.out.tos.frozen c;have b8:=N.out.tos.lt;have co:=N.out.out.cell 1;have ki:=LH az;clear o f C az))
     have bs:=Off.of_set D (d+1) c (aI aJ ((Q t):Int));have gi:Hid (Below g.heap.size g D):=LH (bi.out.trans (N.out.off.is_below bi.out.size λk I=>AA));have fg:Below g.heap.size g (D.setCell ⟨d+1,c,aN⟩ (aI aJ ((Q t):Int))):=gi.out.trans (bs.is_below gi.out.size λk I=>AA);have je:=bm.out.below fg;have dk:=bs.blk N.out.out AA;have fn:=bs.blk ki.out AA;have hz:=bs.row N.out.O λb a h=>by have:=(N.out.O.lt b a).1;omega
     obtain⟨nb,no,nm,rfl,np,kz,m4⟩:=((Hg.out.below V.out).below fg).O.get bq;have jt:nm=Ws G c:=by unfold Ws;rw[kz.out];rfl
     have k9:=LH λw6 A6 c6 o f=>Red2.name N.out AA AA AA kr.out (l:=c) (w1:=w6) A6 c6 o f;have n5:T.heap.size<=D.heap.size:=N.out.off.size;have n6:D.heap.size<=(D.setCell ⟨d+1,c,aN⟩ (aI aJ ((Q t):Int))).heap.size:=bs.size;generalize D.setCell ⟨d+1,c,aN⟩ (aI aJ ((Q t):Int))=ws at *;have⟨y5,y0,y1,y2,y3⟩:=je;simp only[] at y0 y1 y2 y3;have x0:=fn.cell 0;have om:=fn.lt;have co:=dk.cell 1;have lj:=dk.lt;have b9:Below ws.heap.size ws (ws.drew.alloc (aC #[aS nm] 9)):=(AP ws.heap.size ws).drew.alloc (AJ _) _;have g1:Hid ((ws.drew.alloc (aC #[aS nm] 9)).ownsRow T.heap.size 9 1 (K z (Q t) A) (Q t) (t.map λi=>aS (Ws G i))):=LH (M5 hz b9);have kc:=LH (Blk.ext dk b9);have j4:=LH b9;have lx:T.heap.size<=(ws.drew.alloc (aC #[aS nm] 9)).heap.size:=by have:=b9.size;omega
     have k0:=LH jt;clear bs fg je dk fn hz jt b9;go_region_law (first
      | (refine V5 rfl _ _ 23 rfl T.heap.size 9 _ 1 16 underlying23 kq.out AC AC z (Q t) A (t.map λi=>aS (Ws G i)) (by simp[Act.eval,Act.put]) (by exact g1.out) ⟨ws.heap.size,0,aN⟩ 1 1 [aS nm] rfl (by simp[Act.eval,Act.put]) (by exact Qn ws.drew [aS nm] _) (by simp[Value.oneCell']) AA AA (by exact lx) ?_;intro A6 c6 w6 o bp C
         have b6:=kc.out.grown bp (by intro e;have:=(g1.out.lt d e.symm).1;omega);have i1:=b6.cell 1;have i2:=b6.frozen 1;have HF:=LH (k9.out w6 A6 c6 (by rw[<-k0.out];exact o) (Zc (Xz _ j4.out) bp));clear b6 o bp C))
     all_goals
      go_wp2_with fail;go_roundw
      case rel=>exact⟨q+1,A5,c5,A6,c6,AA,AF,by rw[E4.out,AU];rfl,LH (by rw[E4.out,E6.out,a8.out];exact HF.out)⟩
      simp[intOf];omega
  as_aux_lemma =>
   obtain rfl:n3=q:=AA
   obtain⟨wC,mh⟩:∃x,x=wr:=⟨wr,rfl⟩;subst mh;have k5:Hid (Wu (Wj G n3)=Ze G):=LH (by rw[<-e3,Jp];rfl);have ft:=Mh G n3 AA;have jk:Wj G n3=Yh G:=by rw[<-e3,Jp]
   rw[jk] at ft;have jn:∀i,i∈ksN G n3->i<n3:=λi hi=>ks_lt hi;have nj:=Zu9 G n3;rw[k5.out] at m;have nn:(Ze G).length<=n2:=by have:=Zu7 aa.out;omega
   generalize jo:ksN G n3=ks at *;have kw:Hid (ksN G (Q G.U)=ks):=LH (by rw[e3];exact jo);clear jo;have gv:=LH m.out.tos;have cw:=LH m.out.kept;have gj:=LH m.out.O;have kh:=LH (m.out.off.row gu.out λb a h=>by have:=cy.out b a;omega);have lm:Hid (Zyu wC d (K E n1 H) (K z (Ze G).length A) wC aN 0 []):=LH ⟨Off.refl _ _,m.out.out,[],BL _ _ _ _,Kz.nil _ _⟩;have nf:d+1<wC.heap.size:=m.out.tos.lt;have ny:T.heap.size<=wC.heap.size:=m.out.off.size;have cv:=F;have gy:=LH ft;have ku:=LH jn;generalize js:(Q ks)=J at *;have ky:=LH js;have m1:Hid (S∈Ze G):=LH (by have:=Jm aa.out (by rw[b2.out];have:=d3.out;unfold Xp at this;rw[AS,b2.out] at this;exact this.2);rwa [b2.out] at this);have nv:g.heap.size<=wC.heap.size:=cv.out.size;clear m ft jk jn F ao js d6 bi j8 gl gu cg hq;have gn:Hid ((Yh G).length=J):=LH gy.out.1.symm;clear y0 y1 y2 y3 y5;have jh:=bm.out.below cv.out;have⟨y5,y0,y1,y2,y3⟩:=jh;simp only[] at y0 y1 y2 y3;clear jh;go_wp2_with fail;clear y0 y1 y2 y3 y5;go_loopw [13] (λi wz=>∃(q:Nat) (U:Option Addr) (Y:Nat),q<=J/\i = aI aJ (q:Int)/\Hid (Zyu wC d (K E n1 H) (K z (Ze G).length A) wz U Y (((Yh G).take q).map (Wb (Ze G))))) (λi _=>J-(intOf i).toNat)
   case atStart=>exact⟨0,aN,0,AV _,rfl,LH (by simpa using lm.out)⟩
   obtain⟨q,U,Y,hq,rfl,m⟩:=hrel;have F:Hid (Below g.heap.size g wr):=LH (cv.out.trans (m.out.off.is_below cv.out.size λk I=>AA));have ao:=LH (Zz V.out F.out);have cc:=bm.out.below F.out;have nz:wC.heap.size<=wr.heap.size:=m.out.off.size;have dq:(((Yh G).take q).map (Wb (Ze G))).length=q:=by rw[BI,BU,gn.out];omega
   have⟨y5,y0,y1,y2,y3⟩:=cc;simp only[] at y0 y1 y2 y3;clear cc;by_cases cg:q<J
   case pos =>
    as_aux_lemma =>
     obtain⟨i,hi⟩:∃i,ks[q]? = some i:=⟨_,AL (by rw[ky.out];exact cg)⟩;have lr:=ku.out i (AM hi);obtain⟨r,fv,fw⟩:=gy.out.2 q i hi;have hy:wr.ownsRow T.heap.size 3 1 (K Z J ck) J (ints .i64 (Z6 ks)):=m.out.off.row cw.out λb a h=>by have:=(cw.out.lt b a).1;omega
     have hu:Za .i64 wr Z J ck (Z6 ks):=Yl hy;obtain⟨kb,ko,kv,rfl,nh,kx,li⟩:=hu.get cg;obtain rfl:(i:Int)=kv:=by have h:=kx.out;rw[show (Z6 ks)[q]? = some (i:Int) by unfold Z6;rw[BB,hi];rfl] at h;exact BM h
     obtain⟨bb,j1,r',Ar,cr,rfl,cb,Hr,q0,q1,q2,ch⟩:=Hg.out.U.get lr;obtain rfl:r=r':=by have h:=Hr.out;rw[fv] at h;exact BM h
     rw[<-ao.out.cell (by exact cb)] at q0 q1 q2;have a:bb<wr.heap.size:=AK cb ao.out.size;have db:=LH ch;have au:=AM fv;have m0:Hid (r∈Yh G):=LH (AM fw);obtain⟨l1,l2⟩:=aa.out.L r au;obtain⟨c,ce⟩:∃c:Nat,r.L=(c:Int):=⟨r.L.toNat,AA⟩;have bq:c<n2:=AA
     have c8:Hid (r.L.toNat=c):=LH AA;have ly:=aa.out.len r au;have bf:=aa.out.symB au;rw[e2] at bf;have d4:=LH bf;rw[ce] at q0;have k8:=LH fw;clear bf l1 l2 ce au ch fw fv hi hy hu;go_upto_region 25 with fail;have ar:=Zy wr (aC #[aI aJ (c:Int),K Ar (Q r.rt) cr,aI aJ r.P] 60);have ak:=Blk.new wr 60 #[aI aJ (c:Int),K Ar (Q r.rt) cr,aI aJ r.P];have br:(wr.alloc (aC #[aI aJ (c:Int),K Ar (Q r.rt) cr,aI aJ r.P] 60)).heap.size=wr.heap.size+1:=Zl _ _;go_region
     replace ar:=ar.drew;replace ak:=Blk.drew ak;replace br:(wr.alloc (aC #[aI aJ (c:Int),K Ar (Q r.rt) cr,aI aJ r.P] 60)).drew.heap.size=wr.heap.size+1:=br;generalize (wr.alloc (aC #[aI aJ (c:Int),K Ar (Q r.rt) cr,aI aJ r.P] 60)).drew=y at *;have dl:Blk y (d+1) 3 (ints .i64 (toL n2 (Ze G))).toArray:=Blk.ext (m.out.off.blk gv.out AA) ar;have x0:=ak.cell 0;have x2:=ak.cell 2;have ct:y.cell? ⟨d+1,c,aN⟩=some (aI aJ (toI (Ze G) c)):=by rw[dl.cell c];simp only[ints,DQ,BB];rw[Ji bq];rfl
     have b8:=dl.lt;have mx:=ak.lt;have la:=LH br;clear br;have lc:Hid ((Wb (Ze G) r).L=toI (Ze G) c):=LH (by show toI (Ze G) r.L.toNat=_;rw[c8.out]);generalize toI (Ze G) c=tl at *;clear y0 y1 y2 y3 y5 q0 q1 q2 li a;go_upto_region 26 with fail;have bo:=Zy y (aC #[aI aJ tl,K aN 0 0,aI aJ r.P] 60);have dm:=Blk.new y 60 #[aI aJ tl,K aN 0 0,aI aJ r.P];have jw:(y.alloc (aC #[aI aJ tl,K aN 0 0,aI aJ r.P] 60)).heap.size=y.heap.size+1:=Zl _ _;go_region
     replace bo:=bo.drew;replace dm:=Blk.drew dm;replace jw:(y.alloc (aC #[aI aJ tl,K aN 0 0,aI aJ r.P] 60)).drew.heap.size=y.heap.size+1:=jw;generalize (y.alloc (aC #[aI aJ tl,K aN 0 0,aI aJ r.P] 60)).drew=WD at *;have kj:=LH (Blk.ext ak bo);have kg:=LH (Blk.ext dl bo);have kl:=LH dm;have dw:=LH (Zz ar bo);have j6:=LH (F.out.trans (dw.out.mono F.out.size));have j3:Hid (∀b,(K U (((Yh G).take q).map (Wb (Ze G))).length Y).ownBlock=some b->wC.heap.size<=b/\b<wr.heap.size):=LH λb a=>by obtain⟨cs,h3,_⟩:=m.out.U;exact h3.lt b a
     generalize jc:y.heap.size=gY at *;generalize dp:wr.heap.size=M at *;have br:=la.out;obtain rfl:gY=M+1:=br;have mf:wr.heap.size<=WD.heap.size:=AA
     have j7:Hid (Below wr.heap.size wr WD):=LH (by rw[dp];exact dw.out);obtain⟨wE,mi⟩:∃x,x=wr:=⟨wr,rfl⟩;subst mi;have gx:=LH dp;have bx:Hid ((prog.info? 3).map (λi=>(i.zero,i.size,i.bytes))=some (some (aI aJ 0),1,8)):=LH Tryz.infoInt;have kp:Hid ((prog.info? 60).map (λi=>(i.zero,i.size,i.bytes))=some (some (aG #[aI aJ 0,K aN 0 0,aI aJ 0]),3,40)):=LH AB;have nw:g.heap.size<=M:=by have:=F.out.size;omega
     have m7:wC.heap.size<=M:=AA
     clear ar ak dl x0 x2 ct b8 mx bo dm dw jc dp;have na:=db.out.cap;go_wp2_with fail;go_loopw [16] (λi wz=>∃(kk:Nat) (O:Option Addr) (R:Nat),kk<=(Q r.rt)/\i = aI aJ (kk:Int)/\Hid (Off (λk=>k=M+1) WD wz)/\Hid (Blk wz (M+1) 60 #[aI aJ tl,K O kk R,aI aJ r.P])/\Hid (wz.ownsRow WD.heap.size 3 1 (K O kk R) kk (ints .i64 ((r.rt.take kk).map (Xd (Ze G)))))) (λi _=>(Q r.rt)-(intOf i).toNat)
     case atStart=>exact⟨0,aN,0,AV _,rfl,LH (Off.refl _ _),kl,LH (BL _ _ _ _)⟩
     obtain⟨kk,O,R,ni,rfl,a5,HY,Ho⟩:=hrel;generalize ng:M+1=gY at *;have fo:=a5.out.blk kj.out AA;have x1:=fo.cell 1;have xl:=fo.lt;have oo:=HY.out.cell 0;have oq:=HY.out.cell 1;have os:=HY.out.cell 2;have ot:=HY.out.lt;have ka:Hid (Below g.heap.size g wr):=LH (j6.out.trans (a5.out.is_below AA λk I=>AA));have j9:=LH (Zz V.out ka.out);have n4:WD.heap.size<=wr.heap.size:=a5.out.size;clear fo;by_cases jm:kk<(Q r.rt)
     case pos =>
      obtain⟨sb,so,sv,rfl,nr,Hs,qs⟩:=(db.out.below j9.out).get jm;have l9:=d4.out sv (AM Hs.out);have da:Hid (ints .i64 ((r.rt.take (kk+1)).map (Xd (Ze G)))=ints .i64 ((r.rt.take kk).map (Xd (Ze G)))++[aI aJ (Xd (Ze G) sv)]):=LH (by rw[Ya Hs.out];simp[ints]);by_cases h0:0<=sv
      ·as_aux_lemma =>
        have ci:Xd (Ze G) sv=sv:=by unfold Xd;rw[if_neg AA]
        have b0:=da;rw[ci] at b0;have l0:¬(sv<0):=AA
        clear ci da;go_wp2_with (first
         | (at_builtin;refine Ye rfl _ _ 30 rfl WD.heap.size 3 _ 1 8 underlying30 bx.out AC AC O kk R (ints .i64 ((r.rt.take kk).map (Xd (Ze G)))) rfl Ho.out [aI aJ sv] rfl rfl (by simp[Value.oneCell']) AA AA AA ?_;intro A5 c5 D o f C
            have b5:=HY.out.grown f (by intro e;have:=(Ho.out.lt gY e.symm).1;omega);have i1:=b5.cell 1;have i2:=b5.frozen 1;have lh:=b5.lt;have d0:=LH b5;have bw:=LH o;have d2:=LH f;clear b5 o f C))
        go_roundw
        case rel =>
         refine⟨kk+1,A5,c5,AA,AF,LH (((a5.out.trans (Off.of_grown d2.out) λk I h=>?_).trans (Off.of_set _ _ _ _) λk _ h=>h)),LH (Blk.set d0.out 1 _),LH ?_⟩
         ·have:=(Ho.out.lt k h).1;omega
         rw[b0.out];exact (Off.of_set _ _ _ _).row bw.out λb a h=>by have:=(bw.out.lt b a).1;omega
        simp[intOf];omega
      as_aux_lemma =>
       obtain⟨jp,lu,jr,hw⟩:=Vy (s:=sv) (n:=n2) AA l9.1 AA;have ba:=a5.out.blk kg.out AA;have ct:wr.cell? ⟨d+1,jp,aN⟩=some (aI aJ (toI (Ze G) jp)):=by rw[ba.cell jp];simp only[ints,DQ,BB];rw[Ji lu];rfl
       have b8:=ba.lt;have ns:=Df (Ze G) jp;have ci:Xd (Ze G) sv=-1-toI (Ze G) jp:=by unfold Xd;rw[if_pos AA,jr]
       have nu:IntKind.i64.wrap (-1-toI (Ze G) jp)=-1-toI (Ze G) jp:=BZ _ AA;have b0:=da;rw[ci] at b0;have l0:sv<0:=AA
       generalize toI (Ze G) jp=tj at *;clear ci ba da jr;go_wp2_with (first
        | (at_builtin;refine Ye rfl _ _ 30 rfl WD.heap.size 3 _ 1 8 underlying30 bx.out AC AC O kk R (ints .i64 ((r.rt.take kk).map (Xd (Ze G)))) rfl Ho.out [aI aJ (-1-tj)] rfl rfl (by simp[Value.oneCell']) AA AA AA ?_;intro A5 c5 D o f C
           have b5:=HY.out.grown f (by intro e;have:=(Ho.out.lt gY e.symm).1;omega);have i1:=b5.cell 1;have i2:=b5.frozen 1;have lh:=b5.lt;have d0:=LH b5;have bw:=LH o;have d2:=LH f;clear b5 o f C))
       go_roundw
       case rel =>
        refine⟨kk+1,A5,c5,AA,AF,LH (((a5.out.trans (Off.of_grown d2.out) λk I h=>?_).trans (Off.of_set _ _ _ _) λk _ h=>h)),LH (Blk.set d0.out 1 _),LH ?_⟩
        ·have:=(Ho.out.lt k h).1;omega
        rw[b0.out];exact (Off.of_set _ _ _ _).row bw.out λb a h=>by have:=(bw.out.lt b a).1;omega
       simp[intOf];omega
     as_aux_lemma =>
      obtain rfl:(Q r.rt)=kk:=AA
      have hm:Below wE.heap.size wE wr:=j7.out.trans (a5.out.is_below mf λk I=>by have:=gx.out;omega);have bv:=LH (m.out.below hm);obtain⟨cs,h3,fs⟩:=bv.out.U;have H3:=LH h3;have co:=bv.out.out.cell 2;have lj:=bv.out.out.lt;have kd:=LH bv.out.out;have k6:Hid (((Yh G).take (q+1)).map (Wb (Ze G))=((Yh G).take q).map (Wb (Ze G))++[Wb (Ze G) r]):=LH (by rw[Ya k8.out,DI];rfl);have hI:Za .i64 wr O (Q r.rt) R (r.rt.map (Xd (Ze G))):=by have:=Yl Ho.out;rwa [AQ (AJ _)] at this
      have a8:=LH λw7 A7 c7 o f a=>Zyu.put bv.out AA (Wb (Ze G) r) (Ar:=O) (cr:=R) (by show Za .i64 wr O (r.rt.map (Xd (Ze G))).length R (r.rt.map (Xd (Ze G)));rw[BI];exact hI)
       (λb j1 a=>by have h1:=Ho.out.lt b (by rw[a];rfl);refine⟨h1.2,AA,λh=>?_⟩;have:=(j3.out b h).2;have:=gx.out;omega) (w1:=w7) A7 c7 o f a
      generalize ((Yh G).take q).map (Wb (Ze G))=rs at *;have n0:wC.heap.size<=wr.heap.size:=AA
      have nq:(Q rs)<60:=AA
      clear dq;clear h3 fs hm hI;go_wp2_with (first
       | (at_builtin;refine Ye rfl _ _ 24 rfl wC.heap.size 60 _ 3 40 underlying24 kp.out AC AC U (Q rs) Y cs rfl H3.out [aI aJ tl,K O (Q r.rt) R,aI aJ r.P] rfl rfl (by simp[Value.oneCell']) AA AA AA ?_;intro A7 c7 w7 o f C
          have b7:=kd.out.grown f (by intro e;have:=(H3.out.lt d e.symm).1;omega);have i1:=b7.cell 2;have i2:=b7.frozen 2;have m2:=b7.lt;have HF:=LH (a8.out w7 A7 c7 (λm5 h1=>by rw[Cx h1 H3.out];show w7.ownsRow _ _ _ _ _ (cs++[aI aJ (Wb (Ze G) r).L,K O (r.rt.map (Xd (Ze G))).length R,aI aJ r.P]);rw[lc.out,BI];exact o) f C);clear b7 o f C))
      go_roundw
      case rel=>exact⟨q+1,A7,c7,AA,AF,LH (by rw[k6.out];exact HF.out)⟩
      simp[intOf];omega
   as_aux_lemma =>
    obtain rfl:J=q:=AA
    have dy:=LH (m.out.off.row cw.out λb a h=>by have:=(cw.out.lt b a).1;omega);have jd:((Yh G).take J).map (Wb (Ze G))=(Yh G).map (Wb (Ze G)):=by rw[AQ (by rw[gn.out];exact AJ _)]
    rw[jd] at m dq;have ba:=m.out.off.blk gv.out AA;have ct:wr.cell? ⟨d+1,S,aN⟩=some (aI aJ (toI (Ze G) S)):=by rw[ba.cell S];simp only[ints,DQ,BB];rw[Ji jx];rfl
    have b8:=ba.lt;have o0:=m.out.out.cell 0;have o1:=m.out.out.cell 1;have o2:wr.cell? ⟨d,2,aN⟩=some (K U J Y):=by have:=m.out.out.cell 2;rw[dq] at this;exact this
    have o3:=m.out.out.cell 3;have oe:=m.out.out.frozen 3;have ol:=m.out.out.lt;have aq:Blk wr (w.heap.size+1) 26 #[K aN 0 0,K aN 0 0,K aN 0 0,aI aJ 0]:=Blk.ext W.out F.out;have r0:=aq.cell 0;have r1:=aq.cell 1;have r2:=aq.cell 2;have r3:=aq.cell 3;have f0:=aq.frozen 0;have f1:=aq.frozen 1;have f2:=aq.frozen 2;have f3:=aq.frozen 3;have m9:=aq.lt;have m8:=W.out.lt;have ln:w.heap.size+1≠d:=AA
    have md:y3=y3:=rfl;clear md;rw[lb.out] at y3;have k7:Hid ((Zi G).zt=toI (Ze G) S):=LH (by show toI (Ze G) G.zt.toNat=_;rw[b2.out]);have fu:Xp G=true:=d3.out;have hH:=Gr.fits (Ju dc.out (by have:=fu;unfold Xp at this;rw[AS] at this;exact this.2));have k4:=LH fu;have mz:=LH hH;have fm:=m.out.off.row kh.out λb a h=>by have:=cy.out b a;omega
    have fi:=m.out.off.row gj.out λb a h=>by have:=(gj.out.lt b a).1;omega
    have bp:∀wF,Off (λk=>k=d\/k=w.heap.size+1) wr wF->Yf wF ⟨E,n1,H,z,(Ze G).length,A,U,J,Y⟩ (Zi G):=λwF cf=>by
     obtain⟨cs,h3,fs⟩:=m.out.U;refine⟨Cr (cf.row fm λb a h=>by have h1:=cy.out b a;have h2:=(fm.lt b a).1;omega),?_,?_,λr hr s hs=>?_⟩
     ·have:=Yl (cf.row fi λb a h=>by have h1:=(fi.lt b a).1;omega);rw[show ((Ze G).map λi=>aS (Ws G i))=((Ze G).map (Ws G)).map aS by rw[List.map_map];rfl] at this;exact this
     ·have:=Cn (cf.row h3 λb a h=>by have h1:=(h3.lt b a).1;omega) (fs.keep cf.size λk I C=>⟨cf.keep k I λh=>by have h1:=C.1;omega,C⟩);rw[dq] at this;exact this
     have h1:=hH.sym r hr s hs;have h2:=hH.n2;have h3:=hH.n1;unfold U3;omega
    have kn:=LH bp;generalize toI (Ze G) S=ts at *;clear jd ba fm fi bp fu hH;go_wp2_with fail;have dj:=Off.of_set wr d 3 (aI aJ ts);have s0:=Off.of_set (wr.setCell ⟨d,3,aN⟩ (aI aJ ts)) (w.heap.size+1) 0 (K E n1 H);have s1:=s0.trans (Off.of_set _ (w.heap.size+1) 1 (K z (Ze G).length A)) λ_ _ h=>h;have s2:=s1.trans (Off.of_set _ (w.heap.size+1) 2 (K U J Y)) λ_ _ h=>h;have s3:=s2.trans (Off.of_set _ (w.heap.size+1) 3 (aI aJ ts)) λ_ _ h=>h;have bn:Below w.heap.size w (wr.setCell ⟨d,3,aN⟩ (aI aJ ts)):=ao.out.trans (dj.is_below ao.out.size λk I=>AA);have lo:Blk (wr.setCell ⟨d,3,aN⟩ (aI aJ ts)) (w.heap.size+1) 26 #[K aN 0 0,K aN 0 0,K aN 0 0,aI aJ 0]:=dj.blk (Blk.ext W.out F.out) ln;refine AW (Yu (p:=2) (u:=3) (v:=4) AB _ _ (w.heap.size+1) 26 #[K E n1 H,K z (Ze G).length A,K U J Y,aI aJ ts] (0,0) _ rfl (Blk.set (Blk.set (Blk.set (Blk.set lo 0 (K E n1 H)) 1 (K z (Ze G).length A)) 2 (K U J Y)) 3 (aI aJ ts)) underlying26 rfl AB) rfl ?_;refine⟨bn.trans (s3.is_below bn.size λk I=>AA),.inr ⟨k4.out,⟨E,n1,H,z,(Ze G).length,A,U,J,Y⟩,Z,J,ck,?_,?_,jq,by simp only[];omega,by simp only[];omega,by rw[kw.out];exact Yl (s3.row (dj.row dy.out λb a h=>by have:=(dy.out.lt b a).1;omega) λb a h=>by have:=(dy.out.lt b a).1;omega)⟩⟩
    ·rw[k7.out];rfl
    exact kn.out _ ((offX dj s3))
def Zuv(h:GH)(G:Gr)(w:World)(c:Yf w h G)(h1:h.n1<=100)(a:h.n2<=100)(b:h.n3<=100):
 Calls prog 27 #[GV h G.zt] w (Dh G w):=(Dk h G w c h1 a b).mono λe w' d=>d.plain
section
open Ieee
open Go.Maps (Keyed IsMap Tidy)
def Gk.few{w:World}{G:Gr}(h:Gk w g G S ts):Maps.size (Np prog 220 (ts.map λp=>(kB p.1.1 p.1.2,p.2)))<maxLen:=by
 obtain⟨L,h1,j,r⟩:=F1 Tryz.keyKB _ h.map.good;have k:∀v∈L,∃p∈ts,v=kB p.1.1 p.1.2:=λv z=>by
  obtain⟨q,m,e⟩:=CX.1 (j v z);obtain⟨p,f,rfl⟩:=CX.1 m;exact⟨p,f,e.symm⟩
 have:=Gq codeB 100000000000000 h1 (λx o y A e=>by
  obtain⟨p,f,rfl⟩:=k x o;obtain⟨q,m,rfl⟩:=k y A;have a:=h.key p f;have b:=h.key q m;rw[Zx6 a.sym,Zx6 b.sym] at e;have B:=a.n;have C:=b.n;have s:Ds (Vr p.1.1)=Ds (Vr q.1.1):=AA
  have t:p.1.2=q.1.2:=AA
  have u:=Zwi a.sym b.sym (Zsb (λc d=>by have:=Dy a.sym c d;omega) (λc d=>by have:=Dy b.sym c d;omega) s);rw[u,t]) (λx o=>by
  obtain⟨p,f,rfl⟩:=k x o;have a:=h.key p f;rw[Zx6 a.sym];have h1:=encT_lt (l:=Vr p.1.1) λc d=>by have:=Dy a.sym c d;omega
  have j:(Vr p.1.1).length<=6:=by unfold Vr;rw[BI];exact a.len
  have r:64 ^ (Vr p.1.1).length<=64 ^ 6:=CV AA j;have D:=a.n;have E:64 ^ 6=68719476736:=AC
  omega)
 rw[r];unfold maxLen;omega
def Wd.less{c w:World}{k:BkH}{h:GH}{G:Gr}{S':Nat->Prop}(C:Wd c k h G S w)(f:∀b,S' b->S b):Wd c k h G S' w:=by
 refine⟨C.base,C.box,C.low,?_⟩;obtain⟨ts,a⟩:=C.known;exact⟨ts,a.map,a.key,λp d=>⟨(a.val p d).1,λh1=>(a.val p d).2 (f _ h1)⟩⟩
end
section
open Go.Maps (Keyed IsMap Tidy)
variable {W0:World} {k:BkH} {h:GH} {G:Gr} {S':Nat->Prop} {w:World} {gR:Nat} {b:Nat->Bool} {u:Nat->Value} {X:World}
def UnL.lt{G:Gr}(b:Xq G)(h:UnL G l n r t)(a:InG G l):r<Zx (Zv G) l n:=by
 induction h with
 | nil=>exact Nat.one_pos
 | @term s l n r t h0 _ j =>
   have h1:=j a.tail;rw[<-Jn];refine AK ?_ (Wz (Zv G) s l (n+1) (k:=2) AA);rw[Xy,Xb G h0];show r<_+K0 1*_;unfold K0;rw[if_pos rfl,Nat.one_mul];exact AK h1 (Nat.le_add_left _ _)
 | @non s l n k i q r x p u h0 c g _ _ m o =>
   have h1:=m (InG.at b.fits c);have d:=o a.tail;have f:Z0 (Zv G) G.U (Zp s) i k+q<Zv G s k:=by
    rw[Uu b h0 (a s (By ..) h0)];refine AK (Nat.add_lt_add_left h1 _) ?_;have:=Y3 (Zv G) c (Zp s) k;rw[if_pos g] at this;rw[<-this];exact Kj _ _ _ _ _
   rw[<-Jn,DY];refine AK (Nat.add_lt_add_left (Lc f d) _) ?_;have e:=Xy (Zv G) s l (k+n) k;rw[Nat.add_sub_cancel_left] at e;rw[<-e];exact Wz _ _ _ _ AA
def UnT.lt{G:Gr}(a:Xq G)(h0:s<0)(c:Zp s<(Q G.O))(h:UnT G (Zp s) n r t):r<Zv G s n:=by
 obtain⟨i,x,q,g,b,f,d,rfl,_⟩:=h;rw[Uu a h0 c];refine AK (Nat.add_lt_add_left (d.lt a (InG.at a.fits b)) _) ?_;have:=Y3 (Zv G) b (Zp s) n;rw[if_pos f] at this;rw[<-this];exact Kj _ _ _ _ _
def UnL.one{G:Gr}(a:Xq G)(h:UnL G l n r t)(f:InG G l):∀{c:Nat} {o:List Nat},UnL G l n c o->r=c->t=o:=by
 induction h with
 | nil=>intro c o b _;cases b;rfl
 | @term s l n r t h0 _ L =>
   intro c o b d;generalize y:n+1=m at b;cases b with
   | term _ F =>
     obtain rfl:=Nat.succ.inj y;exact L f.tail F d
   | non h1=>exact absurd h1 AA
 | @non s l n k i q r x R U h0 g z u1 u2 M N =>
   intro c o b d;generalize y:k+n=m at b d;cases b with
   | term h1=>exact absurd h1 AA
   | @non _ _ p B J O c T S V _ j A u C =>
     have v:=f s (By ..) h0;have a1:=u2.lt a f.tail;have a2:=C.lt a f.tail;have D:=UnT.lt a h0 v ⟨i,x,q,R,g,z,u1,rfl,rfl⟩;have E:=UnT.lt a h0 v ⟨J,T,O,S,j,A,u,rfl,rfl⟩;have c1:=Lc D a1;have c2:=Lc E a2;rw[DY,DY] at d;obtain⟨rfl,I⟩:=ahead_one (n:=B+p) (by rw[show B+p-k=n by omega];exact c1) (by rw[Nat.add_sub_cancel_left];exact c2) d;obtain rfl:n=p:=AA
     obtain⟨H,rfl⟩:=quo_one a1 a2 I;obtain⟨rfl,rfl⟩:=Zso g j z A (u1.lt a (InG.at a.fits g)) (u.lt a (InG.at a.fits j)) H;rw[g] at j;obtain rfl:=BM j;rw[M (InG.at a.fits g) u rfl,N f.tail C rfl]
def UnT.one{G:Gr}(b:Xq G){a:Nat}(h:UnT G a n r t)(k:UnT G a n r j):t=j:=by
 obtain⟨i,x,q,u,c,m,f,rfl,rfl⟩:=h;obtain⟨p,y,s,v,d,o,g,l,rfl⟩:=k;obtain⟨rfl,rfl⟩:=Zso c d m o (f.lt b (InG.at b.fits c)) (g.lt b (InG.at b.fits d)) l;rw[c] at d;obtain rfl:=BM d;rw[f.one b (InG.at b.fits c) g rfl]
end
def M4.blk{w:World}{base:Nat}{c:Nat}{xs:List Int}(h:M4 w base A n c xs)(a:(K A n c).ownBlock=some g):base<=g/\g<w.heap.size/\∃b,Blk w g 3 b:=by
 refine⟨(h.1.lt g a).1,(h.1.lt g a).2,?_⟩;rcases h.1.2 with ⟨e,_⟩ | ⟨j,cap,d,e,_,f,_⟩
 ·rw[e] at a;cases a
 rw[e] at a;injection a with a;subst a;exact⟨d,f⟩
def UnL.parts{G:Gr}(d:Xq G)(h:UnL G (s::l) n r t)(f:InG G (s::l)):∃k q g a b,k<=n/\r=Yv (Zv G) s l n k+(q*Zx (Zv G) l (n-k)+g)/\g<Zx (Zv G) l (n-k)/\q<Zv G s k/\UnL G l (n-k) g b/\t=a++b/\(0<=s->a=[]/\q=0/\k=1)/\(s<0->UnT G (Zp s) k q a):=by
 cases h with
 | @term _ _ n r t h0 h1 =>
   refine⟨1,0,r,[],t,AA,?_,?_,?_,h1,rfl,λ_=>⟨rfl,rfl,rfl⟩,λh=>AA⟩
   ·rw[Xy,Ug,Xb G h0];simp[K0]
   ·exact h1.lt d f.tail
   ·rw[Xb G h0];simp[K0]
 | @non _ _ n k i q r x a b h0 m o u1 u2 =>
   have j:UnT G (Zp s) k (Z0 (Zv G) G.U (Zp s) i k+q) (i::a):=⟨i,x,q,a,m,o,u1,rfl,rfl⟩;refine⟨k,Z0 (Zv G) G.U (Zp s) i k+q,r,i::a,b,AA,?_,?_,?_,?_,rfl,λh=>AA,λ_=>j⟩
   ·rw[Nat.add_sub_cancel_left,DY]
   ·rw[Nat.add_sub_cancel_left];exact u2.lt d f.tail
   ·exact j.lt d h0 (f s (By ..) h0)
   rw[Nat.add_sub_cancel_left];exact u2
def rf_wfull{f:World}{h:GH}{G:Gr}{o k d:Nat}(Al:Option Addr)(a g:Nat)(n:Int)(Ar:Option Addr)(m cr:Nat)(w:World)(l:WkAt f h G At o k d j true w):
 Calls prog 78 #[aP (some ⟨d,0,aN⟩),K Al a g,aI aJ n,K Ar m cr] w λe w'=>e = aR (.tuple #[])/\w=w':=by
 obtain⟨A,c,b⟩:=l;have p:=b.box.cell 6;have q:=b.box.lt;by_cases h0:a=0
 case pos =>
  have h1:((a:Int)==0)=true:=by rw[h0];rfl
  go_enter func78,ntmps78;go_wp2_with fail;refine AW (results_none rfl _ _ _) rfl ?_;exact⟨rfl,rfl⟩
 have h1:((a:Int)==0)=false:=by rw[AR];omega
 go_enter func78,ntmps78;go_wp2_with fail;refine AW (results_none rfl _ _ _) rfl ?_;exact⟨rfl,rfl⟩
def Ke{w w1:World}{B C e c:Nat}(d:w.ownsRow B e 1 (K A n c) n xs)(a:w.grownBy w1 (K A n c).ownBlock)(f:C<=B)(h:C<=w.heap.size):Below C w w1 :=
 ⟨a.os,a.tape,a.output,a.size,λb g=>a.block b AA λe=>by have:=(d.lt b e.symm).1;omega⟩
end
end Go.Proofs.YtaagompdgiobeaaGreatDoor
