/- Words for slices that read as strings; a string's bytes appended. -/
import Derived.Test.YtaagompdgiobeaaGreatDoorV04
import Derived.Test.YtaagompdgiobeaaGreatDoorV05
import Derived.Test.YtaagompdgiobeaaGreatDoorV06
import Derived.Test.YtaagompdgiobeaaGreatDoorV07
set_option linter.all false
set_option maxHeartbeats 1500000
set_option maxRecDepth 100000
namespace Go.Proofs.YtaagompdgiobeaaGreatDoor
open Go.RowKit Go.Proofs.Tryz
variable{r:Rul}{i n j g id:Nat}{s:Int}{a:Act}{w':World}{l:List Oper}{A0:Option Addr}{t:TypeId}{ops:Array Oper}{Q:Exit->Act->World->Prop}{J:Array Bool->Act->World->Prop}{xs:List Nat}
theorem lx_literal(A:Option Addr)(n c:Nat)(d:List Nat)(w:World)(h:Zq .u8 w A n c d)(q:∀x∈d,x<256):
 Calls prog 213 #[.slice A n c] w λe w'=>e = .returned (.tuple #[.int .i64 ((litN d).1:Int),.int .i64 ((litN d).2:Int)])/\w=w':=by
 obtain rfl:=h.len;have I:=h.cap;by_cases B:d.length<2
 ·have D:litN d=(0,4):=by simp[litN,B]
  rw[D];clear D;go_enter func213,ntmps213;go_wp2;go_ret2;exact⟨rfl,rfl⟩
 obtain⟨b,L,rfl,H,s⟩:=h.at_ AA;have F:=lt256 q 1;have G:=lt256 q 2;have J:=lt256 q 3;have c1:=s 1 AA;have c2:=λh=>s 2 h;have c3:=λh=>s 3 h;have a:litN d=if Mt (d.getD 1 0) then (if d.length<=2 then (0,4) else if d.getD 2 0=39 then (3,0) else (0,3))
  else if d.getD 1 0≠92 then (0,3) else if d.length<3 then (0,4) else if !Q1 (d.getD 2 0) then (0,3)
  else if d.length<=3 then (0,4) else if d.getD 3 0=39 then (4,0) else (0,3):=by
  unfold litN;rw[if_neg B]
 generalize d.getD 1 0=o at *;generalize d.getD 2 0=p at *;generalize d.getD 3 0=z at *;generalize litN d=r at *;have k:=lx_plain o w F;have g:=lx_escaped p w G;clear s q;cases u:Mt o
 ·rw[u] at k a;have f:=LH k;clear k u;simp only[Bool.false_eq_true,if_false] at a;by_cases v:o=92
  ·have E:((o:Int)==92)=true:=by rw[BW];omega
   simp only[v,ne_eq,not_true,if_false] at a;clear v;by_cases m:d.length<3
   ·rw[if_pos m] at a;subst a;clear c2 c3 g;go_enter func213,ntmps213;go_wp2_with (go_at_call 226;refine f.out.mono ?_;rintro e w'⟨rfl,rfl⟩);go_ret2;exact⟨rfl,rfl⟩
   rw[if_neg m] at a;have c2:=c2 AA;cases t:Q1 p
   ·rw[t] at g a;have l:=LH g;clear g t c3;simp only[Bool.not_false,if_true] at a;subst a;go_enter func213,ntmps213;go_wp2_with (first
     | (go_at_call 226;refine f.out.mono ?_;rintro e w'⟨rfl,rfl⟩)
     | (go_at_call 227;refine l.out.mono ?_;rintro e w'⟨rfl,rfl⟩))
    go_ret2;exact⟨rfl,rfl⟩
   rw[t] at g a;have l:=LH g;clear g t;simp only[Bool.not_true,Bool.false_eq_true,if_false] at a;by_cases C:d.length<=3
   ·rw[if_pos C] at a;subst a;clear c3;go_enter func213,ntmps213;go_wp2_with (first
     | (go_at_call 226;refine f.out.mono ?_;rintro e w'⟨rfl,rfl⟩)
     | (go_at_call 227;refine l.out.mono ?_;rintro e w'⟨rfl,rfl⟩))
    go_ret2;exact⟨rfl,rfl⟩
   rw[if_neg C] at a;have c3:=c3 AA;by_cases j:z=39
   ·have y:((z:Int)==39)=true:=by rw[BW];omega
    rw[if_pos j] at a;subst a;clear j;go_enter func213,ntmps213;go_wp2_with (first
     | (go_at_call 226;refine f.out.mono ?_;rintro e w'⟨rfl,rfl⟩)
     | (go_at_call 227;refine l.out.mono ?_;rintro e w'⟨rfl,rfl⟩))
    go_ret2;exact⟨rfl,rfl⟩
   have y:((z:Int)==39)=false:=by rw[AQ];omega
   rw[if_neg j] at a;subst a;clear j;go_enter func213,ntmps213;go_wp2_with (first
    | (go_at_call 226;refine f.out.mono ?_;rintro e w'⟨rfl,rfl⟩)
    | (go_at_call 227;refine l.out.mono ?_;rintro e w'⟨rfl,rfl⟩))
   go_ret2;exact⟨rfl,rfl⟩
  have E:((o:Int)==92)=false:=by rw[AQ];omega
  rw[if_pos v] at a;subst a;clear v c2 c3 g;go_enter func213,ntmps213;go_wp2_with (go_at_call 226;refine f.out.mono ?_;rintro e w'⟨rfl,rfl⟩);go_ret2;exact⟨rfl,rfl⟩
 rw[u] at k a;have f:=LH k;clear k u g c3;simp only[if_true] at a;by_cases m:d.length<=2
 ·rw[if_pos m] at a;subst a;clear c2;go_enter func213,ntmps213;go_wp2_with (go_at_call 226;refine f.out.mono ?_;rintro e w'⟨rfl,rfl⟩);go_ret2;exact⟨rfl,rfl⟩
 rw[if_neg m] at a;have c2:=c2 AA;by_cases j:p=39
 ·have y:((p:Int)==39)=true:=by rw[BW];omega
  rw[if_pos j] at a;subst a;clear j;go_enter func213,ntmps213;go_wp2_with (go_at_call 226;refine f.out.mono ?_;rintro e w'⟨rfl,rfl⟩);go_ret2;exact⟨rfl,rfl⟩
 have y:((p:Int)==39)=false:=by rw[AQ];omega
 rw[if_neg j] at a;subst a;clear j;go_enter func213,ntmps213;go_wp2_with (go_at_call 226;refine f.out.mono ?_;rintro e w'⟨rfl,rfl⟩);go_ret2;exact⟨rfl,rfl⟩
theorem lx_Literal(s:ByteArray)(w:World)(y:s.size<=maxLen):
 Calls prog 190 #[.string s] w λe w'=>e = .returned (.bool (H5 (Zh s)))/\Below w w w':=by
 have h:=Qh s;have a:=litB_lit (Zh s);by_cases l:s.size=0
 ·have g:H5 (Zh s)=false:=by unfold H5;rw[h,l];simp
  rw[g];have C:=Cp s l;clear g h a;go_enter func190,ntmps190;go_wp2;go_ret;exact⟨rfl,AL _ _⟩
 have f:0<s.size:=AA
 obtain⟨D,E⟩:=Zz8 s f;have v:=Yn (d:=0) (J0 s 0 f);rw[v,h] at a;have B:=LH l;clear l;by_cases m:(s[0]'f).toNat=39
 case neg =>
  have g:H5 (Zh s)=false:=by rw[a];simp[m]
  rw[g];have x:(((s[0]'f).toNat:Int)==39)=false:=by rw[AQ];omega
  clear g h a v m;go_enter func190,ntmps190;go_wp2;go_ret;exact⟨rfl,AL _ _⟩
 have x:(((s[0]'f).toNat:Int)==39)=true:=by rw[BW];omega
 rw[m] at a;simp only[decide_true,Bool.true_and] at a;have F:=λw=>Lib.run_convert_string_bytes (P:=prog) w 9 57 5 s underlying9 underlying57 underlying5;have t:=bytesWorld_below w 5 s;have u:=lx_literal _ _ _ (Zh s) _ (bytesWorld_nums w 5 s y) (bytesOf_lt s);generalize H5 (Zh s)=r at *;generalize litN (Zh s)=p at *;obtain⟨j,k⟩:=p;simp only[] at u a;have q:=LH u;clear u h v m;by_cases n:k=0
 ·have z:((k:Int)==0)=true:=by rw[BW];omega
  have b:decide (k=0)=true:=by simp[n]
  rw[b] at a;clear b n;by_cases o:j=s.size
  ·have A:((j:Int)==(s.size:Int))=true:=by rw[BW];omega
   have c:decide (j=s.size)=true:=by simp[o]
   rw[c] at a;subst a;clear c o;go_enter func190,ntmps190;go_wp2_with (go_at_call 213;refine q.out.mono ?_;rintro e w'⟨rfl,rfl⟩);go_ret;exact⟨rfl,t⟩
  have A:((j:Int)==(s.size:Int))=false:=by rw[AQ];omega
  have c:decide (j=s.size)=false:=by simp[o]
  rw[c] at a;subst a;clear c o;go_enter func190,ntmps190;go_wp2_with (go_at_call 213;refine q.out.mono ?_;rintro e w'⟨rfl,rfl⟩);go_ret;exact⟨rfl,t⟩
 have z:((k:Int)==0)=false:=by rw[AQ];omega
 have b:decide (k=0)=false:=by simp[n]
 rw[b] at a;subst a;clear b n;go_enter func190,ntmps190;go_wp2_with (go_at_call 213;refine q.out.mono ?_;rintro e w'⟨rfl,rfl⟩);go_ret;exact⟨rfl,t⟩
theorem cf_named(s:ByteArray)(w:World)(d:s.size<=maxLen):
 Calls prog 139 #[.string s] w λe w'=>e = .returned (.bool (Q7 s))/\Below w w w':=by
 have c1:=lx_name s w;have c2:=lx_Literal s w d;unfold Q7;generalize Xi (Zh s)=p at *;generalize H5 (Zh s)=q at *;have a:=LH c1;have b:=LH c2;clear c1 c2;cases p
 ·go_enter func139,ntmps139;go_wp2_with (first
   | (go_at_call 86;refine a.out.mono ?_;rintro e w'⟨rfl,rfl⟩)
   | (go_at_call 190;refine b.out.mono ?_;rintro e w'⟨rfl,c⟩))
  go_ret;exact⟨rfl,c⟩
 go_enter func139,ntmps139;go_wp2_with (first
  | (go_at_call 86;refine a.out.mono ?_;rintro e w'⟨rfl,rfl⟩)
  | (go_at_call 190;refine b.out.mono ?_;rintro e w'⟨rfl,c⟩))
 go_ret;exact⟨rfl,AL _ _⟩
def Z5(G:Gr):List Bool:=Z3 (Yy (Yp (Zt G)) G.rules) G.nons.length (Xv G)
theorem Qq(b:Bool)(G:Gr):(U5 b G).length=G.nons.length:=by unfold U5;rw[Ad];simp
theorem Vx(G:Gr):(Zt G).length=G.nons.length:=Qq true G
def Qm(G:Gr):Nat:=Jb (λi=>(Zt G).getD i false&&(Z5 G).getD i false) G.nons.length
def Gy(G:Gr):Nat:=if G.right then Qm G else 0
theorem useG_lt(G:Gr):Gy G<4294967296:=by
 unfold Gy Qm;split
 ·exact Jg _ _
 decide
def endG(G:Gr):Bool:=(Vh G &&& Gy G) != 0
theorem Gl(G:Gr)(b:G.Fits)(i:Nat):(Qm G).testBit i=true↔(Zt G).getD i false=true/\(Z5 G).getD i false=true:=by
 unfold Qm;rw[J3];simp only[AU,decide_eq_true_eq];have:=b.n2.2;constructor
 ·rintro⟨_,_,h⟩;exact h
 intro h;have c:i<G.nons.length:=by
  rcases BD i G.nons.length with a | a
  ·exact a
  have h1:=h.1;rw[AP,BE (by rw[Vx];exact a)] at h1;cases h1
 exact⟨AA,c,h⟩
theorem grown_fix(b:Bool)(G:Gr):Xs (Xo b) G.rules (U5 b G)=U5 b G:=by
 have:=(Ng (Xo b) G.rules).fix (List.replicate G.nons.length false);rw[Eg] at this;exact this
theorem Ue{b:Bool}{G:Gr}(d:r∈G.rules)(c:r.left.toNat<G.nons.length)(h:Xj b (U5 b G) r.right=true):(U5 b G).getD r.left.toNat false=true:=by
 have a:=Zzc (Xo b) G.rules (grown_fix b G) r d;unfold Qa at a;rw[if_pos (show Xo b r (U5 b G)=true from h)] at a;rw[<-a];exact (Uh _ _ _).2 (.inr ⟨rfl,by rw[Qq];exact c⟩)
theorem reach_least{G:Gr}(X:Nat->Prop)(h0:X G.start.toNat)(a:∀r∈G.rules,X r.left.toNat->Xj true (Zt G) r.right=true->∀s∈r.right,s<0->X (Zp s))(h:(Z5 G).getD i false=true):X i:=by
 unfold Z5 at h;have key:∀(k i:Nat),(Z3 (Yy (Yp (Zt G)) G.rules) k (Xv G)).getD i false=true->X i:=by
  intro k
  induction k with
  | zero =>
    intro i h;rw[Z3] at h;unfold Xv at h;rcases (Uh _ _ _).1 h with h | ⟨rfl,_⟩
    ·rw[Zve] at h;cases h
    ·exact h0
  | succ k b=>intro i h;exact Zyx X G.rules a b i h
 exact key _ i h
def useB(G:Gr)(i:Nat):Prop:=(Zt G).getD i false=true/\(Z5 G).getD i false=true
def Yh(G:Gr):List Rul:=G.rules.filter (Ky (Zt G) (Z5 G))
def Ze(G:Gr):List Nat:=Wu (Yh G)
def Zi(G:Gr):Gr:=⟨G.terms,(Ze G).map (Ws G),(Yh G).map (Wb (Ze G)),toI (Ze G) G.start.toNat⟩
theorem Fq{G:Gr}:r∈Yh G↔r∈G.rules/\(Z5 G).getD r.left.toNat false=true/\Xj true (Zt G) r.right=true:=by
 unfold Yh Ky;rw[List.mem_filter,AU]
theorem prod_rule{G:Gr}(g:G.Fits)(h:(Zt G).getD i false=true):∃r∈G.rules,r.left.toNat=i/\Xj true (Zt G) r.right=true:=by
 have:=Zz2 (b:=true) (G:=G) (λi=>(Zt G).getD i false=true/\∃r∈G.rules,r.left.toNat=i/\Xj true (Zt G) r.right=true) (λr a c=>?_) h
 ·exact this.2
 have d:Xj true (Zt G) r.right=true:=U8.2 λs f=>⟨(c s f).1,λh0=>((c s f).2 h0).1⟩;refine⟨Ue (b:=true) a ?_ d,r,a,rfl,d⟩;have:=g.left r a;omega
theorem N0{G:Gr}(c:G.Fits):i∈Ze G↔useB G i:=by
 unfold Ze;rw[Ka];constructor
 ·rintro⟨r,a,rfl⟩;obtain⟨h1,d,f⟩:=Fq.1 a;refine⟨Ue (b:=true) h1 ?_ f,d⟩;have:=c.left r h1;omega
 rintro⟨h,j⟩;obtain⟨r,a,rfl,g⟩:=prod_rule c h;exact⟨r,Fq.2 ⟨a,j,g⟩,rfl⟩
theorem use_lt{G:Gr}(h:useB G i):i<G.nons.length:=by
 have:=getD_lt h.1;rwa [Vx] at this
theorem Zug{G:Gr}(a:r∈Yh G):r.left.toNat∈Ze G:=Ka.2 ⟨r,a,rfl⟩
theorem Ub(G:Gr):(Ze G).Nodup:=Nh _
theorem Zu7{G:Gr}(a:G.Fits):(Ze G).length<=G.nons.length:=by
 exact Br _ _ (Ub G) λi hi=>use_lt ((N0 a).1 hi)
theorem red_lefts(G:Gr)(n:G.Fits)(k:∀r∈Yh G,(Zi G).ruleOK (Wb (Ze G) r)=true):∀(a b:List Rul),a++b=Yh G->
 (Zi G).leftsGo (a.map (Wb (Ze G))) (-1)=some (((Wu a).length:Int)-1):=by
 intro a
 induction a using K3 with
 | h0=>intro b _;simp[Gr.leftsGo,Wu]
 | h1 a r m =>
   intro b f;have h1:=m (r::b) (by rw[<-f];simp);have l:r∈Yh G:=by rw[<-f];simp
   rw[DJ,CU,List.map_nil,Gr.leftsGo_snoc,h1,Option.bind_some];have j:Ze G=Wu ((a++[r])++b):=by unfold Ze;rw[f]
   have g:r.left.toNat∈Wu (a++[r]):=Ka.2 ⟨r,AE,rfl⟩;have c:(Wb (Ze G) r).left=toI (Wu (a++[r])) r.left.toNat:=by
    show toI (Ze G) r.left.toNat=_;rw[j,toI_part g]
   rw[if_pos]
   ·rw[c,Vs];unfold N3;split
    ·rename_i hi;have:=Df (Wu a) r.left.toNat
     rw[BX];omega
    rename_i hi;have d:(Wu a++[r.left.toNat]).Nodup:=by
     have:=Nh (a++[r]);rw[Vs] at this;unfold N3 at this;rwa [if_neg hi] at this
    rw[toI_app d,BX];simp only[AV,CX];omega
   refine⟨?_,?_,k r l⟩
   ·rw[c];have:¬toI (Wu (a++[r])) r.left.toNat<0:=λh=>Bx.1 h g;omega
   rw[c,Vs];unfold N3;split
   ·have:=Df (Wu a) r.left.toNat
    omega
   rename_i hi;have d:(Wu a++[r.left.toNat]).Nodup:=by
    have:=Nh (a++[r]);rw[Vs] at this;unfold N3 at this;rwa [if_neg hi] at this
   rw[toI_app d];omega
theorem Ms{G:Gr}(d:G.Fits):∀(f:Nat) {s:Int},Qw G f s 0≠0->Xg (Zj G) s=true
 | 0,s,h=>by
   exfalso;unfold Qw at h;split at h
   ·exact h (by simp[K0])
   ·exact h rfl
 | f+1,s,h=>by
   by_cases h0:0<=s
   ·rw[Un G _ h0] at h;exact absurd (by simp[K0]) h
   rw[Fg G f AA] at h;obtain⟨r,a,l⟩:∃r∈G.rules.filter (λr=>decide (r.left.toNat=Zp s)),Zx (Qw G f) r.right 0≠0:=by
    apply DV;intro k;apply h;unfold Yc;rw[Mc];intro r a;apply DV;intro m;exact k ⟨r,a,m⟩
   rw[List.mem_filter,BA] at a;have g:∀q∈r.right,Xg (Zj G) q=true:=λq c=>Ms d f λn=>l (Uf.2 ⟨q,c,n⟩);have j:Xj false (Zj G) r.right=true:=U8.2 λq c=>by
    have:=g q c;unfold Xg at this;rw[AU,BA] at this;exact⟨λh1=>AA,λ_=>this.2⟩
   have o:=d.left r a.1;have:=Ue (b:=false) (G:=G) a.1 AA j;rw[a.2] at this;unfold Xg;rw[AU,BA];exact⟨AA,this⟩
theorem Jw{G:Gr}(a:Xq G)(h:Zv G s 0≠0):Xg (Zj G) s=true:=Ms a.fits _ h
theorem Ll.start(G:Gr)(a:List Nat):Ll G a (λ_ _=>0) 0 0:=⟨λk b=>AA,λi hi=>by simp at hi,λ_ _=>rfl⟩
theorem plain_of{G:Gr}(c:G.right=true)(d:∀i,i<G.nons.length->(Qm G).testBit i=true)(a:Vh G=0):Xq G/\endG G=false:=by
 have b:=Gr.fits c;refine⟨⟨b,λi hi=>((Gl G b i).1 (d i hi)).1,λi hi=>?_⟩,?_⟩
 ·cases f:Yw (Yz G) i i
  ·rfl
  have:=(cyc_bit b i).2 ⟨hi,f⟩;unfold Vh at a;rw[if_pos c] at a;rw[a,Nat.zero_testBit] at this;cases this
 unfold endG;rw[a,Nat.zero_and];rfl
theorem rule_next{G:Gr}(c:Xq G){a:Nat}{q:Int}(f:r.right[a]? = some q){m k:Nat}(o:m<=n)(l:k<=m)(d:m=n->∀(p:Nat) s,p<a->r.right[p]? = some s->Xg (Zj G) s=true)(g:Zv G q k≠0):m-k=n->∀(p:Nat) s,p<a+1->r.right[p]? = some s->Xg (Zj G) s=true:=by
 intro j p s t b;rcases (AA:p<a\/p=a) with h | rfl
 ·exact d AA p s h b
 rw[f] at b;obtain rfl:=BH b;obtain rfl:k=0:=AA
 exact Jw c g
def N5(G:Gr):List Nat × Int:=if G.right then (if endG G then ([],10) else ((Y4 (Yz G) (Qm G) G.nons.length G.nons.length).1,0)) else ([],1)
def Mx(G:Gr)(w:World)(e:Ending)(w':World):Prop:=Below w.heap.size w w'/\∃A c,e = .returned (.tuple #[.slice A (N5 G).1.length c,.int .i64 (N5 G).2])/\Za .i64 w' A (N5 G).1.length c (Z6 (N5 G).1)
theorem Mx.fail{G:Gr}{w:World}{a:Int}(h:N5 G=([],a))(b:Below w w w'):Mx G w (.returned (.tuple #[.slice none 0 0,.int .i64 a])) w':=by
 unfold Mx;rw[h];exact⟨b,none,0,rfl,Yl (BN _ 0 3 1)⟩
theorem Mx.good{G:Gr}{w:World}{l:List Nat}(h:N5 G=(l,0))(a:Below w w w'){A:Option Addr}{c B:Nat}(b:w'.ownsRow B 3 1 (.slice A l.length c) l.length (ints .i64 (Z6 l))):Mx G w (.returned (.tuple #[.slice A l.length c,.int .i64 0])) w':=by
 unfold Mx;rw[h];exact⟨a,A,c,rfl,Yl b⟩
theorem useS_lt(G:Gr):Qm G<4294967296:=Jg _ _
theorem Off.refl(S:Nat->Prop)(w:World):Off S w w:=⟨rfl,rfl,rfl,AJ _,λ_ _ _=>rfl⟩
def Zv5(G:Gr)(i:Nat):Bool:=match G.rules[i]? with
 | some r=>Ky (Zt G) (Z5 G) r
 | none=>false
def ksN(G:Gr)(j:Nat):List Nat:=(List.range j).filter (Zv5 G)
def Wj(G:Gr)(j:Nat):List Rul:=(G.rules.take j).filter (Ky (Zt G) (Z5 G))
theorem Zts{G:Gr}(a:G.rules[j]? = some r)(h:Ky (Zt G) (Z5 G) r=true):ksN G (j+1)=ksN G j++[j]/\Wj G (j+1)=Wj G j++[r]:=by
 have b:Zv5 G j=true:=by unfold Zv5;rw[a];exact h
 constructor
 ·unfold ksN;rw[DQ,List.filter_append];simp[b]
 unfold Wj;rw[Ya a,List.filter_append];simp[h]
theorem ksN_no{G:Gr}(a:G.rules[j]? = some r)(h:Ky (Zt G) (Z5 G) r=false):ksN G (j+1)=ksN G j/\Wj G (j+1)=Wj G j:=by
 have b:Zv5 G j=false:=by unfold Zv5;rw[a];exact h
 constructor
 ·unfold ksN;rw[DQ,List.filter_append];simp[b]
 unfold Wj;rw[Ya a,List.filter_append];simp[h]
theorem Mh(G:Gr):∀j,j<=G.rules.length->(ksN G j).length=(Wj G j).length/\∀q i:Nat,(ksN G j)[q]? = some i->∃r,G.rules[i]? = some r/\(Wj G j)[q]? = some r
 | 0,_=>⟨rfl,λq i h=>by simp[ksN] at h⟩
 | j+1,hj=>by
   obtain⟨h1,f⟩:=Mh G j AA;have b:G.rules[j]? = some (G.rules[j]' AA):=AM _;generalize G.rules[j]=r at b;cases g:Ky (Zt G) (Z5 G) r with
   | false =>
     obtain⟨c,d⟩:=ksN_no b g;rw[c,d];exact⟨h1,f⟩
   | true =>
     obtain⟨c,d⟩:=Zts b g;rw[c,d];refine⟨by simp[h1],λq i a=>?_⟩;rcases Nat.lt_trichotomy q (ksN G j).length with l | k | m
     ·rw[DB l] at a;rw[DB AA];exact f q i a
     ·subst k;rw[BV (AJ _),Nat.sub_self] at a;have:j=i:=by simpa using a
      subst this;refine⟨r,b,?_⟩;rw[h1,BV (AJ _),Nat.sub_self];rfl
     rw[BE AG] at a;cases a
theorem Jp(G:Gr):Wj G G.rules.length=Yh G:=by unfold Wj Yh;rw[List.take_length]
theorem ks_lt{G:Gr}(h:i∈ksN G j):i<j:=by
 unfold ksN at h;exact BQ.1 (List.mem_filter.1 h).1
theorem Zu9(G:Gr)(j:Nat):(ksN G j).length<=j:=BC (List.length_filter_le _ _) AE
theorem Zsg(G:Gr)(a:G.Fits)(j:Nat):(Wu (Wj G j)).length<=G.nons.length:=by
 refine Br _ _ (Nh _) λi hi=>?_;obtain⟨r,b,rfl⟩:=Ka.1 hi;have:=a.left r (List.mem_of_mem_take (List.mem_filter.1 b).1);omega
theorem Wk.cells{w:World}{p B:Nat}{h:GH}{G:Gr}(k:Wk w p B h G):p<w.heap.size/\w.cell? ⟨p,0,none⟩=some (.slice h.a1 h.n1 h.c1)/\w.cell? ⟨p,1,none⟩=some (.slice h.a2 h.n2 h.c2)/\w.cell? ⟨p,2,none⟩=some (.slice h.a3 h.n3 h.c3)/\w.cell? ⟨p,3,none⟩=some (.int .i64 0) /\
 w.cell? ⟨p,7,none⟩=some (.bool false)/\w.cell? ⟨p,10,none⟩=some (.int .i64 0)/\w.frozen? ⟨p,0,none⟩=false/\w.frozen? ⟨p,1,none⟩=false/\w.frozen? ⟨p,2,none⟩=false :=
 ⟨k.blk.lt,k.blk.cell 0,k.blk.cell 1,k.blk.cell 2,k.blk.cell 3,k.blk.cell 7,k.blk.cell 10,k.blk.frozen 0,k.blk.frozen 1,k.blk.frozen 2⟩
theorem Qn(W:World)(a:List Value)(e:TypeId):∀j u,a[j]? = some u->(W.alloc (.cells a.toArray e)).cell? ((⟨W,0,none⟩:Addr).add j)=some u:=by
 intro j u d;have b:(⟨W,0,none⟩:Addr).add j=⟨W,j,none⟩:=by
  unfold Addr.add;split
  ·rename_i c;subst c;rfl
  simp
 rw[b,World.cell?_alloc_mark];simpa using d
def Xp(G:Gr):Bool:=G.right&&(Zt G).getD G.start.toNat false
def Dh(G:Gr)(w:World)(e:Ending)(w':World):Prop:=Below w.heap.size w w' /\
 ((Xp G=false/\∃b:Int,b≠0/\e = .returned (.tuple #[GV noH 0,.slice none 0 0,.int .i64 b])) \/
  (Xp G=true/\∃a c f d,e = .returned (.tuple #[GV a (Zi G).start,.slice c f d,.int .i64 0])/\Yf w' a (Zi G)/\a.n1<=24/\a.n2<=16/\a.n3<=40))
def Zyo(G:Gr)(w:World)(e:Ending)(w':World):Prop:=Below w.heap.size w w' /\
 ((Xp G=false/\∃d:Int,d≠0/\e = .returned (.tuple #[GV noH 0,.slice none 0 0,.int .i64 d])) \/
  (Xp G=true/\∃a b f c,e = .returned (.tuple #[GV a (Zi G).start,.slice b f c,.int .i64 0])/\Yf w' a (Zi G)/\a.n1<=24/\a.n2<=16/\a.n3<=40/\Za .i64 w' b f c (Z6 (ksN G G.rules.length))))
theorem Zyo.plain{G:Gr}{w:World}{e:Ending}(h:Zyo G w e w'):Dh G w e w':=by
 obtain⟨h1,a|⟨a,d,b,m,c,f,g,j,k,l,_⟩⟩:=h
 ·exact⟨h1,.inl a⟩
 exact⟨h1,.inr ⟨a,d,b,m,c,f,g,j,k,l⟩⟩
theorem tr_one(n:Int)(w:World):Calls prog 157 #[.int .i64 n] w λe w'=>e = .returned (.int .u32 ((Y6 n:Nat):Int))/\Below w w w':=by
 have b:=Zy w (.cells #[.int .i64 n] 3);have a:=set_of (some ⟨w,0,none⟩) 1 1 [n] (w.alloc (.cells #[.int .i64 n] 3)) (Ztd w 3 n);rw[ofN_one] at a;have c:=LH a;have d:=LH b;clear a b;go_enter func157,ntmps157;go_wp2_with (go_at_call 201;refine c.out.mono ?_;rintro e w'⟨rfl,rfl⟩);go_ret;exact⟨rfl,d⟩
theorem Zxu(A:Option Addr)(n c:Nat)(l:List Int)(w:World)(h:Za .i64 w A n c l)(z:n<=100000):
 Calls prog 92 #[.slice A n c] w λe w'=>∃g,e = .returned g/\w'.ownsRow w 3 1 g n (ints .i64 l)/\Below w w w':=by
 obtain rfl:=h.len;rcases A with _ | a
 ·have d:l=[]:=by
   rcases l with _ | ⟨x,l⟩
   ·rfl
   obtain⟨k,p,s,b,_⟩:=h.get (j:=0) AE;cases b
  subst d;refine (Tryz.slices_Clone_int_nil 0 c w).mono ?_;rintro e w'⟨rfl,rfl⟩;exact⟨_,rfl,BN _ _ _ _,AL _ _⟩
 by_cases d:l=[]
 ·subst d;refine (Tryz.slices_Clone_int_zero a c w).mono ?_;rintro e w'⟨g,rfl,f,_,m⟩;exact⟨_,rfl,f,m⟩
 have u:0<l.length:=List.length_pos_iff.2 d;obtain⟨k,p,s,b,_⟩:=h.get u;injection b with b;subst b;have r:∀j,j<l.length->w.cell? ⟨k,p+j,none⟩=some (.int .i64 (l.getD j 0)):=λj t=>by
  obtain⟨y,B,C,o,_,q,v⟩:=h.get t;injection o with o;injection o with e1 e2 e3;subst e1;subst e2;rw[AP,q];exact v
 refine (Tryz.slices_Clone_int k p l.length c l w (AJ _) AA r).mono ?_;rintro e w'⟨g,rfl,f,_,m⟩;rw[AR (AJ _)] at f;exact⟨_,rfl,f,m⟩
theorem Uc{w a:World}{n0 c0:Nat}{b0:Bool}(f:Blk a g 154 #[.slice A0 n0 c0,.bool b0])(d:Below w w a)(j:w.heap.size<=g)(A:Option Addr)(n c:Nat)(b:Bool):
 Below w w ((a.setCell ⟨g,0,none⟩ (.slice A n c)).setCell ⟨g,1,none⟩ (.bool b)) /\
 Blk ((a.setCell ⟨g,0,none⟩ (.slice A n c)).setCell ⟨g,1,none⟩ (.bool b)) g 154 #[.slice A n c,.bool b]/\Zf a ((a.setCell ⟨g,0,none⟩ (.slice A n c)).setCell ⟨g,1,none⟩ (.bool b)):=by
 refine⟨(d.trans (Zn (Zd _ _ _ _) d.size j)).trans (Zn (Zd _ _ _ _) (by simpa using d.size) j),(f.set 0 _).set 1 _,?_⟩;refine Zf.of_off ((Off.of_set a g 0 (.slice A n c)).trans (Off.of_set _ g 1 (.bool b)) λ_ _ h=>h) λq k=>?_;rw[k];exact Jk f
theorem eqG_yes{A B:Gr}(h1:A.terms=B.terms)(f:A.nons=B.nons)(g:A.rules=B.rules)(h:A.start=B.start):eqG A B=true:=by
 rw[Ztp];obtain⟨a,b,c,d⟩:=A;obtain⟨j,k,l,m⟩:=B;simp only at h1 f g h;rw[h1,f,g,h]
noncomputable def Q9(G:Gr):Bool:=Xp G&&eqG G (Zi G)
theorem Zzn{G:Gr}:Q9 G=true↔Xp G=true/\Zi G=G:=by
 unfold Q9;rw[AU,Ztp];exact⟨λh=>⟨h.1,h.2.symm⟩,λh=>⟨h.1,h.2.symm⟩⟩
open Classical in
noncomputable def Wi(G:Gr)(l:List Int)(n:Int):List Nat × Nat :=
 if Q9 G=false\/6<l.length\/n<0\/10<n\/(∃s∈l,G.has s=false) then ([],1)
 else if Vh G≠0 then ([],10) else Xm (Zx (Zv G) l n.toNat)
theorem Jc.start(w:World)(B N:Nat)(tab:Nat->Nat->Nat):Jc w B none 0 0 N [] tab:=⟨BN _ _ _ _,λg h=>(by cases h),List.nodup_nil,λm g h=>by simp at h⟩
open Classical in
noncomputable def Z2(G:Gr)(n:Int):List Nat × Nat :=
 if G.right=false\/n<0\/10<n then ([],1) else if Xp G=false then ([],0) else Wi (Zi G) [-1-(Zi G).start] n
theorem Zsk{G:Gr}(a:G.right=true):0<=G.start/\G.start<(G.nons.length:Int)/\G.nons.length<=16:=by
 have b:=Gr.fits a;obtain⟨_,_,_,c,_⟩:=Nd.1 a;have:=b.n2;omega
theorem Db(G:Gr):(Zi G).terms=G.terms:=rfl
theorem red22A:Xp Xt=true:=AB
theorem Fh:Zi Xt=Xt:=AB
theorem cnt_of{G:Gr}(b:G.right=true)(d:n<=10)(a:Xp G=true)(hi:Zi G=G)(c:G.start=0):Z2 G (n:Int)=Wi G [-1] (n:Int):=by
 unfold Z2;rw[if_neg,if_neg (by rw[a];simp),hi,c]
 ·rfl
 rintro (h | h | h)
 ·rw[b] at h;cases h
 ·omega
 omega
def Yr(G:Gr)(i:Nat):Nat:=(ksN G G.rules.length).getD i 0
theorem Fu(G:Gr):(Zi G).rules.length=(ksN G G.rules.length).length:=by
 have h1:=(Mh G G.rules.length (AJ _)).1;rw[Jp] at h1;rw[h1];simp[Zi]
def Bc(G:Gr)(t:List Nat)(j:Nat):List Int:=((t.take j).map (Yr G)++t.drop j).map λi:Nat=>(i:Int)
theorem rowU_at{G:Gr}{t:List Nat}{x:Nat}(h:t[j]? = some x):(Bc G t j)[j]? = some (x:Int):=by
 obtain⟨a,rfl⟩:=AO.1 h;unfold Bc;rw[BB,BV AG];simp[Nat.min_eq_left (DT a)];exact⟨_,h,rfl⟩
theorem rowU_set{G:Gr}{t:List Nat}{x:Nat}(h:t[j]? = some x):(Bc G t j).set j ((Yr G x:Nat):Int)=Bc G t (j+1):=by
 have h1:=Ya h;obtain⟨a,rfl⟩:=AO.1 h;unfold Bc;rw[h1,Ec a];simp only[DJ,CU,List.map_nil,DX,DM,DA];have b:(((t.take j).map (Yr G)).map λi:Nat=>(i:Int)).length=j:=by
  rw[BI,BI,BS];omega
 rw[List.set_append_right _ _ AA,b,Nat.sub_self];rfl
theorem kept22:Yr Xt 0=0/\Yr Xt 1=1:=⟨AB,AB⟩
theorem start22:(Zi Xt).start.toNat=0:=by rw[Fh];rfl
theorem Zrk.start(w:World)(B:Nat):Zrk w B none 0 0 [] []:=⟨BN _ _ _ _,λg h=>(by cases h),rfl,λj xs h=>by simp at h⟩
section
open Go.RowKit Go.Maps
theorem cf_levels(A:Option Addr)(n c:Nat)(l:List Trm)(w:World)(h:N8 w A n c l)(hn:n<=1000)(C:∀t∈l,0<=t.level/\t.level<=24/\0<=t.assoc/\t.assoc<=3):
 Calls prog 140 #[.slice A n c] w λe w'=>e = .returned (.bool (Jh l))/\Below w.heap.size w w':=by
 obtain rfl:=h.len;have a2:=h.cap;have Hb:=LH C;clear C;have ap:=@run_makeMap prog;have U:=Zy w (.map #[] 0);have W:=World.ownsMap_made w prog 3 (plainElem (H:=Unit) prog 3);go_enter func140,ntmps140;go_wp2_with fail;go_loopw [4,6,7,11] (λtop _ _ i wr=>∃(k:Nat) (D:DataW Unit),k<=l.length/\i = .int .i64 (k:Int)/\top = .int .i64 (J7 (l.take k))/\wr.ownsMap prog 3 (plainElem prog 3) w.heap.size k D/\Below w.heap.size w wr/\Hid (Ways D (l.take k))/\Hid (0<=J7 (l.take k)/\J7 (l.take k)<=24)/\Hid (∀j,j<k->∀y,l[j]? = some y->(!Fo l j y)=false)) (λ_ _ _ i _=>l.length-(intOf i).toNat)
 case atStart=>exact⟨0,.map [],AS _,rfl,rfl,W,U,LH Ways.start,LH (by simp[J7]),LH λj Z=>AA⟩
 clear W U ap;obtain⟨k,D,hk,rfl,rfl,E,B,z,I,G⟩:=hrel;have a4:=E.lt;by_cases ao:k<l.length
 ·obtain⟨b,a6,t,rfl,C,r,q0,q1,q2⟩:=h.get ao;rw[<-B.cell (by exact C)] at q0 q1 q2;have am:=Hb.out t (AN r.out);have ab:l.take (k+1)=l.take k++[t]:=by rw[Du,r.out];rfl
  have s:=LH ab;obtain⟨g1,g2,g3,g4⟩:=am;obtain⟨t1,t2⟩:=I.out;have V:∀o,Below w.heap.size w (wr.alloc o):=λo=>B.alloc B.size o;have v:=LH V;have x:Hid (∀o,(wr.alloc o).ownsMap prog 3 (plainElem prog 3) w.heap.size k D):=LH λo=>E.alloc o;clear V ab E;by_cases m:t.level=0
  ·have d1:(t.level==0)=true:=by rw[BW];exact m
   have p:=LH m;clear m;go_wp2_with fail;go_roundw
   case rel=>exact⟨k+1,D,AA,AF,by rw[s.out,Dz,if_pos p.out],(x.out _).mono AA,v.out _,by rw[s.out];exact LH (z.out.zero p.out),by rw[s.out,Dz,if_pos p.out];exact I,LH (Lr G.out r.out (by simp[Fo,p.out]))⟩
   simp[intOf];omega
  have d1:(t.level==0)=false:=by rw[AQ];exact m
  have p:=LH m;have R:1<=t.level:=AA
  have L:keyOf prog 3 (.int .i64 t.level)=some (.int .i64 t.level):=keyOf_int_mk underlying3 (WalkArith.wf_i64 AA);have aa:=z.out.at_ t.level R;have X:Fo l k t=(decide (Vl (l.take k) t.level=0) || decide (Vl (l.take k) t.level=t.assoc)):=by
   unfold Fo;rw[show decide (t.level=0)=false from by simp[m],Bool.false_or]
  have M:=LH X;generalize Vl (l.take k) t.level=f at *;have N:=LH aa;clear m aa X;by_cases g:f≠0/\f≠t.assoc
  ·have F:Hid (Jh l=false):=LH (by
    have:consOK l=false:=Lp r.out (by rw[M.out];simp[g.1,g.2]);unfold Jh;rw[this];rfl)
   have P:(f != 0)=true:=by rw[BK];exact g.1
   have d3:(f != t.assoc)=true:=by rw[BK];exact g.2
   clear g;go_wp2_with (at_lookup;refine wpList_lookup_own_int _ rfl _ _ 147 rfl 3 3 .i64 law3 underlying147 underlying3 (zero3 _) w.heap.size k _ rfl (x.out _) _ _ rfl L ?_;intro c' d au;rw[N.out] at d;injection d with d;injection d with _ d;subst d);go_ret;exact⟨by rw[F.out];rfl,v.out _⟩
  have ag:Hid ((!Fo l k t)=false):=LH (by
   rw[M.out];by_cases q:f=0
   ·simp[q]
   by_cases u:f=t.assoc
   ·simp[u]
   exact absurd ⟨q,u⟩ g)
  have hw:(f != 0)=false\/((f != 0)=true/\(f != t.assoc)=false):=by
   rw[BM,BM,BK];by_cases q:f=0
   ·exact .inl q
   exact .inr ⟨q,by by_cases u:f=t.assoc;exact u;exact absurd ⟨q,u⟩ g⟩
  have O:Hid (J7 (l.take (k+1))=max (J7 (l.take k)) t.level):=LH (by rw[s.out,Dz,if_neg p.out]);have J:=Wg wr 140 #[.string t.name,.int .i64 t.level,.int .i64 t.assoc] 1;simp only[DR,List.getElem?_cons_zero,List.getElem?_cons_succ] at J;have af:=LH J;clear g J;rcases hw with P | ⟨P,d3⟩;all_goals
   go_wp2_with (first
    | (at_lookup;refine wpList_lookup_own_int _ rfl _ _ 147 rfl 3 3 .i64 law3 underlying147 underlying3 (zero3 _) w.heap.size k _ rfl (x.out _) _ _ rfl L ?_;intro c' d au;rw[N.out] at d;injection d with d;injection d with _ d;subst d)
    | (at_mapUpdate;refine wpList_mapUpdate_own _ rfl _ _ _ 147 rfl 3 3 law3 underlying147 _ w.heap.size k _ rfl (x.out _) (by unfold maxLen;omega) _ _ _ rfl rfl L _ [] (plainElem_int underlying3 (WalkArith.wf_i64 AA)) ?_;intro w4 aq Y;have r1:=(DH (a:=⟨wr.heap.size,1,none⟩) (Y.block wr.heap.size AE (by intro S;injection S with S;omega))).trans af.out))
   go_roundw
   case rel=>exact⟨k+1,_,AA,AF,by rw[O.out],aq,(v.out _).grown Y (v.out _).size (λj Z=>by cases Z;exact AJ _),by rw[s.out];exact LH (z.out.more R g2),LH (by rw[O.out];omega),LH (Lr G.out r.out ag.out)⟩
   simp[intOf];omega
 obtain rfl:k=l.length:=AA
 have hL:((l.length:Int)<(l.length:Int))=False:=AE
 have F:Hid (Jh l=(((Maps.size D:Nat):Int)==J7 l)):=LH (by
  have hc:consOK l=true:=Kc λj y hy=>by
   have:=G.out j (AO.1 hy).1 y hy;simpa using this
  have T:=z.out.size_;have h2:=I.out;rw[AR (AJ _)] at T h2;unfold Jh;rw[hc,T,Bool.true_and,Cs,BA,BW])
 go_wp2_with (at_len;refine wpList_len_own _ rfl _ 147 rfl 3 3 underlying147 _ w.heap.size _ _ rfl E ?_);go_ret;exact⟨by rw[F.out];rfl,B⟩
theorem V0.at{w:World}{F:List Nat}(h:V0 w g F)(hi:i<F.length):w.cell? ⟨g,i,none⟩=some (.int .u32 ((F.getD i 0:Nat):Int)):=by
 rw[Blk.cell h];simp[nums,hi]
theorem V0.new(w:World)(F:List Nat):V0 (w.alloc (.cells (nums .u32 F).toArray 41)) w F:=Blk.new w _ _
theorem rf_all(Ar:Option Addr)(A cr g n:Nat)(ss:List Int)(N:List Bool)(b:Bool)(w:World)(q:Za .i64 w Ar A cr ss)(r:Z8 w g N)(M:N.length=n)(G:n<=1000)(v:∀s∈ss,-(n:Int)<=s/\s<=1000):
 Calls prog 58 #[.slice Ar A cr,.slice (some ⟨g,0,none⟩) n n,.bool b] w λe w'=>e = .returned (.bool (Xj b N ss))/\w=w':=by
 obtain rfl:=q.len;have J:=q.cap;have D:=LH v;have B:=LH r;have m:Hid (Xj b N ss=ss.all λs=>if 0<=s then b else N.getD (Zp s) false):=rfl;clear v r;go_enter func58,ntmps58;go_wp2_with fail;go_loop [7] (λi=>∃(k:Nat),k<=ss.length/\i = .int .i64 (k:Int)/\Hid (∀j,j<k->∀y,ss[j]? = some y->(!(if 0<=y then b else N.getD (Zp y) false))=false)) (λi=>ss.length-(intOf i).toNat)
 case atStart=>exact⟨0,AS _,rfl,LH λj E=>AA⟩
 obtain⟨k,L,rfl,p⟩:=hrel;by_cases F:k<ss.length
 ·obtain⟨I,P,s,rfl,a,c,R⟩:=q.get F;obtain⟨H,S⟩:=D s (AN c);by_cases h:0<=s
  ·have d:b=false->Xj b N ss=false:=λa=>by rw[m];exact Jy c (by rw[if_pos h];exact a)
   have f:b=true->(!(if 0<=s then b else N.getD (Zp s) false))=false:=λa=>by rw[if_pos h,a];rfl
   have l:=LH d;have o:=LH f;clear d f;rcases (by cases b <;> simp:b=false\/b=true) with rfl | rfl
   ·go_wp2_with fail;go_ret;exact⟨by rw[l (by trivial)];rfl,rfl⟩
   go_wp2_with fail;go_roundw
   case rel=>exact⟨k+1,AA,AF,LH (Vz p c (o (by trivial)))⟩
   simp[intOf];omega
  obtain⟨j,E,u,O⟩:=Vy (s:=s) (n:=n) AA H G;have c0:=B.at (i:=j) AA;have d:N.getD j false=false->Xj b N ss=false:=λa=>by rw[m];exact Jy c (by rw[if_neg h,u];exact a)
  have f:N.getD j false=true->(!(if 0<=s then b else N.getD (Zp s) false))=false:=λa=>by rw[if_neg h,u,a];rfl
  generalize N.getD j false=x at *;have l:=LH d;have o:=LH f;clear d f;rcases (by cases x <;> simp:x=false\/x=true) with rfl | rfl
  ·go_wp2_with fail;go_ret;exact⟨by rw[l (by trivial)];rfl,rfl⟩
  go_wp2_with fail;go_roundw
  case rel=>exact⟨k+1,AA,AF,LH (Vz p c (o (by trivial)))⟩
  simp[intOf];omega
 obtain rfl:k=ss.length:=AA
 have t:Xj b N ss=true:=by
  rw[m];exact Cv λj y z=>by
   have:=p j (AO.1 z).1 y z;simpa using this
 have C:=LH t;clear t;go_wp2_with fail;go_ret;exact⟨by rw[C];rfl,rfl⟩
end
theorem tr_within1(s:Int)(b g n:Nat)(N:List Bool)(w:World)(l:w.cell? ⟨b,0,none⟩=some (.slice (some ⟨g,0,none⟩) n n))(d:Z8 w g N)(o:N.length=n)(f:n<=1000)(k:-(n:Int)<=s/\s<=1000):
 Calls prog 151 #[.int .i64 s,.pointer (some ⟨b,0,none⟩)] w λe w'=>e = .returned (.bool (Cf N s))/\w=w':=by
 by_cases c:s<0
 ·obtain⟨j,m,h,p⟩:=Vy c k.1 f;have c0:=d.at (i:=j) AA;have a:Hid (Cf N s=!N.getD j false):=LH (by unfold Cf;rw[DW c,h];rfl);generalize N.getD j false=x at *;clear d;go_enter func151,ntmps151;go_wp2_with fail;go_ret;exact⟨by rw[a];rfl,rfl⟩
 have a:Hid (Cf N s=false):=LH (by unfold Cf;rw[BR c];rfl);clear d;go_enter func151,ntmps151;go_wp2_with fail;go_ret;exact⟨by rw[a];rfl,rfl⟩
theorem rf_made(Ar:Option Addr)(v cr g n:Nat)(ss:List Int)(N:List Bool)(w:World)(l:Za .i64 w Ar v cr ss)(o:Z8 w g N)(L:N.length=n)(F:n<=1000)(t:∀s∈ss,-(n:Int)<=s/\s<=1000):
 Calls prog 174 #[.slice Ar v cr,.slice (some ⟨g,0,none⟩) n n] w λe w'=>e = .returned (.bool (Xj true N ss))/\w=w':=by
 obtain rfl:=l.len;have I:=l.cap;have C:=LH t;have z:=LH o;have m:Hid (Xj true N ss=ss.all λs=>if 0<=s then true else N.getD (Zp s) false):=rfl;clear t o;go_enter func174,ntmps174;go_wp2_with fail;go_loop [5] (λi=>∃(k:Nat),k<=ss.length/\i = .int .i64 (k:Int)/\Hid (∀j,j<k->∀y,ss[j]? = some y->(!(if 0<=y then true else N.getD (Zp y) false))=false)) (λi=>ss.length-(intOf i).toNat)
 case atStart=>exact⟨0,AS _,rfl,LH λj D=>AA⟩
 obtain⟨k,J,rfl,f⟩:=hrel;by_cases E:k<ss.length
 ·obtain⟨H,O,s,rfl,c,b,R⟩:=l.get E;obtain⟨G,S⟩:=C s (AN b);by_cases h:0<=s
  ·have a:(!(if 0<=s then true else N.getD (Zp s) false))=false:=by rw[if_pos h];rfl
   have d:=LH a;clear a;go_wp2_with fail;go_roundw
   case rel=>exact⟨k+1,AA,AF,LH (Vz f b d)⟩
   simp[intOf];omega
  obtain⟨j,D,r,M⟩:=Vy (s:=s) (n:=n) AA G F;have c0:=z.at (i:=j) AA;have q:N.getD j false=false->Xj true N ss=false:=λc=>by rw[m];exact Jy b (by rw[if_neg h,r];exact c)
  have a:N.getD j false=true->(!(if 0<=s then true else N.getD (Zp s) false))=false:=λc=>by rw[if_neg h,r,c];rfl
  generalize N.getD j false=x at *;have B:=LH q;have d:=LH a;clear q a;rcases (by cases x <;> simp:x=false\/x=true) with rfl | rfl
  ·go_wp2_with fail;go_ret;exact⟨by rw[B (by trivial)];rfl,rfl⟩
  go_wp2_with fail;go_roundw
  case rel=>exact⟨k+1,AA,AF,LH (Vz f b (d (by trivial)))⟩
  simp[intOf];omega
 obtain rfl:k=ss.length:=AA
 have p:Xj true N ss=true:=by
  rw[m];exact Cv λj y u=>by
   have:=f j (AO.1 u).1 y u;rw[Bool.not_eq_eq_eq_not] at this;exact this
 have A:=LH p;clear p;go_wp2_with fail;go_ret;exact⟨by rw[A];rfl,rfl⟩
theorem rf_alone(Ar:Option Addr)(r cr g n q:Nat)(ss:List Int)(N:List Bool)(w:World)(o:Za .i64 w Ar r cr ss)(v:Z8 w g N)(b:N.length=n)(R:n<=1000)(d:∀s∈ss,-(n:Int)<=s/\s<=1000)(hq:q<=1000)(Z:r<=1000):
 Calls prog 173 #[.slice Ar r cr,.int .i64 (q:Int),.slice (some ⟨g,0,none⟩) n n] w λe w'=>e = .returned (.bool (J6 N ss q))/\w=w':=by
 obtain rfl:=o.len;have X:=o.cap;have J:=LH d;have F:=LH v;clear d v;go_enter func173,ntmps173;go_wp2_with fail;go_loop [7] (λi=>∃(k:Nat),k<=ss.length/\i = .int .i64 (k:Int)/\Hid (∀p,p<k->∀s,ss[p]? = some s->p≠q->Xg N s=true)) (λi=>ss.length-(intOf i).toNat)
 case atStart=>exact⟨0,AS _,rfl,LH λj L=>AA⟩
 obtain⟨k,Y,rfl,f⟩:=hrel;by_cases M:k<ss.length
 ·obtain⟨U,ad,s,rfl,W,l,q0⟩:=o.get M;obtain⟨T,s2⟩:=J s (AN l);by_cases m:k=q
  ·have D:∀p,p<k+1->∀s,ss[p]? = some s->p≠q->Xg N s=true:=λp c s d a=>f p AA s d a;have I:=LH D;have a:((k:Int) != (q:Int))=false:=by rw[BM];omega
   clear D m;go_wp2_with fail;go_roundw
   case rel=>exact⟨k+1,AA,AF,I⟩
   simp[intOf];omega
  have a:((k:Int) != (q:Int))=true:=by rw[BK];omega
  have B:Xg N s=true->∀p,p<k+1->∀s,ss[p]? = some s->p≠q->Xg N s=true:=λb p c y E a=>by
   rcases BD p k with h | h
   ·exact f p h y E a
   obtain rfl:p=k:=AA
   have:=l.symm.trans E;injection this with this;rw[<-this];exact b
  have A:Xg N s=false->J6 N ss q=false:=λb=>alone_false l m b;have t:=LH A;have H:=LH B;clear A B m;by_cases V:0<=s
  ·have O:Hid (Xg N s=false):=LH (by unfold Xg;rw[show decide (s<0)=false by rw[AZ];omega];rfl);go_wp2_with fail;go_ret;exact⟨by rw[t O];rfl,rfl⟩
  obtain⟨j,L,S,hw⟩:=Vy (s:=s) (n:=n) AA T R;have c0:=F.at (i:=j) AA;have C:Xg N s=N.getD j false:=by unfold Xg;rw[show decide (s<0)=true by rw[BA];omega,S];rfl
  have u:=LH C;clear C;generalize N.getD j false=x at *;rcases (by cases x <;> simp:x=false\/x=true) with rfl | rfl
  ·go_wp2_with fail;go_ret;exact⟨by rw[t u];rfl,rfl⟩
  go_wp2_with fail;go_roundw
  case rel=>exact⟨k+1,AA,AF,LH (H u)⟩
  simp[intOf];omega
 obtain rfl:k=ss.length:=AA
 have z:J6 N ss q=true:=alone_true λp s c a=>f p (AO.1 c).1 s c a;have G:=LH z;clear z;go_wp2_with fail;go_ret;exact⟨by rw[G];rfl,rfl⟩
section
variable {G:Gr}
def sig(G:Gr)(i:Nat):Nat:=(toI (Ze G) i).toNat
theorem C8(h:i∈Ze G):toI (Ze G) i=(sig G i:Int)/\sig G i<(Ze G).length/\(Ze G)[sig G i]? = some i:=by
 obtain⟨k,a,b,c⟩:=toI_mem (Ub G) h;have:sig G i=k:=by unfold sig;omega
 rw[this];exact⟨c,a,b⟩
theorem sig_get{k:Nat}(h:(Ze G)[k]? = some i):sig G i=k:=by
 have:=Fc (Ub G) h;unfold sig;omega
theorem Zsw:(Zi G).nons.length=(Ze G).length:=by show ((Ze G).map (Ws G)).length=_;rw[BI]
theorem Zs8{a:Rul}:a∈(Zi G).rules↔∃r∈Yh G,Wb (Ze G) r=a:=CW
theorem Zyb(a:r∈Yh G):(Wb (Ze G) r).left.toNat=sig G r.left.toNat:=rfl
theorem Zuo(a:G.Fits)(b:(Zt G).getD G.start.toNat false=true):(Zi G).start.toNat=sig G G.start.toNat:=rfl
theorem Zub(a:G.Fits)(c:r∈G.rules)(d:r.left.toNat∈Ze G)(b:Xj true (Zt G) r.right=true):r∈Yh G :=
 Fq.2 ⟨c,((N0 a).1 d).2,b⟩
end
section
variable {P:Program}
theorem Xw.at:∀{l:List Oper} {i k:Nat} {o:Oper},Xw P ops Q J i l->l[k]? = some o->
 (∀(listed:Array Bool) (a:Act) (w:World),J listed a w->listed.getD (i+k) true=false->(∀e∈o.after,Region.binds .any e=true->listed.getD e.on false=true)->
   ∀K:Act->World->Prop,(∀c w',J (listed.setIfInBounds (i+k) true) c w'->K c w')->if Region.wanted o (yielded ops a.tmps) then o.wp P a w K Q else K (a.put o.dst undef) w)
 | [],i,k,o,_,b=>by simp at b
 | q::l,i,0,o,h,b=>by
   have e:q=o:=by simpa using b
   subst e;exact h.1
 | q::l,i,k+1,o,h,b=>by
   have:=Xw.at h.2 (by simpa using b:l[k]? = some o);rw[show i+(k+1)=i+1+k by omega];exact this
theorem Zy4(g:Zvw ops=true)(l:∀i o,ops[i]? = some o->∀(listed:Array Bool) (a:Act) (w:World),J listed a w->listed.getD i true=false->(∀e∈o.after,Region.binds .any e=true->listed.getD e.on false=true)->
   ∀K:Act->World->Prop,(∀c w',J (listed.setIfInBounds i true) c w'->K c w')->if Region.wanted o (yielded ops a.tmps) then o.wp P a w K Q else K (a.put o.dst undef) w)(j:∀(listed:Array Bool) (a:Act) (w:World),J listed a w->(∀i,i<ops.size->listed.getD i true=true)->Q .normal a w):
 ∀(fuel:Nat) (listed:Array Bool) (a:Act) (w:World),leftN ops.size listed<=fuel->J listed a w->wpAny P .any ops Q fuel listed a w
 | 0,listed,a,w,hl,hJ=>by
   have d:Region.ready .any ops listed=[]:=by
    rw[List.eq_nil_iff_forall_not_mem];intro i hi;obtain⟨f,o,b,_⟩:=mem_ready.1 hi;have:=F6 (n:=ops.size) (Array.getElem?_eq_some_iff.1 b).1 f;omega
   exact⟨d,j listed a w hJ (Zwd g d)⟩
 | fuel+1,listed,a,w,hl,hJ=>by
   refine⟨λd=>j listed a w hJ (Zwd g d),λi hi=>?_⟩;obtain⟨f,o,b,m⟩:=mem_ready.1 hi;have p:=F6 (n:=ops.size) (Array.getElem?_eq_some_iff.1 b).1 f;have h1:=l i o b listed a w hJ f m (wpAny P .any ops Q fuel (listed.setIfInBounds i true)) (λc w' h=>Zy4 g l j fuel _ c w' AA h);unfold wpOp;simp only[b];split
   ·rename_i k;rw[if_pos k] at h1;exact .inl h1
   rename_i k;rw[if_neg k] at h1;exact h1
theorem Dq{w:World}(J:Array Bool->Act->World->Prop)(j:P.follows .mixedOrders=true)(f:Zvw l.toArray=true)(h0:J (Array.replicate l.length false) a w.drew)(p:Xw P l.toArray Q J 0 l)(g:∀(listed:Array Bool) (a:Act) (w:World),J listed a w->(∀i,i<l.length->listed.getD i true=true)->Q .normal a w):(Code.region id l.toArray true).wp P Q a w:=by
 refine wp_region_any j ?_;refine Zy4 f (λi o m listed a w b q n K d=>?_) (λlisted a w b h=>g listed a w b λi hi=>h i (by simpa using hi)) _ _ _ _ ?_ (by simpa using h0)
 ·have:=Xw.at (k:=i) p (by simpa using m) listed a w b (by rw[BF];exact q) n K (λc w' h=>d c w' (by rw[BF] at h;exact h));exact this
 exact BC (List.length_filter_le _ _) AE
theorem H6{w:World}(J:Array Bool->Act->World->Prop)(d:P.follows .mixedOrders=true)(b:Zvw l.toArray=true)(h0:J (Array.replicate l.length false) a w.drew)(f:Xc P J 0 l)(c:∀(listed:Array Bool) (a:Act) (w:World),J listed a w->(∀i,i<l.length->listed.getD i true=true)->Q .normal a w):(Code.region id l.toArray true).wp P Q a w :=
 Dq J d b h0 f.inv c
end
section
open Go.Maps (Keyed IsMap Tidy)
theorem Vp.lt{w:World}(h:Vp w g t xs):g<w.heap.size:=by
 obtain⟨cs,a,_⟩:=h;exact a.lt
theorem Vp.get{w:World}(h:Vp w g t xs)(d:j<xs.length):∃A n c b,w.cell? ⟨g,j*2,none⟩=some (.slice A n c)/\w.cell? ⟨g,j*2+1,none⟩=some (.bool b)/\Z1 w A n c b (xs.getD j 0):=by
 obtain⟨cs,a,m,l⟩:=h;obtain⟨A,n,c,b,h1,f,k⟩:=l j _ (AM d);refine⟨A,n,c,b,(a.cell _).trans h1,(a.cell _).trans f,?_⟩;rw[AP,AM d];exact k
theorem Vp.frozen{w:World}(h:Vp w g t xs)(i:Nat):w.frozen? ⟨g,i,none⟩=false:=by
 obtain⟨cs,a,_⟩:=h;exact a.frozen i
theorem Zb(A:Option Addr)(n c:Nat)(xs:List Nat)(w:World)(h:Zq .u32 w A n c xs):
 Calls prog 42 #[.slice A n c] w λe w'=>e = .returned (.bool (Zm xs))/\w=w':=by
 have a:=h.len;have o:=h.cap;by_cases h0:n=0
 ·subst h0;go_enter func42,ntmps42;go_wp2;go_ret;exact⟨by simp[Zm,a],rfl⟩
 obtain⟨b,q,x,rfl,l,Hx,m⟩:=h.get (j:=n-1) AA;have g:=Hx.out;by_cases d:n<=32
 ·have p:((n:Int)==0)=false:=AG
  have f:Zm xs=((x:Int) != 0):=by
   simp[Zm,a,d,h0,g,Zux]
  have k:=LH f;clear f g;go_enter func42,ntmps42;go_wp2;go_ret;rw[k];exact⟨rfl,rfl⟩
 go_enter func42,ntmps42;go_wp2;go_ret;exact⟨by simp[Zm,a,d],rfl⟩
theorem Z4(A:Option Addr)(n c:Nat)(xs:List Nat)(w:World)(h:Zq .u32 w A n c xs):
 Calls prog 35 #[.slice A n c] w λe w'=>e = .returned (.bool (Zm xs))/\w=w':=by
 have a:=h.len;have o:=h.cap;by_cases h0:n=0
 ·subst h0;go_enter func35,ntmps35;go_wp2;go_ret;exact⟨by simp[Zm,a],rfl⟩
 obtain⟨b,q,x,rfl,l,Hx,m⟩:=h.get (j:=n-1) AA;have g:=Hx.out;by_cases d:n<=32
 ·have p:((n:Int)==0)=false:=AG
  have f:Zm xs=((x:Int) != 0):=by
   simp[Zm,a,d,h0,g,Zux]
  have k:=LH f;clear f g;go_enter func35,ntmps35;go_wp2;go_ret;rw[k];exact⟨rfl,rfl⟩
 go_enter func35,ntmps35;go_wp2;go_ret;exact⟨by simp[Zm,a,d],rfl⟩
theorem Ww(A:Option Addr)(n c:Nat)(xs:List Nat)(i:Nat)(w:World)(h:Zq .u32 w A n c xs)(g:Lim xs):
 Calls prog 76 #[.slice A n c,.int .i64 (i:Int)] w λe w'=>e = .returned (.int .u64 ((xs.getD i 0:Nat):Int))/\w=w':=by
 obtain rfl:=h.len;obtain⟨y,a⟩:∃y,Hid (xs.getD i 0=y):=⟨_,LH rfl⟩;rw[a];by_cases hi:i<xs.length
 ·obtain⟨b,o,x,rfl,k,Hx,l⟩:=h.get hi;have f:¬(xs.length:Int)<=(i:Int):=AA
  have m:=g.of_get Hx;go_enter func76,ntmps76;go_wp2;go_ret;rw[<-a,Yg Hx];exact⟨rfl,rfl⟩
 have f:(xs.length:Int)<=(i:Int):=AA
 have d:=LH (K8 (xs:=xs) (j:=i) AA);go_enter func76,ntmps76;go_wp2;go_ret;rw[<-a,d];exact⟨rfl,rfl⟩
theorem Zww(h1:-1000<=s)(d:s<=1000)(h:n<=1000):∃l,keyOf prog 257 (kT s n)=some l:=by
 have a:prog.keyType 257=true:=AB
 have b:prog.cellsOf 257=2:=AB
 have c:prog.cellsOf 3=1:=AB
 have w1:=Mb h1 d;have g:(Lit.int .i64 (n:Int)).wf=true:=Mb AA AA;obtain⟨m,f⟩:=Zy5 Tryz.rowKT AC;unfold keyOf kT;rw[f];simp[underlying257,a,Value.formed,b,Program.keyLits,Value.cells,c,underlying3,w1,g,DQ]
theorem Zsn{d:Nat}(h1:i<=1000)(j:d<=1000)(o:n<=1000):∃l,keyOf prog 261 (kF i d n)=some l:=by
 have a:prog.keyType 261=true:=AB
 have b:prog.cellsOf 261=3:=AB
 have c:prog.cellsOf 3=1:=AB
 have w1:(Lit.int .i64 (i:Int)).wf=true:=Mb AA AA;have g:(Lit.int .i64 (d:Int)).wf=true:=Mb AA AA;have h:(Lit.int .i64 (n:Int)).wf=true:=Mb AA AA;obtain⟨m,f⟩:=Zy5 Tryz.rowKF AC;unfold keyOf kF;rw[f];simp[underlying261,a,Value.formed,b,Program.keyLits,Value.cells,c,underlying3,w1,g,h]
end
section
variable {P:Program} {M:World->Prop} {R:World->World->Prop}
theorem Zwm.at:∀{ds:List (Value->World->Prop)},Zwm R ds->∀i v X a,atL ds i v X->R X a->atL ds i v a
 | [],_,i,_,_,_,_,_=>trivial
 | d::ds,h,0,v,X,a,hd,hb=>h.1 v X a hd hb
 | d::ds,h,i+1,v,X,a,hd,hb=>Zwm.at (ds:=ds) h.2 i v X a hd hb
end
section
open Ieee
open Go.Maps (Keyed IsMap Tidy)
theorem red_id{G:Gr}(a:G.right=true)(p:∀i,i<G.nons.length->(Qm G).testBit i=true):Zi G=G:=by
 have c:=Gr.fits a;obtain⟨_,_,_,u,t⟩:=Nd.1 a;have g:∀i,i<G.nons.length->(Zt G).getD i false=true/\(Z5 G).getD i false=true:=λi hi=>(Gl G c i).1 (p i hi);have k:∀r∈G.rules,∀s∈r.right,s<0->Zp s<G.nons.length:=λr a s b h0=>by
  have:=c.sym r a s b;unfold Zp;omega
 have h:Yh G=G.rules:=by
  unfold Yh;rw[List.filter_eq_self];intro r a;have q:=c.left r a;unfold Ky;rw[AU];exact⟨(g _ AA).2,U8.2 λs b=>⟨λ_=>rfl,λh0=>(g _ (k r a s b h0)).1⟩⟩
 have f:Ze G=List.range G.nons.length:=by
  unfold Ze;rw[h,lefts_range G _ _ t];congr 1;omega
 have h1:(Ze G).map (Ws G)=G.nons:=by
  rw[f];refine List.ext_getElem? λj=>?_;rw[BB];by_cases d:j<G.nons.length
  ·rw[List.getElem?_range d,AM d];show some (Ws G j)=_;unfold Ws;rw[AM d];rfl
  rw[BE (by simpa using d),BE AA];rfl
 have n:(Yh G).map (Wb (Ze G))=G.rules:=by
  rw[h,f]
  conv=>rhs;rw[<-List.map_id G.rules]
  refine List.map_congr_left λr a=>?_;have q:=c.left r a;have l:toI (List.range G.nons.length) r.left.toNat=r.left:=by rw[Am AA];omega
  have m:r.right.map (Xd (List.range G.nons.length))=r.right:=by
   conv=>rhs;rw[<-List.map_id r.right]
   refine List.map_congr_left λs b=>?_;unfold Xd;split
   ·rename_i h0;rw[Am (k r a s b h0)];show -1-((Zp s:Nat):Int)=s;exact Fr h0
   rfl
  unfold Wb;rw[l,m];rfl
 have o:toI (Ze G) G.start.toNat=G.start:=by rw[f,Am AA];omega
 unfold Zi;rw[h1,n,o]
structure Zxy (G:Gr):Prop where
 red:Q9 G=true
 cyc:Vh G=0
theorem Zt8{G:Gr}{l:List Int}(h:(Wi G l (n:Int)).2=0):Zxy G/\l.length<=6/\n<=10/\(∀s∈l,G.has s=true)/\Zx (Zv G) l n<big:=by
 unfold Wi at h;split at h
 ·cases h
 rename_i h1;split at h
 ·cases h
 rename_i b;refine⟨⟨?_,?_⟩,?_,?_,?_,?_⟩
 ·cases d:Q9 G
  ·exact absurd (.inl d) h1
  rfl
 ·exact DV b
 ·exact DV λa=>h1 (.inr (.inl AA))
 ·exact DV λa=>h1 (.inr (.inr (.inr (.inl AA))))
 ·intro s f;cases c:G.has s
  ·exact absurd (.inr (.inr (.inr (.inr ⟨s,f,c⟩)))) h1
  rfl
 rw[DC] at h;unfold Xm at h;exact DV λa=>by rw[if_neg a] at h;cases h
theorem Zua{G:Gr}(a:Zxy G){l:List Int}(d:l.length<=6)(f:n<=10)(b:∀s∈l,G.has s=true):Wi G l (n:Int)=Xm (Zx (Zv G) l n):=by
 unfold Wi;rw[if_neg,if_neg (by rw[a.cyc];exact λh=>h rfl),DC];rintro (h | h | h | h | ⟨s,c,h⟩)
 ·rw[a.red] at h;cases h
 ·omega
 ·omega
 ·omega
 rw[b s c] at h;cases h
end
section
variable {W0:World} {k:BkH} {h:GH} {G:Gr} {S':Nat->Prop} {w:World} {gR:Nat} {b:Nat->Bool} {u:Nat->Value} {X:World}
theorem Zu.refl(w:World):Zu w w:=⟨AJ _,λ_ _ _=>rfl⟩
theorem InG.at{G:Gr}(a:G.Fits){x:Rul}(b:G.rules[i]? = some x):InG G x.right:=InG.rule a (AN b)
end
theorem Le(s:Option Addr)(n c1:Nat)(xs:List Nat)(t:Option Addr)(m c2:Nat)(M:List Nat)(w:World)(h1:Zq .u32 w s n c1 xs)(b:Zq .u32 w t m c2 M)(g:Lim xs)(h:Lim M):
 Calls prog 36 #[.slice s n c1,.slice t m c2] w (Quiet w (.int .i64 (Vq xs M))):=by
 by_cases l:Zm xs=true
 case neg =>
  have G:Zm xs=false:=by simpa using l
  have a:Vq xs M=0:=by simp[Vq,G]
  rw[a];clear a l;go_enter func36,ntmps36;go_wp2_with (first
   | (go_at_call 35;(with_reducible refine (Z4 _ _ _ _ _ h1).mono ?_);rintro e w'⟨rfl,rfl⟩)
   | (go_at_call 35;(with_reducible refine (Z4 _ _ _ _ _ b).mono ?_);rintro e w'⟨rfl,rfl⟩))
  go_ret;exact⟨rfl,Uz.refl _⟩
 by_cases o:Zm M=true
 case neg =>
  have H:Zm M=false:=by simpa using o
  have a:Vq xs M=0:=by simp[Vq,H]
  rw[a];clear a o;go_enter func36,ntmps36;go_wp2_with (first
   | (go_at_call 35;(with_reducible refine (Z4 _ _ _ _ _ h1).mono ?_);rintro e w'⟨rfl,rfl⟩)
   | (go_at_call 35;(with_reducible refine (Z4 _ _ _ _ _ b).mono ?_);rintro e w'⟨rfl,rfl⟩))
  go_ret;exact⟨rfl,Uz.refl _⟩
 have D:=Ut xs l;have C:=Ut M o;have x:Vq xs M=Vm (val xs) (val M):=by simp[Vq,l,o]
 have z:=LH x;clear x;go_enter func36,ntmps36;go_wp2_with (first
  | (go_at_call 35;(with_reducible refine (Z4 _ _ _ _ _ h1).mono ?_);rintro e w'⟨rfl,rfl⟩)
  | (go_at_call 35;(with_reducible refine (Z4 _ _ _ _ _ b).mono ?_);rintro e w'⟨rfl,rfl⟩))
 go_loop [5] (λi=>∃k:Nat,k<=32/\i = .int .i64 ((k:Int)-1)/\Vq xs M=Vm (val (xs.take k)) (val (M.take k))) (λi=>(intOf i+1).toNat)
 case atStart=>exact⟨32,AJ _,rfl,by rw[z.out,AR D,AR C]⟩
 obtain⟨k,J,rfl,hrel⟩:=hrel;have u:=LH hrel;clear hrel;by_cases L:0<k
 ·have r:=Zzx xs M g h (k-1);rw[show k-1+1=k from by omega,<-u.out] at r;have p:=LH r;clear r;have v:((k:Int)-1)=((k-1:Nat):Int):=AA
  rw[v];generalize y:k-1=j at *;have B:=LH y;have I:j<32:=AA
  clear y v;by_cases d:xs.getD j 0<M.getD j 0
  ·have E:((xs.getD j 0:Nat):Int)<((M.getD j 0:Nat):Int):=AA
   have c:=LH d;clear d;go_wp2_with (first
    | (go_at_call 76;(with_reducible refine (Ww _ _ _ _ _ _ h1 g).mono ?_);rintro e w'⟨rfl,rfl⟩)
    | (go_at_call 76;(with_reducible refine (Ww _ _ _ _ _ _ b h).mono ?_);rintro e w'⟨rfl,rfl⟩))
   go_ret;rw[p.out,if_pos c.out];exact⟨rfl,Uz.refl _⟩
  have E:¬((xs.getD j 0:Nat):Int)<((M.getD j 0:Nat):Int):=AA
  have c:=LH d;clear d;by_cases f:M.getD j 0<xs.getD j 0
  ·have F:((M.getD j 0:Nat):Int)<((xs.getD j 0:Nat):Int):=AA
   have q:=LH f;clear f;go_wp2_with (first
    | (go_at_call 76;(with_reducible refine (Ww _ _ _ _ _ _ h1 g).mono ?_);rintro e w'⟨rfl,rfl⟩)
    | (go_at_call 76;(with_reducible refine (Ww _ _ _ _ _ _ b h).mono ?_);rintro e w'⟨rfl,rfl⟩))
   go_ret;rw[p.out,if_neg c.out,if_pos q.out];exact⟨rfl,Uz.refl _⟩
  have F:¬((M.getD j 0:Nat):Int)<((xs.getD j 0:Nat):Int):=AA
  have q:=LH f;clear f;go_wp2_with (first
   | (go_at_call 76;(with_reducible refine (Ww _ _ _ _ _ _ h1 g).mono ?_);rintro e w'⟨rfl,rfl⟩)
   | (go_at_call 76;(with_reducible refine (Ww _ _ _ _ _ _ b h).mono ?_);rintro e w'⟨rfl,rfl⟩))
  go_round
  case rel=>exact⟨j,by have:=B.out;omega,rfl,by rw[p.out,if_neg c.out,if_neg q.out]⟩
  simp[intOf] <;> omega
 obtain rfl:k=0:=AA
 have a:Vq xs M=0:=by rw[u.out];simp[Vm,val]
 have A:=LH a;clear a;go_wp2;go_ret;rw[A.out];exact⟨rfl,Uz.refl _⟩
theorem Zvr(c:Option Addr)(n c1:Nat)(xs:List Nat)(d:Option Addr)(m c2:Nat)(M:List Nat)(w:World)(h1:Zq .u32 w c n c1 xs)(E:Zq .u32 w d m c2 M)(A:Lim xs)(B:Lim M)(G:xs.length<=33)(F:M.length<=33):
 Calls prog 188 #[.slice c n c1,.slice d m c2] w λe w'=>e = .returned (.bool (decide (Vm (val xs) (val M)=-1)))/\w=w':=by
 go_enter func188,ntmps188;go_wp2;go_loop [5] (λi=>∃k:Nat,k<=33/\i = .int .i64 ((k:Int)-1)/\Vm (val xs) (val M)=Vm (val (xs.take k)) (val (M.take k))) (λi=>(intOf i+1).toNat)
 case atStart=>exact⟨33,AJ _,rfl,by rw[AR G,AR F]⟩
 obtain⟨k,J,rfl,hrel⟩:=hrel;have r:=LH hrel;clear hrel;by_cases L:0<k
 ·have b:=Zzx xs M A B (k-1);rw[show k-1+1=k from by omega,<-r.out] at b;have s:=LH b;clear b;have u:((k:Int)-1)=((k-1:Nat):Int):=AA
  rw[u];generalize v:k-1=j at *;have D:=LH v;have I:j<33:=AA
  clear v u;obtain⟨x,Hx⟩:∃x,Hid (xs.getD j 0=x):=⟨_,LH rfl⟩;obtain⟨y,t⟩:∃y,Hid (M.getD j 0=y):=⟨_,LH rfl⟩;have o:=Ww c n c1 xs j w h1 A;have p:=Ww d m c2 M j w E B;rw[Hx.out] at o;rw[t.out] at p;have b:=s.out;rw[Hx.out,t.out] at b;have g:=LH o;have h:=LH p;have l:=LH b;clear o p b s;by_cases q:x<y
  ·have H:((x:Int)==(y:Int))=false:=by rw[AQ];omega
   have a:decide (Vm (val xs) (val M)=-1)=true:=by rw[l.out,if_pos q];rfl
   have f:=LH a;clear a;go_wp2_with (first
    | (go_at_call 76;(with_reducible refine g.out.mono ?_);rintro e w'⟨rfl,rfl⟩)
    | (go_at_call 76;(with_reducible refine h.out.mono ?_);rintro e w'⟨rfl,rfl⟩))
   go_ret;rw[f.out];exact⟨AE,rfl⟩
  by_cases z:y<x
  ·have H:((x:Int)==(y:Int))=false:=by rw[AQ];omega
   have a:decide (Vm (val xs) (val M)=-1)=false:=by rw[l.out,if_neg q,if_pos z];rfl
   have f:=LH a;clear a;go_wp2_with (first
    | (go_at_call 76;(with_reducible refine g.out.mono ?_);rintro e w'⟨rfl,rfl⟩)
    | (go_at_call 76;(with_reducible refine h.out.mono ?_);rintro e w'⟨rfl,rfl⟩))
   go_ret;rw[f.out];exact⟨AE,rfl⟩
  obtain rfl:x=y:=AA
  go_wp2_with (first
   | (go_at_call 76;(with_reducible refine g.out.mono ?_);rintro e w'⟨rfl,rfl⟩)
   | (go_at_call 76;(with_reducible refine h.out.mono ?_);rintro e w'⟨rfl,rfl⟩))
  go_round
  case rel=>exact⟨j,by have:=D.out;omega,rfl,by rw[l.out,if_neg q,if_neg z]⟩
  simp[intOf] <;> omega
 obtain rfl:k=0:=AA
 have a:decide (Vm (val xs) (val M)=-1)=false:=by rw[r.out];simp[Vm,val]
 have C:=LH a;clear a;go_wp2;go_ret;rw[C.out];exact⟨rfl,rfl⟩
theorem Zrn.get{w:World}{A:Option Addr}{c:Nat}{g:List (List Nat)}(h:Zrn w A n c g)(o:j<n):∃b f xs a d,A=some ⟨b,f,none⟩/\b<w.heap.size/\Hid (g[j]? = some xs)/\w.cell? ⟨b,f+j,none⟩=some (.slice a xs.length d)/\Za .i64 w a xs.length d (Zrc xs):=by
 obtain⟨b,f,e,m,p⟩:=h.2.2.2 AA;have k:g[j]? = some (g[j]'(by rw[h.1];exact o)):=AM _;obtain⟨a,d,h1,l⟩:=p j _ k;exact⟨b,f,_,a,d,e,m,LH k,h1,l⟩
theorem VMs.start(W:World)(L:List Qr)(u:Nat->Value):VMs W L (λ_=>false) u W.drew :=
 ⟨(AL _ _).drew,λ_ _ h=>(by cases h),λ_ _ _ _ _ h=>(by cases h)⟩
structure Bp (W0:World) (h:GH) (G:Gr) (At:Option Addr) (nt ct:Nat) (wk:Nat) (cs:List Nat) (full:Bool) (A:Option Addr) (c:Nat) (W:World):Prop where
 base:Below W0.heap.size W0 W
 box:Blk W wk 87 #[.slice h.a1 h.n1 h.c1,.slice h.a2 h.n2 h.c2,.slice h.a3 h.n3 h.c3,.int .i64 G.start,.slice At nt ct,.slice A cs.length c,.bool full]
 row:M4 W W0.heap.size A cs.length c (cs.map λi:Nat=>(i:Int))
 low:W0.heap.size<=wk
 few:cs.length<=300
def WkAt(a:World)(h:GH)(G:Gr)(At:Option Addr)(g d:Nat)(j:Nat)(b:List Nat)(f:Bool)(W:World):Prop:=∃A c,Bp a h G At g d j b f A c W
def WkRet(b:World)(h:GH)(G:Gr)(At:Option Addr)(f d g:Nat)(a t:List Nat)(w:World)(e:Ending)(w':World):Prop :=
 e = .returned (.tuple #[])/\Zu w w'/\((a.length+t.length<=300/\WkAt b h G At f d g (a++t) false w')\/(300<a.length+t.length/\∃j,WkAt b h G At f d g j true w'))
section
variable {W0:World} {h:GH} {G:Gr} {At:Option Addr} {nt ct wk:Nat} {cs:List Nat} {full:Bool} {A:Option Addr} {c:Nat} {W:World}
theorem Bp.no32(M:Bp W0 h G At nt ct wk cs full A c W):∀o z,W.cell? ⟨wk,o,none⟩≠some (Value.int .u32 z):=λo z a=>by
 rw[M.box.cell o] at a;rcases o with _ | _ | _ | _ | _ | _ | _ | o <;> cases a
end
