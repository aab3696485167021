/- reachable: the reference's, walked. -/
import Derived.Test.YtggbjdmpjidhgaaGreatDoorY04
import Derived.Test.YtggbjdmpjidhgaaGreatDoorY05
import Derived.Test.YtggbjdmpjidhgaaGreatDoorY06
set_option linter.all false
set_option maxHeartbeats 1500000
set_option maxRecDepth 100000
namespace Go.Proofs.YtggbjdmpjidhgaaGreatDoor
open Go.RowKit Go.Proofs.Tryz
variable{w w' a:World}{n c p B cr x j g i m b:Nat}{A Ar:Option Addr}{ps:List MemPlace}{h:GH}{ts:List ((Int × Nat) × Nat)}{L:ByteArray}{rs:List ByteArray}{r:List (Value × Nat)}{l:List Int}{d:List ((Nat × Nat × Nat) × Nat)}{s:Int}{o:Oper}{f:WSt->Int->Option (WSt × Nat)}{t:TypeId}{ops:Array Oper}{Q:Exit->Act->World->Prop}{J:Array Bool->Act->World->Prop}{xs u:List Nat}{v:Value}{cs:Array Value}{rest:List Oper}{S S':Nat->Prop}{tab:Nat->Nat->Nat}{F:(Nat->Value)->Act}{D:Nat->Value->World->Prop}{fin:(Nat->Value)->World->Prop}
def Z5(G:Gr):List Bool:=Z3 (Yy (Yp (Zt G)) G.rules) G.nons.length (Xv G)
theorem Prds.below{ps:List Prd}(h:Prds w A n c ps)(a:Below w w w'):Prds w' A n c ps:=by
 refine⟨h.1,h.2.1,h.2.2.1,λs=>?_⟩;obtain⟨b,f,e,d,r⟩:=h.2.2.2 s;refine⟨b,f,e,AK d a.size,λj p t=>?_⟩;rw[a.cell (p:=⟨b,f+j*5,none⟩) d,a.cell (p:=⟨b,f+j*5+1,none⟩) d,a.cell (p:=⟨b,f+j*5+2,none⟩) d,a.cell (p:=⟨b,f+j*5+3,none⟩) d,a.cell (p:=⟨b,f+j*5+4,none⟩) d];obtain⟨Ar,cr,x,y,u,v,g,k,l,m,o,q⟩:=r j p t;exact⟨Ar,cr,x,y,u,v,g,k,l,m,o,q.below a⟩
theorem Wk.below{G:Gr}(k:Wk w p B h G)(a:Below w w w'):Wk w' p B h G:=by
 obtain⟨cs,d,g⟩:=k.r3;exact⟨k.blk.ext a,Yq k.r1 λb _ _ c=>a.block b c,Yq k.r2 λb _ _ c=>a.block b c,
  ⟨cs,Yq d λb _ _ c=>a.block b c,g.keep a.size λk j f=>⟨a.block k j,f⟩⟩,k.d12,k.d13,k.d23,k.st,k.wf,k.b1,k.b2,k.b3⟩
theorem V6.below{c:GH}{G:Gr}(t:V6 w w' p h c)(k:Wk w p B h G):Below p w w':=by
 refine⟨t.os,t.tape,t.output,t.size,λb f=>t.keep b (Nat.lt_trans f k.lt) ?_⟩;rintro (a | a | a | a)
 ·omega
 ·have:=(k.r1.lt b a).1;omega
 ·have:=(k.r2.lt b a).1;omega
 obtain⟨cs,d,_⟩:=k.r3;have:=(d.lt b a).1;omega
theorem Wc.below{ts:List Tk}(h:Wc w p ts)(a:Below w w w'):Wc w' p ts:=by
 obtain⟨d,A,c,x,y,g,j,b,f⟩:=h;exact⟨d,A,c,x,y,g,j,b.ext a,f.below a⟩
theorem Zyt.late{wr:World}{y:Nat}{j:List Tk}{k:TypeId}{g:List Value}(c:wr.drew.grownBy a (some p))(f:a.ownsRow wr.drew.heap.size k 2 (.slice Ar rs.length cr) rs.length g)(m:Gi g rs)(l:Wc a p j):
 Zyt wr (a.alloc (.cells #[.string L,.complex .f64 x y,.slice Ar rs.length cr,.string ⟨#[]⟩,.complex .f64 0 0] 199)) p a Ar cr L x y rs j:=by
 have d:=Zy a (.cells #[.string L,.complex .f64 x y,.slice Ar rs.length cr,.string ⟨#[]⟩,.complex .f64 0 0] 199);refine⟨c.size,Blk.new _ _ _,(own_rfs f m).below d,λb n h=>?_,l.below d,?_⟩
 ·have h1:wr.heap.size<=b/\b<a.heap.size:=f.lt b (by rw[h];rfl);exact⟨h1.1,AK h1.2 d.size⟩
 have h1:wr.grownBy a (some p):=⟨c.os,c.tape,c.output,c.size,c.block⟩;exact Zc h1 (Xz _ d)
def Qm(G:Gr):Nat:=Jb (λi=>(Zt G).getD i false&&(Z5 G).getD i false) G.nons.length
def Gy(G:Gr):Nat:=if G.right then Qm G else 0
theorem useG_lt(G:Gr):Gy G<4294967296:=by
 unfold Gy Qm;split
 ·exact Jg _ _
 decide
def endG(G:Gr):Bool:=(Vh G &&& Gy G) != 0
theorem reach_least{G:Gr}(X:Nat->Prop)(h0:X G.start.toNat)(a:∀r∈G.rules,X r.left.toNat->Xj true (Zt G) r.right=true->∀s∈r.right,s<0->X (Zp s))(h:(Z5 G).getD i false=true):X i:=by
 unfold Z5 at h;have key:∀(k i:Nat),(Z3 (Yy (Yp (Zt G)) G.rules) k (Xv G)).getD i false=true->X i:=by
  intro k
  induction k with
  | zero =>
    intro i h;rw[Z3] at h;unfold Xv at h;rcases (Uh _ _ _).1 h with h | ⟨rfl,_⟩
    ·rw[Zve] at h;cases h
    ·exact h0
  | succ k b=>intro i h;exact Zyx X G.rules a b i h
 exact key _ i h
def useB(G:Gr)(i:Nat):Prop:=(Zt G).getD i false=true/\(Z5 G).getD i false=true
def Yh(G:Gr):List Rul:=G.rules.filter (Ky (Zt G) (Z5 G))
def Ze(G:Gr):List Nat:=Wu (Yh G)
def Zi(G:Gr):Gr:=⟨G.terms,(Ze G).map (Ws G),(Yh G).map (Wb (Ze G)),toI (Ze G) G.start.toNat⟩
theorem Fq{G:Gr}{r:Rul}:r∈Yh G↔r∈G.rules/\(Z5 G).getD r.left.toNat false=true/\Xj true (Zt G) r.right=true:=by
 unfold Yh Ky;rw[List.mem_filter,AS]
theorem Zug{G:Gr}{r:Rul}(a:r∈Yh G):r.left.toNat∈Ze G:=Ka.2 ⟨r,a,rfl⟩
theorem Ub(G:Gr):(Ze G).Nodup:=Nh _
theorem red_lefts(G:Gr)(n:G.Fits)(k:∀r∈Yh G,(Zi G).ruleOK (Wb (Ze G) r)=true):∀(a b:List Rul),a++b=Yh G->
 (Zi G).leftsGo (a.map (Wb (Ze G))) (-1)=some (((Wu a).length:Int)-1):=by
 intro a
 induction a using K3 with
 | h0=>intro b _;simp[Gr.leftsGo,Wu]
 | h1 a r m =>
   intro b f;have h1:=m (r::b) (by rw[<-f];simp);have l:r∈Yh G:=by rw[<-f];simp
   rw[DF,CJ,List.map_nil,Gr.leftsGo_snoc,h1,Option.bind_some];have j:Ze G=Wu ((a++[r])++b):=by unfold Ze;rw[f]
   have g:r.left.toNat∈Wu (a++[r]):=Ka.2 ⟨r,AE,rfl⟩;have c:(Wb (Ze G) r).left=toI (Wu (a++[r])) r.left.toNat:=by
    show toI (Ze G) r.left.toNat=_;rw[j,toI_part g]
   rw[if_pos]
   ·rw[c,Vs];unfold N3;split
    ·rename_i hi;have:=Df (Wu a) r.left.toNat
     rw[BR];omega
    rename_i hi;have d:(Wu a++[r.left.toNat]).Nodup:=by
     have:=Nh (a++[r]);rw[Vs] at this;unfold N3 at this;rwa [if_neg hi] at this
    rw[toI_app d,BR];simp only[AU,CU];omega
   refine⟨?_,?_,k r l⟩
   ·rw[c];have:¬toI (Wu (a++[r])) r.left.toNat<0:=λh=>Bx.1 h g;omega
   rw[c,Vs];unfold N3;split
   ·have:=Df (Wu a) r.left.toNat
    omega
   rename_i hi;have d:(Wu a++[r.left.toNat]).Nodup:=by
    have:=Nh (a++[r]);rw[Vs] at this;unfold N3 at this;rwa [if_neg hi] at this
   rw[toI_app d];omega
theorem Ll.start(G:Gr)(a:List Nat):Ll G a (λ_ _=>0) 0 0:=⟨λk b=>AA,λi hi=>by simp at hi,λ_ _=>rfl⟩
def N5(G:Gr):List Nat × Int:=if G.right then (if endG G then ([],10) else ((Y4 (Yz G) (Qm G) G.nons.length G.nons.length).1,0)) else ([],1)
def Mx(G:Gr)(w:World)(e:Ending)(w':World):Prop:=Below w.heap.size w w'/\∃A c,e = .returned (.tuple #[.slice A (N5 G).1.length c,.int .i64 (N5 G).2])/\Za .i64 w' A (N5 G).1.length c (Z6 (N5 G).1)
theorem Mx.fail{G:Gr}{a:Int}(h:N5 G=([],a))(b:Below w w w'):Mx G w (.returned (.tuple #[.slice none 0 0,.int .i64 a])) w':=by
 unfold Mx;rw[h];exact⟨b,none,0,rfl,Yl (BJ _ 0 3 1)⟩
theorem Mx.good{G:Gr}{l:List Nat}(h:N5 G=(l,0))(a:Below w w w')(b:w'.ownsRow B 3 1 (.slice A l.length c) l.length (ints .i64 (Z6 l))):Mx G w (.returned (.tuple #[.slice A l.length c,.int .i64 0])) w':=by
 unfold Mx;rw[h];exact⟨a,A,c,rfl,Yl b⟩
theorem useS_lt(G:Gr):Qm G<4294967296:=Jg _ _
theorem Red2.below{l:World}{d:Nat}{s:Value}{G:Gr}{g:Option Addr}{j:Option Addr}{o:Nat}{p q:List Nat}(r:Red2 l c d n s G w g m j o p q)(a:Below w w w'):Red2 l c d n s G w' g m j o p q :=
 ⟨r.off.trans (Off.of_below (S:=λk=>k=d\/k=c) a) λ_ _ h=>h,Blk.ext r.tos a,Blk.ext r.out a,Wv r.kept λb _ f=>a.block b f,Wv r.nons λb _ f=>a.block b f⟩
theorem Zyu.below{f:World}{j l:Value}{d:Option Addr}{c3:Nat}{g:List Rul}(r:Zyu f c j l w d c3 g)(a:Below w w w'):Zyu f c j l w' d c3 g:=by
 obtain⟨cs,h1,m⟩:=r.rules;exact⟨r.off.trans (Off.of_below (S:=λk=>k=c) a) λ_ _ h=>h,Blk.ext r.out a,cs,Wv h1 λb _ p=>a.block b p,m.keep a.size λk o n=>⟨a.block k o,n⟩⟩
def Zv5(G:Gr)(i:Nat):Bool:=match G.rules[i]? with
 | some r=>Ky (Zt G) (Z5 G) r
 | none=>false
def ksN(G:Gr)(j:Nat):List Nat:=(List.range j).filter (Zv5 G)
def Wj(G:Gr)(j:Nat):List Rul:=(G.rules.take j).filter (Ky (Zt G) (Z5 G))
theorem Zts{G:Gr}{r:Rul}(a:G.rules[j]? = some r)(h:Ky (Zt G) (Z5 G) r=true):ksN G (j+1)=ksN G j++[j]/\Wj G (j+1)=Wj G j++[r]:=by
 have b:Zv5 G j=true:=by unfold Zv5;rw[a];exact h
 constructor
 ·unfold ksN;rw[DZ,List.filter_append];simp[b]
 unfold Wj;rw[Ya a,List.filter_append];simp[h]
theorem ksN_no{G:Gr}{r:Rul}(a:G.rules[j]? = some r)(h:Ky (Zt G) (Z5 G) r=false):ksN G (j+1)=ksN G j/\Wj G (j+1)=Wj G j:=by
 have b:Zv5 G j=false:=by unfold Zv5;rw[a];exact h
 constructor
 ·unfold ksN;rw[DZ,List.filter_append];simp[b]
 unfold Wj;rw[Ya a,List.filter_append];simp[h]
theorem Mh(G:Gr):∀j,j<=G.rules.length->(ksN G j).length=(Wj G j).length/\∀q i:Nat,(ksN G j)[q]? = some i->∃r,G.rules[i]? = some r/\(Wj G j)[q]? = some r
 | 0,_=>⟨rfl,λq i h=>by simp[ksN] at h⟩
 | j+1,hj=>by
   obtain⟨h1,f⟩:=Mh G j AA;have b:G.rules[j]? = some (G.rules[j]' AA):=AN _;generalize G.rules[j]=r at b;cases g:Ky (Zt G) (Z5 G) r with
   | false =>
     obtain⟨c,d⟩:=ksN_no b g;rw[c,d];exact⟨h1,f⟩
   | true =>
     obtain⟨c,d⟩:=Zts b g;rw[c,d];refine⟨by simp[h1],λq i a=>?_⟩;rcases Nat.lt_trichotomy q (ksN G j).length with l | k | m
     ·rw[DI l] at a;rw[DI AA];exact f q i a
     ·subst k;rw[BW (AJ _),Nat.sub_self] at a;have:j=i:=by simpa using a
      subst this;refine⟨r,b,?_⟩;rw[h1,BW (AJ _),Nat.sub_self];rfl
     rw[BE AG] at a;cases a
theorem Jp(G:Gr):Wj G G.rules.length=Yh G:=by unfold Wj Yh;rw[List.take_length]
theorem ks_lt{G:Gr}(h:i∈ksN G j):i<j:=by
 unfold ksN at h;exact BP.1 (List.mem_filter.1 h).1
theorem Zu9(G:Gr)(j:Nat):(ksN G j).length<=j:=BD (List.length_filter_le _ _) AE
theorem Zsg(G:Gr)(a:G.Fits)(j:Nat):(Wu (Wj G j)).length<=G.nons.length:=by
 refine Br _ _ (Nh _) λi hi=>?_;obtain⟨r,b,rfl⟩:=Ka.1 hi;have:=a.left r (List.mem_of_mem_take (List.mem_filter.1 b).1);omega
def Xp(G:Gr):Bool:=G.right&&(Zt G).getD G.start.toNat false
def Zyo(G:Gr)(w:World)(e:Ending)(w':World):Prop:=Below w.heap.size w w' /\
 ((Xp G=false/\∃d:Int,d≠0/\e = .returned (.tuple #[GV noH 0,.slice none 0 0,.int .i64 d])) \/
  (Xp G=true/\∃a b f c,e = .returned (.tuple #[GV a (Zi G).start,.slice b f c,.int .i64 0])/\Yf w' a (Zi G)/\a.n1<=24/\a.n2<=16/\a.n3<=40/\Za .i64 w' b f c (Z6 (ksN G G.rules.length))))
theorem eqG_yes{A B:Gr}(h1:A.terms=B.terms)(f:A.nons=B.nons)(g:A.rules=B.rules)(h:A.start=B.start):eqG A B=true:=by
 rw[Ztp];obtain⟨a,b,c,d⟩:=A;obtain⟨j,k,l,m⟩:=B;simp only at h1 f g h;rw[h1,f,g,h]
theorem Db(G:Gr):(Zi G).terms=G.terms:=rfl
theorem Fh:Zi Xt=Xt:=AB
def Yr(G:Gr)(i:Nat):Nat:=(ksN G G.rules.length).getD i 0
theorem ks_pair(G:Gr)(j:Nat):(ksN G j).Pairwise (·<·):=by
 unfold ksN;exact List.Pairwise.filter _ List.pairwise_lt_range
theorem Zzr{G:Gr}(hi:i<(ksN G G.rules.length).length)(a:j<(ksN G G.rules.length).length)(h:Yr G i=Yr G j):i=j:=by
 unfold Yr at h;rw[AP,AP,AN hi,AN a] at h;have h:(ksN G G.rules.length)[i]=(ksN G G.rules.length)[j]:=h;rcases Nat.lt_trichotomy i j with b | rfl | b
 ·have h1:=List.pairwise_iff_getElem.1 (ks_pair G G.rules.length) i j hi a b;omega
 ·rfl
 have h1:=List.pairwise_iff_getElem.1 (ks_pair G G.rules.length) j i a hi b;omega
theorem Fu(G:Gr):(Zi G).rules.length=(ksN G G.rules.length).length:=by
 have h1:=(Mh G G.rules.length (AJ _)).1;rw[Jp] at h1;rw[h1];simp[Zi]
def Bc(G:Gr)(t:List Nat)(j:Nat):List Int:=((t.take j).map (Yr G)++t.drop j).map λi:Nat=>(i:Int)
theorem rowU_at{G:Gr}{t:List Nat}(h:t[j]? = some x):(Bc G t j)[j]? = some (x:Int):=by
 obtain⟨a,rfl⟩:=AO.1 h;unfold Bc;rw[By,BW AG];simp[Nat.min_eq_left (DN a)];exact⟨_,h,rfl⟩
theorem rowU_set{G:Gr}{t:List Nat}(h:t[j]? = some x):(Bc G t j).set j ((Yr G x:Nat):Int)=Bc G t (j+1):=by
 have h1:=Ya h;obtain⟨a,rfl⟩:=AO.1 h;unfold Bc;rw[h1,DV a];simp only[DF,CJ,List.map_nil,DO,DT,DD];have b:(((t.take j).map (Yr G)).map λi:Nat=>(i:Int)).length=j:=by
  rw[BF,BF,BY];omega
 rw[List.set_append_right _ _ AA,b,Nat.sub_self];rfl
theorem kept22:Yr Xt 0=0/\Yr Xt 1=1:=⟨AB,AB⟩
section
variable {G:Gr}
def sig(G:Gr)(i:Nat):Nat:=(toI (Ze G) i).toNat
theorem C8(h:i∈Ze G):toI (Ze G) i=(sig G i:Int)/\sig G i<(Ze G).length/\(Ze G)[sig G i]? = some i:=by
 obtain⟨k,a,b,c⟩:=toI_mem (Ub G) h;have:sig G i=k:=by unfold sig;omega
 rw[this];exact⟨c,a,b⟩
theorem sig_get{k:Nat}(h:(Ze G)[k]? = some i):sig G i=k:=by
 have:=Fc (Ub G) h;unfold sig;omega
theorem Zsw:(Zi G).nons.length=(Ze G).length:=by show ((Ze G).map (Ws G)).length=_;rw[BF]
theorem Zs8{a:Rul}:a∈(Zi G).rules↔∃r∈Yh G,Wb (Ze G) r=a:=CV
theorem Zyb{r:Rul}(a:r∈Yh G):(Wb (Ze G) r).left.toNat=sig G r.left.toNat:=rfl
theorem Zuo(a:G.Fits)(b:(Zt G).getD G.start.toNat false=true):(Zi G).start.toNat=sig G G.start.toNat:=rfl
theorem kept_at(f:G.Fits){r:Rul}(b:G.rules[j]? = some r)(a:r∈Yh G):∃k,Yr G k=j/\(Zi G).rules[k]? = some (Wb (Ze G) r):=by
 have d:j∈ksN G G.rules.length:=by
  unfold ksN;rw[List.mem_filter];refine⟨BP.2 (AO.1 b).1,?_⟩;unfold Zv5;rw[b];unfold Yh at a;exact (List.mem_filter.1 a).2
 obtain⟨k,a⟩:=BT d;obtain⟨g,h1,c⟩:=(Mh G G.rules.length (AJ _)).2 k j a;rw[b] at h1;obtain rfl:=BI h1;rw[Jp] at c;refine⟨k,by unfold Yr;rw[AP,a];rfl,?_⟩;show ((Yh G).map (Wb (Ze G)))[k]? = _;rw[By,c];rfl
end
section
variable {P:Program}
theorem Xw.nil:Xw P ops Q J i []:=trivial
theorem Xc.nil:Xc P J i []:=trivial
end
section
open Go.Maps (Keyed IsMap Tidy)
theorem Z1.zero(w:World)(A:Option Addr)(c:Nat)(d:c<=9223372036854775807):Z1 w A 0 c false 0:=by
 have b:0<big:=by unfold big;generalize 1024=k;exact Nat.two_pow_pos k
 have a:Vk 0=([],false):=by rw[Z7 b];rfl
 unfold Z1;rw[a];exact⟨rfl,Zq.nil _ _ _ _ d⟩
theorem Vp.noInt(h:Vp w g t xs):Qf w g:=by
 obtain⟨cs,f,l,j⟩:=h;intro o k z a;rw[f.cell o] at a;have m:o<xs.length*2:=by rw[<-l];exact (Array.getElem?_eq_some_iff.1 a).1
 obtain⟨A,n,c,b,h1,d,_⟩:=j (o / 2) _ (AN (show o / 2<xs.length by omega));rcases (AA:o=o / 2*2\/o=o / 2*2+1) with e | e
 ·rw[e,h1] at a;cases a
 rw[e,d] at a;cases a
theorem Vp.get(h:Vp w g t xs)(d:j<xs.length):∃A n c b,w.cell? ⟨g,j*2,none⟩=some (.slice A n c)/\w.cell? ⟨g,j*2+1,none⟩=some (.bool b)/\Z1 w A n c b (xs.getD j 0):=by
 obtain⟨cs,a,m,l⟩:=h;obtain⟨A,n,c,b,h1,f,k⟩:=l j _ (AN d);refine⟨A,n,c,b,(a.cell _).trans h1,(a.cell _).trans f,?_⟩;rw[AP,AN d];exact k
theorem Vp.put(h:Vp w g t xs)(u:j<xs.length){b:Bool}(C:Z1 w A n c b x):
 Vp ((w.setCell ⟨g,j*2,none⟩ (.slice A n c)).setCell ⟨g,j*2+1,none⟩ (.bool b)) g t (xs.set j x)/\Zf w ((w.setCell ⟨g,j*2,none⟩ (.slice A n c)).setCell ⟨g,j*2+1,none⟩ (.bool b)):=by
 have v:=h.noInt;have d:Zf w ((w.setCell ⟨g,j*2,none⟩ (.slice A n c)).setCell ⟨g,j*2+1,none⟩ (.bool b)) :=
  Zf.of_off ((Off.of_set w g (j*2) (.slice A n c)).trans (Off.of_set _ g (j*2+1) (.bool b)) λ_ _ h=>h) λq z=>by rw[z];exact v
 refine⟨?_,d⟩;obtain⟨cs,r,B,s⟩:=h;refine⟨(cs.setIfInBounds (j*2) (.slice A n c)).setIfInBounds (j*2+1) (.bool b),(r.set _ _).set _ _,by simp[B],λi y a=>?_⟩;have hi:i<xs.length:=by have:=(AO.1 a).1;simpa using this
 by_cases f:i=j
 ·subst f;rw[List.getElem?_set_self u] at a;obtain rfl:x=y:=by simpa using a
  refine⟨A,n,c,b,?_,?_,C.kept d⟩
  ·rw[Array.getElem?_setIfInBounds_ne AA,Array.getElem?_setIfInBounds_self_of_lt AA]
  rw[Array.getElem?_setIfInBounds_self_of_lt AG]
 rw[List.getElem?_set_ne (λe=>f e.symm)] at a;obtain⟨k,D,m,l,h1,o,p⟩:=s i y a;refine⟨k,D,m,l,?_,?_,p.kept d⟩
 ·rw[Array.getElem?_setIfInBounds_ne AA,Array.getElem?_setIfInBounds_ne AA];exact h1
 rw[Array.getElem?_setIfInBounds_ne AA,Array.getElem?_setIfInBounds_ne AA];exact o
theorem Tryz.info34:(prog.info? 49).map (λi=>(i.zero,i.size,i.bytes))=some (some (.int .u32 0),1,4):=AB
theorem Zb(A:Option Addr)(n c:Nat)(xs:List Nat)(w:World)(h:Zq .u32 w A n c xs):
 Calls prog 75 #[.slice A n c] w λe w'=>e = .returned (.bool (Zm xs))/\w=w':=by
 have a:=h.len;have o:=h.cap;by_cases h0:n=0
 ·subst h0;go_enter func75,ntmps75;go_wp2;go_ret;exact⟨by simp[Zm,a],rfl⟩
 obtain⟨b,q,x,rfl,l,Hx,m⟩:=h.get (j:=n-1) AA;have g:=Hx.out;by_cases d:n<=32
 ·have p:((n:Int)==0)=false:=AG
  have f:Zm xs=((x:Int) != 0):=by
   simp[Zm,a,d,h0,g,Zux]
  have k:=LH f;clear f g;go_enter func75,ntmps75;go_wp2;go_ret;rw[k];exact⟨rfl,rfl⟩
 go_enter func75,ntmps75;go_wp2;go_ret;exact⟨by simp[Zm,a,d],rfl⟩
theorem Z4(A:Option Addr)(n c:Nat)(xs:List Nat)(w:World)(h:Zq .u32 w A n c xs):
 Calls prog 78 #[.slice A n c] w λe w'=>e = .returned (.bool (Zm xs))/\w=w':=by
 have a:=h.len;have o:=h.cap;by_cases h0:n=0
 ·subst h0;go_enter func78,ntmps78;go_wp2;go_ret;exact⟨by simp[Zm,a],rfl⟩
 obtain⟨b,q,x,rfl,l,Hx,m⟩:=h.get (j:=n-1) AA;have g:=Hx.out;by_cases d:n<=32
 ·have p:((n:Int)==0)=false:=AG
  have f:Zm xs=((x:Int) != 0):=by
   simp[Zm,a,d,h0,g,Zux]
  have k:=LH f;clear f g;go_enter func78,ntmps78;go_wp2;go_ret;rw[k];exact⟨rfl,rfl⟩
 go_enter func78,ntmps78;go_wp2;go_ret;exact⟨by simp[Zm,a,d],rfl⟩
theorem Q3(A:Option Addr)(n c:Nat)(xs:List Nat)(w:World)(h:Zq .u32 w A n c xs):
 Calls prog 199 #[.slice A n c] w λe w'=>e = .returned (.slice A (Xx xs).length (Xx xs).length)/\Zq .u32 w A (Xx xs).length (Xx xs).length (Xx xs)/\w=w':=by
 have r:=h.len;have q:=h.cap;go_enter func199,ntmps199;go_wp2;go_loop [3] (λi=>∃k:Nat,k<=n/\i = .int .i64 k/\Xx xs=Xx (xs.take k)) (λi=>(intOf i).toNat)
 case atStart=>exact⟨n,AJ _,rfl,by rw[AR AA]⟩
 obtain⟨k,m,rfl,hrel⟩:=hrel;have f:=LH hrel;clear hrel;by_cases s:0<k
 ·obtain⟨b,u,x,rfl,o,Hx,p⟩:=h.get (j:=k-1) AA;by_cases h0:x=0
  ·subst h0;go_wp2;go_round
   case rel =>
    refine⟨k-1,AA,AF,?_⟩;rw[f];have:=Zws xs (k-1) AA (by simp[Hx.out]);rw[<-this,show k-1+1=k from by omega]
   simp[intOf];omega
  have t:((x:Int)==0)=false:=by simp[h0]
  have a:=Zxp xs (k-1) AA (by simpa [Hx.out] using h0);rw[show k-1+1=k from by omega,<-f] at a;have g:(Xx xs).length=k:=by rw[a];simp;omega
  have d:=LH a;have l:=LH g;clear a g;go_wp2;go_ret;rw[l];refine⟨rfl,?_,rfl⟩;rw[d];exact h.take k k m (AJ _) AA
 have a:Xx xs=[]:=by rw[f,show k=0 from by omega];simp[Xx]
 have d:=LH a;clear a;obtain rfl:k=0:=AA
 go_wp2;go_ret;rw[d];exact⟨rfl,Zq.nil _ _ _ _ AE,rfl⟩
theorem Ztv(A:Option Addr)(n c:Nat)(xs:List Nat)(w:World)(h:Zq .u32 w A n c xs)(g:Lim xs):
 Calls prog 207 #[.slice A n c] w (Xr w (Xm (val xs))):=by
 have a:=Zs4 xs g;by_cases d:(Xx xs).length<=32
 ·rw[if_pos d] at a;have b:=LH a;clear a;go_enter func207,ntmps207;go_wp2_with (go_at_call 199;refine (Q3 _ _ _ _ _ h).mono ?_;rintro e w'⟨rfl,f,rfl⟩);go_ret2;rw[<-b];exact⟨_,_,rfl,AH,AL _ _⟩
 rw[if_neg d] at a;have b:=LH a;clear a;go_enter func207,ntmps207;go_wp2_with (go_at_call 199;refine (Q3 _ _ _ _ _ h).mono ?_;rintro e w'⟨rfl,f,rfl⟩);go_ret2;rw[<-b];exact⟨none,0,rfl,Zq.nil _ _ _ _ AE,AL _ _⟩
theorem Ww(A:Option Addr)(n c:Nat)(xs:List Nat)(i:Nat)(w:World)(h:Zq .u32 w A n c xs)(g:Lim xs):
 Calls prog 79 #[.slice A n c,.int .i64 (i:Int)] w λe w'=>e = .returned (.int .u64 ((xs.getD i 0:Nat):Int))/\w=w':=by
 obtain rfl:=h.len;obtain⟨y,a⟩:∃y,Hid (xs.getD i 0=y):=⟨_,LH rfl⟩;rw[a];by_cases hi:i<xs.length
 ·obtain⟨b,o,x,rfl,k,Hx,l⟩:=h.get hi;have f:¬(xs.length:Int)<=(i:Int):=AA
  have m:=g.of_get Hx;go_enter func79,ntmps79;go_wp2;go_ret;rw[<-a,Yg Hx];exact⟨rfl,rfl⟩
 have f:(xs.length:Int)<=(i:Int):=AA
 have d:=LH (K8 (xs:=xs) (j:=i) AA);go_enter func79,ntmps79;go_wp2;go_ret;rw[<-a,d];exact⟨rfl,rfl⟩
theorem G6(A:Option Addr)(n c:Nat)(xs:List Nat)(w:World)(h:Zq .u32 w A n c xs):
 Calls prog 80 #[.slice A n c] w λe w'=>e = .returned (.slice A (Xx xs).length c)/\Zq .u32 w A (Xx xs).length c (Xx xs)/\w=w':=by
 have r:=h.len;have q:=h.cap;go_enter func80,ntmps80;go_wp2;go_loop [0] (λv=>∃k:Nat,k<=n/\v = .slice A k c/\Xx xs=Xx (xs.take k)) (λv=>lenOf v)
 case atStart=>exact⟨n,AJ _,rfl,by rw[AR AA]⟩
 obtain⟨k,m,rfl,hrel⟩:=hrel;have f:=LH hrel;clear hrel;by_cases s:0<k
 ·obtain⟨b,u,x,rfl,o,Hx,p⟩:=h.get (j:=k-1) AA;by_cases h0:x=0
  ·subst h0;go_wp2;go_round
   case rel =>
    refine⟨k-1,AA,AF,?_⟩;rw[f];have:=Zws xs (k-1) AA (by simp[Hx.out]);rw[<-this,show k-1+1=k from by omega]
   simp[lenOf];omega
  have t:((x:Int)==0)=false:=by simp[h0]
  have a:=Zxp xs (k-1) AA (by simpa [Hx.out] using h0);rw[show k-1+1=k from by omega,<-f] at a;have g:(Xx xs).length=k:=by rw[a];simp;omega
  have d:=LH a;have l:=LH g;clear a g;go_wp2;go_ret;rw[l];refine⟨rfl,?_,rfl⟩;rw[d];exact h.take k c m AA AA
 have a:Xx xs=[]:=by rw[f,show k=0 from by omega];simp[Xx]
 have d:=LH a;clear a;obtain rfl:k=0:=AA
 go_wp2;go_ret;rw[d];exact⟨rfl,Zq.nil _ _ _ _ AA,rfl⟩
theorem As(A:Option Addr)(n c:Nat)(xs:List Nat)(w:World)(h:Zq .u32 w A n c xs)(g:Lim xs):
 Calls prog 112 #[.slice A n c] w (Xr w (Xm (val xs))):=by
 have a:=Zs4 xs g;by_cases d:(Xx xs).length<=32
 ·rw[if_pos d] at a;have b:=LH a;clear a;go_enter func112,ntmps112;go_wp2_with (go_at_call 80;refine (G6 _ _ _ _ _ h).mono ?_;rintro e w'⟨rfl,f,rfl⟩);go_ret2;rw[<-b];exact⟨_,_,rfl,AH,AL _ _⟩
 rw[if_neg d] at a;have b:=LH a;clear a;go_enter func112,ntmps112;go_wp2_with (go_at_call 80;refine (G6 _ _ _ _ _ h).mono ?_;rintro e w'⟨rfl,f,rfl⟩);go_ret2;rw[<-b];exact⟨none,0,rfl,Zq.nil _ _ _ _ AE,AL _ _⟩
theorem mulP_lim(x:Nat)(ys b:List Nat)(k:Nat):Lim (Vn x ys b k).1:=by
 induction k with
 | zero=>exact Lim.nil
 | succ k a=>exact a.append (Lim.mk (Nat.mod_lt _ AC) Lim.nil)
theorem Zx0(x:Nat)(ys a:List Nat)(i k:Nat)(h:Lim a):Lim (Us x ys a i k) :=
 ((h.take _).append (mulP_lim _ _ _ _)).append (h.drop _)
def ptrR:Value->Option (DataW Unit × List MemPlace)
 | .pointer none=>some (.nil,[])
 | .pointer (some ⟨b,0,none⟩)=>some (.lit (.int .i64 (b:Int)),[])
 | _=>none
theorem ptrR_block(h:ptrR v=some (.lit (.int .i64 (b:Int)),ps)):v = .pointer (some ⟨b,0,none⟩):=by
 unfold ptrR at h;split at h
 ·cases h
 ·simp only[BR,DM,DataW.lit.injEq,Lit.int.injEq,true_and] at h;obtain⟨h,_⟩:=h;rw[Int.ofNat.inj h]
 cases h
theorem ptrR_nil(h:ptrR v=some (.nil,ps)):v = .pointer none:=by
 unfold ptrR at h;split at h
 ·rfl
 ·cases h
 cases h
end
theorem Z1.over(w:World){z:Nat}(h:¬z<big):Z1 w none 0 0 true z:=by
 unfold Z1;rw[Wl h];exact⟨rfl,Zq.nil _ _ _ _ AA⟩
theorem Zya(l:Option Addr)(n c1:Nat)(xs:List Nat)(o:Option Addr)(m c2:Nat)(ys:List Nat)(w:World)(h1:Zq .u32 w l n c1 xs)(r:Zq .u32 w o m c2 ys):
 Calls prog 17 #[.slice l n c1,.slice o m c2] w (Quiet w (.bool (xs==ys))):=by
 obtain rfl:=h1.len;obtain rfl:=r.len;have G:=h1.cap;by_cases c:xs.length=ys.length
 case neg =>
  have a:(xs==ys)=false:=by
   rw[AQ];intro h;exact c (by rw[h])
  rw[a];have z:((xs.length:Int) != (ys.length:Int))=true:=by rw[BM];omega
  clear a c;go_enter func17,ntmps17;go_wp2;go_ret;exact⟨rfl,Uz.refl _⟩
 have z:((xs.length:Int) != (ys.length:Int))=false:=by rw[BQ];omega
 have g:=LH c;clear c;go_enter func17,ntmps17;go_wp2;go_loopw [5] (λi wr=>∃k:Nat,k<=xs.length/\i = .int .i64 (k:Int)/\(∀j,j<k->xs.getD j 0=ys.getD j 0)/\Uz w wr) (λi _=>xs.length-(intOf i).toNat)
 case atStart=>exact⟨0,AV _,rfl,λj s=>AA,Uz.refl _⟩
 obtain⟨k,H,rfl,hrel,b⟩:=hrel;have p:=LH hrel;clear hrel;by_cases v:k<xs.length
 ·obtain⟨A,M,x,rfl,C,Hx,E⟩:=(h1.same b).get (j:=k) v;obtain⟨B,N,y,rfl,D,q,F⟩:=(r.same b).get (j:=k) (by have:=g.out;omega);have I:(0:Int)<=(k:Int):=AA
  have J:(k:Int)<(xs.length:Int):=AA
  have L:(k:Int)<(ys.length:Int):=by have:=g.out;omega
  by_cases d:x=y
  ·have u:((x:Int) != (y:Int))=false:=by rw[BQ];omega
   have t:=LH d;clear d;go_wp2;go_quiet (fail)
   go_wp2;go_roundw
   case rel =>
    refine⟨k+1,AA,AF,λj s=>?_,b.drewN _⟩;rcases BC j k with h | h
    ·exact p j h
    obtain rfl:j=k:=AA
    rw[Yn Hx,Yn q,t]
   simp[intOf];omega
  have u:((x:Int) != (y:Int))=true:=by rw[BM];omega
  have a:(xs==ys)=false:=by
   rw[AQ];intro h;have h1:=Hx.out;rw[h,q] at h1;injection h1 with h1;exact d h1.symm
  have f:=LH a;clear a d;go_wp2;go_quiet (fail)
  go_wp2;go_ret;rw[f];exact⟨rfl,b.drewN _⟩
 have a:(xs==ys)=true:=by
  rw[BO];exact same_stepN g λj s=>p j AA
 have f:=LH a;clear a;go_wp2;go_ret;rw[f];exact⟨rfl,b⟩
theorem Zym(u:Option Addr)(n c1:Nat)(xs:List Nat)(v:Option Addr)(m c2:Nat)(P:List Nat)(w:World)(h1:Zq .u32 w u n c1 xs)(b:Zq .u32 w v m c2 P)(p:Lim xs)(q:Lim P):
 Calls prog 76 #[.slice u n c1,.slice v m c2] w (Quiet w (.int .i64 (Vq xs P))):=by
 have f:=h1.len;have g:=b.len;by_cases l:Zm xs=true
 case neg =>
  have M:Zm xs=false:=by simpa using l
  have a:Vq xs P=0:=by simp[Vq,M]
  rw[a];clear a l f g;go_enter func76,ntmps76;go_wp2_with (first
   | (go_at_call 75;(with_reducible refine (Zb _ _ _ _ _ h1).mono ?_);rintro e w'⟨rfl,rfl⟩)
   | (go_at_call 75;(with_reducible refine (Zb _ _ _ _ _ b).mono ?_);rintro e w'⟨rfl,rfl⟩))
  go_ret;exact⟨rfl,Uz.refl _⟩
 by_cases o:Zm P=true
 case neg =>
  have N:Zm P=false:=by simpa using o
  have a:Vq xs P=0:=by simp[Vq,N]
  rw[a];clear a o f g;go_enter func76,ntmps76;go_wp2_with (first
   | (go_at_call 75;(with_reducible refine (Zb _ _ _ _ _ h1).mono ?_);rintro e w'⟨rfl,rfl⟩)
   | (go_at_call 75;(with_reducible refine (Zb _ _ _ _ _ b).mono ?_);rintro e w'⟨rfl,rfl⟩))
  go_ret;exact⟨rfl,Uz.refl _⟩
 have Z:n<=32:=by simp[Zm] at l;omega
 have Y:m<=32:=by simp[Zm] at o;omega
 have c:Vq xs P=Vm (val xs) (val P):=by simp[Vq,l,o]
 by_cases B:n<m
 ·have h:=Qu xs P p q (X8 P o) AA;have a:Vq xs P=-1:=by rw[c];simp[Vm,h]
  rw[a];have J:(n:Int)<m:=AA
  clear a c h f g;go_enter func76,ntmps76;go_wp2_with (first
   | (go_at_call 75;(with_reducible refine (Zb _ _ _ _ _ h1).mono ?_);rintro e w'⟨rfl,rfl⟩)
   | (go_at_call 75;(with_reducible refine (Zb _ _ _ _ _ b).mono ?_);rintro e w'⟨rfl,rfl⟩)
   | (go_at_call 127;(with_reducible refine (Ztl _ _ _).mono ?_);rintro e w'⟨rfl,rfl⟩))
  go_ret;exact⟨rfl,Uz.refl _⟩
 by_cases I:m<n
 ·have h:=Qu P xs q p (X8 xs l) AA;have a:Vq xs P=1:=by rw[c];simp[Vm,h];omega
  rw[a];have J:¬(n:Int)<m:=AA
  have W:(m:Int)<n:=AA
  clear a c h f g;go_enter func76,ntmps76;go_wp2_with (first
   | (go_at_call 75;(with_reducible refine (Zb _ _ _ _ _ h1).mono ?_);rintro e w'⟨rfl,rfl⟩)
   | (go_at_call 75;(with_reducible refine (Zb _ _ _ _ _ b).mono ?_);rintro e w'⟨rfl,rfl⟩)
   | (go_at_call 127;(with_reducible refine (Ztl _ _ _).mono ?_);rintro e w'⟨rfl,rfl⟩))
  go_ret;exact⟨rfl,Uz.refl _⟩
 obtain rfl:n=m:=AA
 have G:=LH f;have H:=LH g;have E:=LH c;clear f g c B I;go_enter func76,ntmps76;go_wp2_with (first
  | (go_at_call 75;(with_reducible refine (Zb _ _ _ _ _ h1).mono ?_);rintro e w'⟨rfl,rfl⟩)
  | (go_at_call 75;(with_reducible refine (Zb _ _ _ _ _ b).mono ?_);rintro e w'⟨rfl,rfl⟩)
  | (go_at_call 127;(with_reducible refine (Ztl _ _ _).mono ?_);rintro e w'⟨rfl,rfl⟩))
 go_loopw [6] (λi wr=>∃k:Nat,k<=n/\i = .int .i64 ((k:Int)-1)/\Vq xs P=Vm (val (xs.take k)) (val (P.take k))/\Uz w wr) (λi _=>(intOf i+1).toNat)
 case atStart=>exact⟨n,AJ _,rfl,by rw[E.out,AR (by rw[G.out];omega),AR (by rw[H.out];omega)],Uz.refl _⟩
 obtain⟨k,X,rfl,hrel,d⟩:=hrel;have z:=LH hrel;clear hrel;by_cases B:0<k
 ·obtain⟨O,o1,x,rfl,S,Hx,U⟩:=(h1.same d).get (j:=k-1) AA;obtain⟨R,o2,y,rfl,T,A,V⟩:=(b.same d).get (j:=k-1) AA;have aa:=p.of_get Hx.out;have ab:=q.of_get A.out;have s:=Zzx xs P p q (k-1);rw[show k-1+1=k from by omega,<-z.out,Yn Hx.out,Yn A.out] at s;have r:=LH s;clear s;have i0:(0:Int)<=(k:Int)-1:=AA
  have i1:(k:Int)-1<(n:Int):=AA
  have i2:((k:Int)-1).toNat=k-1:=AA
  by_cases t:x<y
  ·have C:(x:Int)<(y:Int):=AA
   go_wp2;go_quiet ((go_at_call 128;exact Lk (Zto _ _ _)))
   go_wp2;go_ret;rw[r.out,if_pos t];exact⟨rfl,d.drewN _⟩
  by_cases D:y<x
  ·have C:¬(x:Int)<(y:Int):=AA
   have L:(y:Int)<(x:Int):=AA
   go_wp2;go_quiet ((go_at_call 128;exact Lk (Zto _ _ _)))
   go_wp2;go_ret;rw[r.out,if_neg t,if_pos D];exact⟨rfl,d.drewN _⟩
  have C:¬(x:Int)<(y:Int):=AA
  have L:¬(y:Int)<(x:Int):=AA
  go_wp2;go_quiet ((go_at_call 128;exact Lk (Zto _ _ _)))
  go_wp2;go_roundw
  case rel=>exact⟨k-1,AA,AF,by rw[r.out,if_neg t,if_neg D],d.drewN _⟩
  simp[intOf];omega
 obtain rfl:k=0:=AA
 have a:Vq xs P=0:=by rw[z.out];simp[Vm,val]
 have F:=LH a;clear a;go_wp2;go_ret;rw[F.out];exact⟨rfl,d⟩
theorem nat_bits(f:Option Addr)(n c1:Nat)(xs:List Nat)(w:World)(h1:Zq .u32 w f n c1 xs)(l:Lim xs):
 Calls prog 211 #[.slice f n c1] w λe w'=>e = .returned (.int .i64 (Zz9 xs:Int))/\w=w':=by
 obtain rfl:=h1.len;by_cases c:Zm xs=true
 case neg =>
  have s:Zm xs=false:=by simpa using c
  have b:Zz9 xs=0:=by simp[Zz9,s]
  rw[b];clear b c;go_enter func211,ntmps211;go_wp2_with (go_at_call 75;refine (Zb _ _ _ _ _ h1).mono ?_;rintro e w'⟨rfl,rfl⟩);go_ret;exact⟨rfl,rfl⟩
 rcases List.eq_nil_or_concat xs with rfl | ⟨a,z,rfl⟩
 ·have b:Zz9 []=0:=AC
  rw[b];clear b;simp only[DR] at h1 ⊢;go_enter func211,ntmps211;go_wp2_with (go_at_call 75;refine (Zb _ _ _ _ _ h1).mono ?_;rintro e w'⟨rfl,rfl⟩);go_ret;exact⟨rfl,rfl⟩
 rw[List.concat_eq_append] at *;have r:=X8 _ c a z rfl;have d:z<4294967296:=l z AE;have o:Lim a:=λy q=>l y (by simp[q]);have b:Zz9 (a++[z])=32*a.length+bitLen z:=by simp only[Zz9,c,if_true];exact bitLen_top a z o r
 have m:=LH b;clear b;have h:(a++[z]).length=a.length+1:=AE
 obtain⟨t,C,x,rfl,u,Hx,A⟩:=h1.get (j:=a.length) AA;have p:x=z:=by have:=Hx.out;simp at this;omega
 subst p;have B:a.length+1<=32:=by simp[Zm] at c;omega
 rw[h] at h1 ⊢;have v:bitLen x<=32:=by
  rw[<-Bm x d];exact Lib.bitLenAux_le 64 x 32 d
 have k:=Bm x d;have g:=LH k;clear k h;go_enter func211,ntmps211;go_wp2_with (first
  | (go_at_call 75;refine (Zb _ _ _ _ _ h1).mono ?_;rintro e w'⟨rfl,rfl⟩)
  | (go_at_call 233;refine (bits_len32 _ _ AA AA).mono ?_;rintro e w'⟨rfl,rfl⟩))
 go_ret;rw[m];exact⟨Bo (by rw[Wq _ AA (by have:=g.out;omega),g];omega),rfl⟩
theorem Tryz.infoValS:(prog.info? 89).map (λi=>(i.zero,i.size,i.bytes))=some (some (.slice none 0 0),1,24):=AB
section
open Go.Maps (Keyed IsMap Tidy)
variable {P:Program} {k:TypeId}
def Np(P:Program)(k:TypeId):List (Value × Nat)->DataW Unit
 | [] => .map []
 | p::r=>(Np P k r).put (litK P k p.1) (.lit (.int .i64 (p.2:Int)))
theorem D3:∀r:List (Value × Nat),IsMap (Np P k r)
 | []=>Maps.isMap_empty
 | p::r=>(D3 r).put _ _
theorem Zsc(K:Keyed P k)(b:U4 P k v):∀r:List (Value × Nat),(∀p∈r,U4 P k p.1)->(Maps.has (Np P k r) (litK P k v)=true↔v∈r.map (·.1))
 | [],_=>by
   unfold Np;simp[Maps.has_eq]
 | p::r,hg=>by
   have a:=hg p (AX ..);have d:=Zsc K b r (λq c=>hg q (BN _ c));unfold Np;rw[CJ,BV];by_cases e:v=p.1
   ·rw[e,Maps.has_put_same (D3 r) (K.key a.lit)];simp
   rw[Maps.has_put_other (Ztc K b a e),d];simp[e]
theorem Zu8(K:Keyed P k)(a:U4 P k v):∀r:List (Value × Nat),(∀p∈r,U4 P k p.1)->
 (v∈r.map (·.1)->∃b,(v,b)∈r/\(Np P k r).atKey (litK P k v) .nil = .lit (.int .i64 (b:Int)))/\(v∉r.map (·.1)->(Np P k r).atKey (litK P k v) .nil = .nil)
 | [],_=>⟨λh=>(by cases h),λ_=>by unfold Np;exact Maps.atKey_of_not_has (by simp[Maps.has_eq]) _⟩
 | p::r,hg=>by
   have c:=hg p (AX ..);have d:=Zu8 K a r (λq j=>hg q (BN _ j));rw[CJ];by_cases e:v=p.1
   ·refine⟨λ_=>⟨p.2,by rw[e];exact AX ..,?_⟩,λh=>absurd (by rw[e];exact AX ..) h⟩;subst e;unfold Np;exact Maps.atKey_put_same (D3 r) (K.key a.lit) _ _
   refine⟨λh=>?_,λh=>?_⟩
   ·obtain⟨b,g,f⟩:=d.1 ((BV.1 h).resolve_left e);refine⟨b,BN _ g,?_⟩;unfold Np;rw[Maps.atKey_put_other (Ztc K a c e)];exact f
   rw[BV,not_or] at h;unfold Np;rw[Maps.atKey_put_other (Ztc K a c e)];exact d.2 h.2
theorem Zut(K:Keyed P k):∀r:List (Value × Nat),(∀p∈r,U4 P k p.1)->Tidy (Np P k r)
 | [],_=>Maps.tidy_empty
 | p::r,hg=>(Zut K r (λq a=>hg q (BN _ a))).put (K.key (hg p (AX ..)).lit) _
theorem F1(K:Keyed P k):∀r:List (Value × Nat),(∀p∈r,U4 P k p.1)->∃L:List Value,L.Nodup/\(∀v∈L,v∈r.map (·.1))/\Maps.size (Np P k r)=L.length
 | [],_=>⟨[],List.nodup_nil,λv h=>(by cases h),rfl⟩
 | p::r,hg=>by
   have f:∀q∈r,U4 P k q.1:=λq l=>hg q (BN _ l);obtain⟨L,h1,c,g⟩:=F1 K r f;have b:=Maps.size_put (k:=litK P k p.1) (Zut K r f) (.lit (.int .i64 (p.2:Int)));have j:=Zsc K (hg p (AX ..)) r f;by_cases d:p.1∈r.map (·.1)
   ·rw[if_pos (j.2 d)] at b;exact⟨L,h1,λv a=>by rw[CJ];exact BN _ (c v a),b.trans g⟩
   rw[if_neg (λh=>d (j.1 h))] at b;refine⟨p.1::L,List.nodup_cons.2 ⟨λh=>d (c _ h),h1⟩,λv a=>?_,by rw[AZ,<-g];exact b⟩;rw[CJ];rcases BV.1 a with e | a
   ·rw[e];exact AX ..
   exact BN _ (c v a)
structure Vv (P:Program) (k:TypeId) (w:World) (g:Nat) (r:List (Value × Nat)):Prop where
 own:w.ownsMap P k ptrR g (Maps.size (Np P k r)) (Np P k r)
 good:∀p∈r,U4 P k p.1
theorem Vv.lt(h:Vv P k w g r):g<w.heap.size:=h.own.lt
theorem Vv.block(h:Vv P k w g r)(b:w'.heap[g]? = w.heap[g]?):Vv P k w' g r:=by
 refine⟨?_,h.good⟩;obtain⟨a,clock,c,q⟩:=h.own;exact⟨a,clock,b.trans c,q⟩
theorem Vv.no_cell(h:Vv P k w g r)(o:Nat):w.cell? ⟨g,o,none⟩=none:=by
 obtain⟨b,clock,a,_⟩:=h.own;simp[World.cell?,a]
theorem Vv.noInt(h:Vv P k w g r):Qf w g:=λo k z a=>by rw[h.no_cell] at a;cases a
theorem Vv.ne_blk(h:Vv P k w g r)(a:Blk w b t cs):b≠g:=by
 rintro rfl;obtain⟨d,clock,c,_⟩:=h.own;unfold Blk at a;rw[c] at a;cases a
theorem Vv.made(w:World)(P:Program)(k:TypeId):Vv P k (w.alloc (.map #[] 0)) w []:=⟨World.ownsMap_made w P k ptrR,λp h=>(by cases h)⟩
theorem Vv.look(h:Vv P k w g r)(K:Keyed P k)(a:v∈r.map (·.1)):
 ∃b,(v,b)∈r/\(Np P k r).atKey (litK P k v) .nil = .lit (.int .i64 (b:Int)):=by
 obtain⟨p,d,e⟩:=CV.1 a;have c:=h.good p d;rw[e] at c;exact (Zu8 K c r h.good).1 a
theorem Vv.look_at{t e:Nat}(h:Vv P k w g r)(K:Keyed P k)(j:P.underlying t=some (.map k e))(m:(zeroValue e).run P w = .ok (.pointer none) w)(d:(v,b)∈r)(c:(Np P k r).atKey (litK P k v) .nil = .lit (.int .i64 (b:Int))):
 (Instr.lookup t (.map (some g)) v false).run P w = .ok (.pointer (some ⟨b,0,none⟩)) w:=by
 have l:=h.good _ d;obtain⟨u,ps,f,a⟩:=h.own.lookup K j m (zd := .nil) (zp:=[]) rfl l.lit;rw[c] at a;rw[f,ptrR_block a]
theorem Vv.look_none{t e:Nat}(h:Vv P k w g r)(K:Keyed P k)(f:P.underlying t=some (.map k e))(j:(zeroValue e).run P w = .ok (.pointer none) w)(b:U4 P k v)(c:v∉r.map (·.1)):
 (Instr.lookup t (.map (some g)) v false).run P w = .ok (.pointer none) w:=by
 obtain⟨u,ps,d,a⟩:=h.own.lookup K f j (zd := .nil) (zp:=[]) rfl b.lit;rw[(Zu8 K b r h.good).2 c] at a;rw[d,ptrR_nil a]
theorem Vv.put{t e:Nat}(h:Vv P k w g r)(K:Keyed P k)(n:P.underlying t=some (.map k e))(j:Maps.size (Np P k r)<maxLen)(c:U4 P k v):
 ∃w',(Instr.mapUpdate t (.map (some g)) v (.pointer (some ⟨b,0,none⟩))).run P w = .ok () w'/\Vv P k w' g ((v,b)::r)/\w.grownBy w' (some g):=by
 obtain⟨w',m,l,f⟩:=h.own.update K n j c.lit (val := .pointer (some ⟨b,0,none⟩)) (d := .lit (.int .i64 (b:Int))) (ps:=[]) rfl;refine⟨w',m,⟨own_tight l,λp a=>?_⟩,f⟩;rcases BV.1 a with e | a
 ·rw[e];exact c
 exact h.good p a
theorem D7(w:World){a:Act}(l:o.guard=none)(m x y:Operand)(t:TypeId)(p:o.op=Op.mapUpdate t m x y)(e g b:Nat)(K:Keyed P k)(s:P.underlying t=some (.map k e))(h:Vv P k w g r)(n:Maps.size (Np P k r)<maxLen)(v:Value)(u:U4 P k v)(h1:a.eval m = .map (some g))(c:a.eval x=v)(d:a.eval y = .pointer (some ⟨b,0,none⟩))(f:∀w',Vv P k w' g ((v,b)::r)->w.grownBy w' (some g)->wpList P ops Q rest (a.put o.dst undef) w'):wpList P ops Q (o::rest) a w:=by
 refine wpList_plain l λB j=>?_;obtain⟨w',q,z,A⟩:=h.put (b:=b) K s n u;unfold Oper.wp;simp[execOp,p,h1,c,d,q,Result.andThen];exact j _ _ (f w' z A)
end
section
open Go.Maps (Keyed IsMap Tidy)
open Go.Maps (Keyed IsMap Tidy)
theorem Za.tail1{d:Nat}{a:List Int}(h:Za .i64 w (some ⟨b,d,none⟩) n c (s::a)):
 Za .i64 w (if c=1 then some ⟨b,d,none⟩ else some ⟨b,d+1,none⟩) (n-1) (c-1) a:=by
 have g:=h.len;have l:=h.cap;rw[AZ] at g;by_cases f:c=1
 ·rw[if_pos f];have j:a=[]:=BL AA;subst j;rw[show n-1=0 by omega];exact Za.nil _ _ _ _ AA
 rw[if_neg f];have:=h.part 1 (n-1) (c-1) AA AA AA;have e:((s::a).drop 1).take (n-1)=a:=by
  show a.take (n-1)=a;exact AR AA
 rw[e] at this;exact this
theorem H8.lt(h:H8 w b x):b<w.heap.size:=by
 obtain⟨A,n,c,d,h1,_⟩:=h;exact h1.lt
structure Zzo (w:World) (g:Nat) (G:Gr) (S:Nat->Prop) (ts:List ((Int × Nat) × Nat)):Prop where
 map:Vv Tryz.prog 247 w g (ts.map λp=>(kT p.1.1 p.1.2,p.2))
 key:∀p∈ts,p.1.1<0/\Zp p.1.1<100/\p.1.2<=100
 val:∀p∈ts,H8 w p.2 (Zv G p.1.1 p.1.2)/\¬S p.2
structure Zue (w:World) (g:Nat) (G:Gr) (S:Nat->Prop) (fs:List ((Nat × Nat × Nat) × Nat)):Prop where
 map:Vv Tryz.prog 251 w g (fs.map λp=>(kF p.1.1 p.1.2.1 p.1.2.2,p.2))
 key:∀p∈fs,p.1.1<=100/\p.1.2.1<=100/\p.1.2.2<=100
 val:∀p∈fs,∃x,G.rules[p.1.1]? = some x/\H8 w p.2 (Zx (Zv G) (x.right.drop p.1.2.1) p.1.2.2)/\¬S p.2
theorem Zzo.few{G:Gr}(h:Zzo w g G S ts):Maps.size (Np prog 247 (ts.map λp=>(kT p.1.1 p.1.2,p.2)))<maxLen:=by
 obtain⟨L,h1,n,o⟩:=F1 Tryz.keyKT _ h.map.good;have d:∀v∈L,∃p∈ts,v=kT p.1.1 p.1.2:=λv r=>by
  obtain⟨q,f,e⟩:=CV.1 (n v r);obtain⟨p,c,rfl⟩:=CV.1 f;exact⟨p,c,e.symm⟩
 have:=Gq codeT 1000000 h1 (λx j y s e=>by
  obtain⟨p,c,rfl⟩:=d x j;obtain⟨q,f,rfl⟩:=d y s;have a:=h.key p c;have b:=h.key q f;rw[Zx1,Zx1] at e;unfold Zp at e a b;have l:p.1.1=q.1.1:=AA
  have m:p.1.2=q.1.2:=AA
  rw[l,m]) (λx j=>by
  obtain⟨p,c,rfl⟩:=d x j;have a:=h.key p c;rw[Zx1];omega)
 rw[o];unfold maxLen;omega
theorem Zue.few{G:Gr}(h:Zue w g G S d):Maps.size (Np prog 251 (d.map λp=>(kF p.1.1 p.1.2.1 p.1.2.2,p.2)))<maxLen:=by
 obtain⟨L,h1,r,s⟩:=F1 Tryz.keyKF _ h.map.good;have f:∀v∈L,∃p∈d,v=kF p.1.1 p.1.2.1 p.1.2.2:=λv t=>by
  obtain⟨q,j,e⟩:=CV.1 (r v t);obtain⟨p,c,rfl⟩:=CV.1 j;exact⟨p,c,e.symm⟩
 have:=Gq codeF 1000000000 h1 (λx l y u e=>by
  obtain⟨p,c,rfl⟩:=f x l;obtain⟨q,j,rfl⟩:=f y u;have a:=h.key p c;have b:=h.key q j;rw[Zy2,Zy2] at e;have m:p.1.1=q.1.1:=AA
  have n:p.1.2.1=q.1.2.1:=AA
  have o:p.1.2.2=q.1.2.2:=AA
  rw[m,n,o]) (λx l=>by
  obtain⟨p,c,rfl⟩:=f x l;have a:=h.key p c;rw[Zy2];omega)
 rw[s];unfold maxLen;omega
structure Yo (W0:World) (k:CH) (h:GH) (G:Gr) (S:Nat->Prop) (w:World):Prop where
 base:Below W0.heap.size W0 w
 box:Blk w k.c 141 #[.slice h.a1 h.n1 h.c1,.slice h.a2 h.n2 h.c2,.slice h.a3 h.n3 h.c3,.int .i64 G.start,.slice (some ⟨k.n,0,none⟩) h.n2 h.n2,.map (some k.t),.map (some k.f)]
 nul:Z8 w k.n (Zj G)
 low:W0.heap.size<=k.t/\W0.heap.size<=k.f
 ne:k.t≠k.f
 trees:∃ts,Zzo w k.t G S ts
 forts:∃fs,Zue w k.f G S fs
theorem Yo.maps_noInt{k:CH}{G:Gr}(C:Yo a k h G S w):∀g,k.maps g->Qf w g:=by
 obtain⟨ts,c⟩:=C.trees;obtain⟨d,b⟩:=C.forts;rintro g (rfl | rfl)
 ·exact c.map.noInt
 exact b.map.noInt
theorem Yo.keep{k:CH}{G:Gr}(C:Yo a k h G S w)(b:Off k.maps w w'):Zf w w':=Zf.of_off b C.maps_noInt
theorem Yo.not_map{b:World}{k:CH}{G:Gr}(C:Yo b k h G S w)(a:Blk w g t cs):¬k.maps g:=by
 obtain⟨ts,d⟩:=C.trees;obtain⟨f,c⟩:=C.forts;rintro (e | e)
 ·exact d.map.ne_blk a e
 exact c.map.ne_blk a e
theorem Yo.map_lt{k:CH}{G:Gr}(C:Yo a k h G S w):k.t<w.heap.size/\k.f<w.heap.size:=by
 obtain⟨ts,c⟩:=C.trees;obtain⟨d,b⟩:=C.forts;exact⟨c.map.lt,b.map.lt⟩
theorem Yo.move{l:World}{k:CH}{G:Gr}{P:Nat->Prop}(C:Yo l k h G S w)(d:Off P w w')(o:Zf w w')(h1:∀b,P b->S b/\l.heap.size<=b/\b≠k.c/\b≠k.n/\b≠k.t/\b≠k.f):Yo l k h G S w':=by
 obtain⟨v,y⟩:=C.map_lt;refine⟨C.base.trans (d.is_below C.base.size λb j=>(h1 b j).2.1),d.blk C.box λa=>(h1 _ a).2.2.1 rfl,d.blk C.nul λa=>(h1 _ a).2.2.2.1 rfl,C.low,C.ne,?_,?_⟩
 ·obtain⟨ts,g⟩:=C.trees;exact⟨ts,g.map.block (d.keep _ v λa=>(h1 _ a).2.2.2.2.1 rfl),g.key,λp a=>⟨(g.val p a).1.kept o (d.keep _ (g.val p a).1.lt λj=>(g.val p a).2 (h1 _ j).1),(g.val p a).2⟩⟩
 obtain⟨s,m⟩:=C.forts;refine⟨s,m.map.block (d.keep _ y λa=>(h1 _ a).2.2.2.2.2 rfl),m.key,λp a=>?_⟩;obtain⟨x,u,r,q⟩:=m.val p a;exact⟨x,u,r.kept o (d.keep _ r.lt λj=>q (h1 _ j).1),q⟩
theorem Yo.less{f:World}{k:CH}{G:Gr}(C:Yo f k h G S w)(g:∀b,S' b->S b):Yo f k h G S' w:=by
 refine⟨C.base,C.box,C.nul,C.low,C.ne,?_,?_⟩
 ·obtain⟨ts,c⟩:=C.trees;exact⟨ts,c.map,c.key,λp a=>⟨(c.val p a).1,λh1=>(c.val p a).2 (g _ h1)⟩⟩
 obtain⟨j,d⟩:=C.forts;refine⟨j,d.map,d.key,λp a=>?_⟩;obtain⟨x,n,m,h1⟩:=d.val p a;exact⟨x,n,m,λl=>h1 (g _ l)⟩
theorem Yo.store{d:World}{k:CH}{G:Gr}(C:Yo d k h G S w){o:Option Addr}{ns cs:Nat}{p:Bool}(a:Blk w g 77 #[.slice o ns cs,.bool p])(r:S g)(s:d.heap.size<=g)(A:Option Addr)(n c:Nat)(b:Bool):
 Yo d k h G S ((w.setCell ⟨g,0,none⟩ (.slice A n c)).setCell ⟨g,1,none⟩ (.bool b))/\Off (λq=>q=g) w ((w.setCell ⟨g,0,none⟩ (.slice A n c)).setCell ⟨g,1,none⟩ (.bool b))/\Zf w ((w.setCell ⟨g,0,none⟩ (.slice A n c)).setCell ⟨g,1,none⟩ (.bool b)) /\
  Blk ((w.setCell ⟨g,0,none⟩ (.slice A n c)).setCell ⟨g,1,none⟩ (.bool b)) g 77 #[.slice A n c,.bool b]:=by
 have f:Off (λq=>q=g) w ((w.setCell ⟨g,0,none⟩ (.slice A n c)).setCell ⟨g,1,none⟩ (.bool b)):=(Off.of_set w g 0 (.slice A n c)).trans (Off.of_set _ g 1 (.bool b)) λ_ _ h=>h;have l:Zf w ((w.setCell ⟨g,0,none⟩ (.slice A n c)).setCell ⟨g,1,none⟩ (.bool b)):=Zf.of_off f λq j=>by rw[j];exact Jk a
 have m:=C.not_map a;refine⟨C.move f l λq j=>?_,f,l,(a.set 0 _).set 1 _⟩;subst j;refine⟨r,s,?_,?_,λe=>m (.inl e),λe=>m (.inr e)⟩
 ·rintro rfl;have h1:=C.box;unfold Blk at h1 a;rw[h1] at a;injection a with a;injection a with _ h3 _;exact absurd h3 AC
 rintro rfl;have h1:=C.nul;unfold Z8 Blk at h1;unfold Blk at a;rw[h1] at a;injection a with a;injection a with _ h3 _;exact absurd h3 AC
theorem Yo.putT{v:World}{k:CH}{G:Gr}(C:Yo v k h G S w)(j:Zzo w k.t G S ts)(H:s<0)(I:Zp s<100)(u:n<=100)(l:H8 w g (Zv G s n))(D:¬S g)(a:Vv prog 247 w' k.t ((kT s n,g)::ts.map λp=>(kT p.1.1 p.1.2,p.2)))(E:w.grownBy w' (some k.t)):Yo v k h G S w'/\Off k.maps w w':=by
 have b:Off (λq=>some k.t=some q) w w':=Off.of_grown E;have F:Zf w w':=Zf.of_off b λq f=>by injection f with f;rw[<-f];exact j.map.noInt
 have o:∀{q:Nat} {t:TypeId} {cs:Array Value},Blk w q t cs->Blk w' q t cs:=λy=>b.blk y λe=>by injection e with e;exact j.map.ne_blk y e.symm
 have r:∀{q x:Nat},H8 w q x->H8 w' q x:=λ{q x} l=>by
  obtain⟨A,n,c,d,h1,B⟩:=l;exact⟨A,n,c,d,o h1,B.kept F⟩
 refine⟨⟨C.base.trans (b.is_below C.base.size λq f=>by injection f with f;rw[<-f];exact C.low.1),o C.box,o C.nul,C.low,C.ne,⟨((s,n),g)::ts,by simpa using a,λp a=>?_,λp a=>?_⟩,?_⟩,⟨b.os,b.tape,b.output,b.size,λq f u=>b.keep q f λe=>u (by injection e with e;exact .inl e.symm)⟩⟩
 ·rcases BV.1 a with e | a
  ·rw[e];exact⟨H,I,u⟩
  exact j.key p a
 ·rcases BV.1 a with e | a
  ·rw[e];exact⟨r l,D⟩
  exact⟨r (j.val p a).1,(j.val p a).2⟩
 obtain⟨z,m⟩:=C.forts;refine⟨z,m.map.block (b.keep _ m.map.lt λe=>by injection e with e;exact C.ne e),m.key,λp a=>?_⟩;obtain⟨x,J,l,h1⟩:=m.val p a;exact⟨x,J,r l,h1⟩
theorem Yo.putF{z:World}{k:CH}{G:Gr}(C:Yo z k h G S w){r:List ((Nat × Nat × Nat) × Nat)}(o:Zue w k.f G S r){d:Nat}{x:Rul}(I:G.rules[i]? = some x)(hi:i<=100)(hd:d<=100)(v:n<=100)(m:H8 w g (Zx (Zv G) (x.right.drop d) n))(E:¬S g)(a:Vv prog 251 w' k.f ((kF i d n,g)::r.map λp=>(kF p.1.1 p.1.2.1 p.1.2.2,p.2)))(F:w.grownBy w' (some k.f)):Yo z k h G S w'/\Off k.maps w w':=by
 have b:Off (λq=>some k.f=some q) w w':=Off.of_grown F;have H:Zf w w':=Zf.of_off b λq j=>by injection j with j;rw[<-j];exact o.map.noInt
 have s:∀{q:Nat} {t:TypeId} {cs:Array Value},Blk w q t cs->Blk w' q t cs:=λB=>b.blk B λe=>by injection e with e;exact o.map.ne_blk B e.symm
 have u:∀{q x:Nat},H8 w q x->H8 w' q x:=λ{q x} m=>by
  obtain⟨A,n,c,d,h1,D⟩:=m;exact⟨A,n,c,d,s h1,D.kept H⟩
 refine⟨⟨C.base.trans (b.is_below C.base.size λq j=>by injection j with j;rw[<-j];exact C.low.2),s C.box,s C.nul,C.low,C.ne,?_,⟨((i,d,n),g)::r,by simpa using a,λp a=>?_,λp a=>?_⟩⟩,⟨b.os,b.tape,b.output,b.size,λq j v=>b.keep q j λe=>v (by injection e with e;exact .inr e.symm)⟩⟩
 ·obtain⟨ts,l⟩:=C.trees;exact⟨ts,l.map.block (b.keep _ l.map.lt λe=>by injection e with e;exact C.ne e.symm),l.key,λp a=>⟨u (l.val p a).1,(l.val p a).2⟩⟩
 ·rcases BV.1 a with e | a
  ·rw[e];exact⟨hi,hd,v⟩
  exact o.key p a
 rcases BV.1 a with e | a
 ·rw[e];exact⟨x,I,u m,E⟩
 obtain⟨y,J,m,h1⟩:=o.val p a;exact⟨y,J,u m,h1⟩
end
def CRet(a:World)(k:CH)(h:GH)(G:Gr)(S:Nat->Prop)(w:World)(x:Nat)(e:Ending)(w':World):Prop :=
 Yo a k h G S w'/\Off k.maps w w'/\∃A n c d,e = .returned (.agg #[.slice A n c,.bool d])/\Z1 w' A n c d x
def Zw5(a:World)(k:CH)(h:GH)(G:Gr)(s:Int)(n:Nat):Prop:=∀(S:Nat->Prop) (w:World),Yo a k h G S w->(∀b,S b->b<w.heap.size)->
 Calls Tryz.prog 155 #[.pointer (some ⟨k.c,0,none⟩),.int .i64 s,.int .i64 (n:Int)] w (CRet a k h G S w (Zv G s n))
def RuleC(a:World)(k:CH)(h:GH)(G:Gr)(x:Rul)(i d n:Nat):Prop:=∀(S:Nat->Prop) (w:World),Yo a k h G S w->(∀b,S b->b<w.heap.size)->
 Calls Tryz.prog 201 #[.pointer (some ⟨k.c,0,none⟩),kF i d n] w (CRet a k h G S w (Zx (Zv G) (x.right.drop d) n))
def OthC(a:World)(k:CH)(h:GH)(G:Gr)(c:World)(gf:FuncId)(d:Array Value)(m x:Nat):Prop:=∀(S:Nat->Prop) (w:World),Yo a k h G S w->(∀b,S b->b<w.heap.size)->Off k.maps c w->
 Calls Tryz.prog gf (#[.int .i64 (m:Int)]++d) w (CRet a k h G S w x)
def MidC(a:World)(k:CH)(h:GH)(G:Gr)(S:Nat->Prop)(b X:World):Prop:=Yo a k h G S X/\Off k.maps b X
theorem Yo.apart{d:World}{k:CH}{G:Gr}(C:Yo d k h G S w)(a:Blk w g 77 cs):g≠k.c/\g≠k.n/\g≠k.t/\g≠k.f:=by
 have b:=C.not_map a;refine⟨?_,?_,λe=>b (.inl e),λe=>b (.inr e)⟩
 ·rintro rfl;have h1:=C.box;unfold Blk at h1 a;rw[h1] at a;injection a with a;injection a with _ h3 _;exact absurd h3 AC
 rintro rfl;have h1:=C.nul;unfold Z8 Blk at h1;unfold Blk at a;rw[h1] at a;injection a with a;injection a with _ h3 _;exact absurd h3 AC
theorem Yo.store0{k:CH}{G:Gr}(C:Yo a k h G S w){m:Option Addr}{ns cs:Nat}{j:Bool}(b:Blk w g 77 #[.slice m ns cs,.bool j])(o:S g)(p:a.heap.size<=g)(A:Option Addr)(n c:Nat):
 Yo a k h G S (w.setCell ⟨g,0,none⟩ (.slice A n c))/\Off (λq=>q=g) w (w.setCell ⟨g,0,none⟩ (.slice A n c))/\Zf w (w.setCell ⟨g,0,none⟩ (.slice A n c))/\Blk (w.setCell ⟨g,0,none⟩ (.slice A n c)) g 77 #[.slice A n c,.bool j]:=by
 have d:=Off.of_set w g 0 (.slice A n c);have l:Zf w (w.setCell ⟨g,0,none⟩ (.slice A n c)):=Zf.of_off d λq f=>by rw[f];exact Jk b
 refine⟨C.move d l λq f=>?_,d,l,b.set 0 _⟩;subst f;exact⟨o,p,C.apart b⟩
theorem Zu1{d:World}{k:CH}{G:Gr}(C:Yo a k h G S w){b:Bool}(r:Blk w g 77 #[.slice A n c,.bool b])(p:Z1 w A n c b x)(m:Off k.maps d w)(o:S g)(t:a.heap.size<=g)(s:d.heap.size<=g)(u:∀q,S' q->S q):
 Blk ((w.setCell ⟨g,0,none⟩ (.slice A n c)).setCell ⟨g,1,none⟩ (.bool b)) g 77 #[.slice A n c,.bool b] /\
  CRet a k h G S' d x (.returned (.agg #[.slice A n c,.bool b])) ((w.setCell ⟨g,0,none⟩ (.slice A n c)).setCell ⟨g,1,none⟩ (.bool b)):=by
 obtain⟨h1,f,j,l⟩:=C.store r o t A n c b;exact⟨l,h1.less u,m.maps_new f s,A,n,c,b,rfl,p.kept j⟩
theorem Uw{d:World}{k:CH}{G:Gr}(C:Yo a k h G S w){A0:Option Addr}{n0 c0:Nat}{b0 b:Bool}(r:Blk w g 77 #[.slice A0 n0 c0,.bool b0])(p:Z1 w A n c b x)(m:Off k.maps d w)(o:S g)(t:a.heap.size<=g)(s:d.heap.size<=g)(u:∀q,S' q->S q):
 Blk ((w.setCell ⟨g,0,none⟩ (.slice A n c)).setCell ⟨g,1,none⟩ (.bool b)) g 77 #[.slice A n c,.bool b] /\
  CRet a k h G S' d x (.returned (.agg #[.slice A n c,.bool b])) ((w.setCell ⟨g,0,none⟩ (.slice A n c)).setCell ⟨g,1,none⟩ (.bool b)):=by
 obtain⟨h1,f,j,l⟩:=C.store r o t A n c b;exact⟨l,h1.less u,m.maps_new f s,A,n,c,b,rfl,p.kept j⟩
def ForC(a:World)(k:CH)(h:GH)(G:Gr)(Al:Option Addr)(n0 d:Nat)(l:List Int)(n:Nat):Prop:=∀(S:Nat->Prop) (w:World),Yo a k h G S w->(∀b,S b->b<w.heap.size)->
 Calls Tryz.prog 50 #[.pointer (some ⟨k.c,0,none⟩),.slice Al n0 d,.int .i64 (n:Int)] w (CRet a k h G S w (Zx (Zv G) l n))
def RetStart(h:GH)(G:Gr)(w:World)(e:Ending)(w':World):Prop:=Below w.heap.size w w'/\∃k:CH,e = .returned (.pointer (some ⟨k.c,0,none⟩))/\Yo w k h G (λ_=>False) w'
theorem cnt_new{b:World}{k:CH}{G:Gr}(q:Below b b w)(h1:Blk w k.c 141 #[.slice h.a1 h.n1 h.c1,.slice h.a2 h.n2 h.c2,.slice h.a3 h.n3 h.c3,.int .i64 G.start,.slice (some ⟨k.n,0,none⟩) h.n2 h.n2,.map (some k.t),.map (some k.f)])(d:Z8 w k.n (Zj G))(g:Vv prog 247 w k.t [])(j:Vv prog 251 w k.f [])(l:k.t≠k.f)(m:b.heap.size<=k.t)(o:b.heap.size<=k.f):Yo b k h G (λ_=>False) w :=
 ⟨q,h1,d,⟨m,o⟩,l,⟨[],⟨g,λp a=>(by cases a),λp a=>(by cases a)⟩⟩,⟨[],⟨j,λp a=>(by cases a),λp a=>(by cases a)⟩⟩⟩
theorem Jc.apart{N:Nat}{b:List Nat}(h:Jc w B A n c N b tab)(f:b[m]? = some g):(Value.slice A n c).ownBlock≠some g:=by
 intro d;obtain⟨cs,k,h1⟩:=Mg h.own d;obtain⟨j,a,_⟩:=(h.row m g f).2;unfold Blk at a;rw[h1] at a;injection a with a;injection a with _ h3 _;exact absurd h3 AC
theorem Jc.put{N:Nat}{s:List Nat}(h:Jc w B A n c N s tab)(l:s[m]? = some g)(hi:i<N){a:Option Addr}{n1 c1:Nat}{d:Bool}(J:Z1 w a n1 c1 d x):
 Jc ((w.setCell ⟨g,i*2,none⟩ (.slice a n1 c1)).setCell ⟨g,i*2+1,none⟩ (.bool d)) B A n c N s (U6 tab m i x)/\Off (λk=>k=g) w ((w.setCell ⟨g,i*2,none⟩ (.slice a n1 c1)).setCell ⟨g,i*2+1,none⟩ (.bool d)):=by
 have p:Off (λk=>k=g) w ((w.setCell ⟨g,i*2,none⟩ (.slice a n1 c1)).setCell ⟨g,i*2+1,none⟩ (.bool d)):=(Off.of_set w g (i*2) (.slice a n1 c1)).trans (Off.of_set _ g (i*2+1) (.bool d)) λ_ _ h=>h;have C:=h.apart l;obtain⟨y,H⟩:=h.row m g l;obtain⟨I,F⟩:=H.put (j:=i) (by simpa using hi) J;have h1:∀b,(Value.slice A n c).ownBlock=some b->¬b=g:=λb D e=>C (by rw[D,e]);refine⟨⟨p.row h.own h1,λq u=>(h.noInt q u).same (p.keep q (h.own.lt q u).2 (h1 q u)),h.nodup,λr f o=>?_⟩,p⟩;by_cases t:r=m
 ·subst t;obtain rfl:g=f:=by rw[l] at o;exact BI o
  exact⟨y,by rw[<-tab_set hi];exact I⟩
 have G:f≠g:=nodup_ne h.nodup l o t;obtain⟨z,v⟩:=h.row r f o;have e:(List.range N).map (U6 tab m i x r)=(List.range N).map (tab r):=List.map_congr_left λj _=>by unfold U6;rw[if_neg λE=>t E.1]
 rw[e];exact⟨z,v.kept F (p.keep f v.lt G)⟩
section
variable {P:Program} {M:World->Prop} {R:World->World->Prop}
def Zk(P:Program)(M:World->Prop)(R:World->World->Prop)(F:(Nat->Value)->Act)(D:Nat->Value->World->Prop):Nat->List Oper->Prop
 | _,[]=>True
 | i,o::rest=>(o.guard=none/\(∀u v,(F u).put o.dst v=F (upd u i v))/\∀(Q:Exit->Act->World->Prop) (u:Nat->Value) (X:World),M X->(∀p,onB o p=true->D p (u p) X)->
    ∀K:Act->World->Prop,(∀v a,M a->R X a->D i v a->K ((F u).put o.dst v) a)->o.wp P (F u) X K Q)/\Zk P M R F D (i+1) rest
theorem Zk.nil:Zk P M R F D i []:=trivial
theorem Zk.cons(b:o.guard=none)(c:∀u v,(F u).put o.dst v=F (upd u i v))(h:∀(Q:Exit->Act->World->Prop) (u:Nat->Value) (X:World),M X->(∀p,onB o p=true->D p (u p) X)->∀K:Act->World->Prop,(∀v a,M a->R X a->D i v a->K ((F u).put o.dst v) a)->o.wp P (F u) X K Q)(t:Zk P M R F D (i+1) rest):Zk P M R F D i (o::rest):=⟨⟨b,c,h⟩,t⟩
theorem Zk.con(h:∀(Q:Exit->Act->World->Prop) (u:Nat->Value) (X:World),M X->(∀p,onB o p=true->D p (u p) X)->∀K:Act->World->Prop,(∀v a,M a->R X a->D i v a->K ((F u).put o.dst v) a)->o.wp P (F u) X K Q)(t:Zk P M R F D (i+1) rest)(b:o.guard=none:=by rfl)(c:∀u v,(F u).put o.dst v=F (upd u i v):=by exact λ_ _=>rfl):Zk P M R F D i (o::rest):=Zk.cons b c h t
theorem Zk.steps{l:List Oper}(y:∀i v X g,D i v X->R X g->D i v g)(k:Zti l n=true)(N:n<=l.length):
 ∀(m:List Oper) (i:Nat),(∀j,j<m.length->m[j]? = l[i+j]?)->i+m.length=n->Zk P M R F D i m->∀rest,Xc P (JF l n M F D fin) n rest->Xc P (JF l n M F D fin) i (m++rest)
 | [],i,_,hl,_,rest,hr=>by
   have:i=n:=by simpa using hl
   subst this;exact hr
 | o::m,i,hm,hl,hs,rest,hr=>by
   have I:i<n:=by simp only[AZ] at hl;omega
   have O:l[i]? = some o:=by simpa using (hm 0 AE).symm
   refine Xc.cons hs.1.1 (λQ listed a X C T S K E=>?_) (Zk.steps y k N m (i+1) (λj b=>by have:=hm (j+1) AG;simpa [Ea,Eo 1 j] using this) (by simp only[AZ] at hl;omega) hs.2 rest hr);obtain⟨u,rfl,B,z,hd,V,Y⟩:=C;obtain⟨r,H⟩:=Zu4 T;have f:listed.getD n false=false:=by
    cases x:listed.getD n false with
    | false=>rfl
    | true =>
      unfold Zti at k;rw[BX,BB] at k;rcases k with h | h
      ·subst h;rw[<-B] at x;simp[Array.getD] at x
      have:=D9 z _ _ _ (BG.1 h i (BP.2 I)) x;rw[H] at this;cases this
   have t:∀p,onB o p=true->listed.getD p false=true:=λp c=>by
    obtain⟨e,G,q,rfl⟩:=Zyf.1 c;exact S e G q
   refine hs.1.2.2 Q u X (V f) (λp c=>hd p (λh=>by subst h;have:=t p c;rw[f] at this;cases this) (t p c) f) K λv g L q U=>?_;refine E _ _ ⟨upd u i v,hs.1.2.1 u v,by simpa using B,λj W s b p c=>?_,λj J b _=>?_,λ_=>L,λh=>?_⟩
   ·rw[Uj r] at b ⊢;by_cases A:p=i
    ·rw[if_pos A]
    rw[if_neg A];by_cases d:j=i
    ·subst d;rw[O] at s;obtain rfl:=BI s;exact t p c
    rw[if_neg d] at b;exact z j W s b p c
   ·rw[Uj r] at b;unfold upd;by_cases d:j=i
    ·subst d;rw[if_pos rfl];exact U
    rw[if_neg d] at b ⊢;exact y j _ X g (hd j J b f) q
   rw[Uj r,if_neg AA,f] at h;cases h
end
theorem D6{W:World}{d:List Int}(h:Za .i64 W A n c d)(hi:i<=n):∃At:Option Addr,
 (∀w:World,(Instr.sliceAt 27 (.slice A n c) (some (.int .i64 (i:Int))) none none).run prog w = .ok (.slice At (n-i) (c-i)) w)/\Za .i64 W At (n-i) (c-i) (d.drop i):=by
 have g:=h.len;have r:=h.cap;rcases DJ n with rfl | l
 ·obtain rfl:i=0:=AA
  have m:d=[]:=BL g;subst m;refine⟨A,λw=>?_,Za.nil _ _ _ _ AA⟩;rcases A with _ | a
  ·go_simp
  by_cases p:c=0
  ·go_simp
  have q:¬((c:Int)<0):=AA
  go_simp
 obtain⟨b,k,s,rfl,o,_,_⟩:=h.get (j:=0) l;refine⟨if c=i then some ⟨b,k,none⟩ else some ⟨b,k+i,none⟩,λw=>?_,?_⟩
 ·have t:¬((n:Int)<(i:Int)):=AA
  go_simp
 by_cases f:c=i
 ·rw[if_pos f];obtain rfl:i=n:=AA
  rw[Nat.sub_self,<-g,List.drop_length];exact Za.nil _ _ _ _ AA
 rw[if_neg f];have:=h.part i (n-i) (c-i) AA AA AA;rwa [AR (by rw[DQ];omega)] at this
theorem Gv(xs b:List Nat)(i:Nat):Lim (Xn xs b i).1:=by
 induction i with
 | zero=>exact Lim.nil
 | succ i a=>exact a.append (Lim.mk (Nat.mod_lt _ AC) Lim.nil)
theorem Zup(xs l:List Nat)(g:Lim xs)(b:Lim l)(i:Nat)(h1:xs.length<=i)(a:l.length<=i):
 (Xn xs l i).2=if val xs<val l then 1 else 0:=by
 have h:=Zt3 xs l g b i h1 a;have j:=Qi xs l i;have f:=Ui _ (Gv xs l i);rw[Mj] at f;have k:val l<4294967296 ^ i:=AK (Ui l b) (DA AC a);generalize (Xn xs l i).2=c at *;generalize (4294967296:Nat) ^ i=B at *;have d:c=0\/c=1:=AA
 rcases d with rfl | rfl
 ·rw[if_neg AA]
 rw[if_pos AA]
theorem Zyj(xs f:List Nat)(b:Lim xs)(c:Lim f)(i:Nat)(h1:xs.length<=i)(a:f.length<=i)(h:val f<=val xs):
 val (Xn xs f i).1=val xs-val f:=by
 have d:=Zt3 xs f b c i h1 a;rw[Zup xs f b c i h1 a,if_neg AA] at d;omega
theorem twP_lim(xs:List Nat)(b k:Nat):Lim (twP xs b k).1:=by
 induction k with
 | zero=>exact Lim.nil
 | succ k a=>exact a.append (Lim.mk (Nat.mod_lt _ AC) Lim.nil)
section
open Ieee
theorem Wr.lt{w0:World}{f:Int}{b a:Option Addr}{d:Nat}{g:WSt}(k:Wr w0 w p h f Ar cr b d a c g):p<w.heap.size:=k.blk.lt
theorem Za.tail{a:Nat}{f:List Int}(h:Za .i64 w (some ⟨b,a,none⟩) n c f)(i:Nat)(hi:i<=n):
 Za .i64 w (if c=i then some ⟨b,a,none⟩ else some ⟨b,a+i,none⟩) (n-i) (c-i) (f.drop i):=by
 have g:=h.len;have j:=h.cap;by_cases d:c=i
 ·rw[if_pos d];obtain rfl:i=n:=AA
  rw[Nat.sub_self,<-g,List.drop_length];exact Za.nil _ _ _ _ AA
 rw[if_neg d];have:=h.part i (n-i) (c-i) AA AA AA;rwa [AR (by rw[DQ];omega)] at this
theorem symsP_sound{G:Gr}(u:∀a non b n,f a non=some (b,n)->Stp G a non b n):
 ∀(ss:List Int) (a:WSt) (top:Nat) (b:WSt) (n:Nat),Wt f ss a top=some (b,n)->
  ∃ps c wd m,Fs G ss ps c wd m/\n=max top m/\a.rest=ps++b.rest/\b.word=a.word++wd/\b.posts=a.posts++c:=by
 intro ss
 induction ss with
 | nil =>
   intro a top b n h;simp only[Wt,BR,DM] at h;obtain⟨rfl,rfl⟩:=h;exact⟨[],[],[],0,.nil,AA,AE,AE,AE⟩
 | cons s ss l =>
   intro a top b n h;unfold Wt at h;split at h
   ·rename_i h0;obtain⟨ps,c,wd,m,h1,k,d,g,j⟩:=l _ _ _ _ h;exact⟨ps,c,s::wd,m,.term h0 h1,k,d,by rw[g];simp,j⟩
   rename_i h0;split at h
   ·cases h
   rename_i A n1 t;obtain⟨i,r,y,z,w1,x,a1,a2,a3,v,o,p,q⟩:=u _ _ _ _ t;obtain⟨ps,c,wd,m,h1,k,d,g,j⟩:=l _ _ _ _ h;exact⟨_,_,_,_,.non AA a1 a2 a3 h1,AA,by rw[o,d];simp,by rw[g,p];simp,by rw[j,q];simp⟩
theorem Zz3{G:Gr}:∀(q:Nat) (a:WSt) (non:Int) (b:WSt) (n:Nat),Y0 G q a non=some (b,n)->Stp G a non b n:=by
 intro q
 induction q with
 | zero=>intro a non b n h;cases h
 | succ q l =>
   intro a non b n h;unfold Y0 at h;split at h
   ·cases h
   rename_i i rest k;split at h
   ·cases h
   rename_i r hi;split at h
   ·rename_i j;cases c:Wt (Y0 G q) r.right { a with rest:=rest } 0 with
    | none=>rw[c] at h;cases h
    | some x =>
      obtain⟨s,t⟩:=x;rw[c] at h;simp only[Ek,BR,DM] at h;obtain⟨rfl,rfl⟩:=h;obtain⟨ps,o,wd,m,h1,p,d,f,g⟩:=symsP_sound (λa non b n=>l a non b n) _ _ _ _ _ c;exact⟨i,r,ps,o,wd,m,hi,j,h1,AA,by rw[k];simp only[] at d;rw[d],f,by simp only[g,DO]⟩
   cases h
end
section
open Go.Maps (Keyed IsMap Tidy)
theorem kB_inj{b:List Int}(d:Zwx l)(f:Zwx b)(h:kB l n=kB b g):l=b/\n=g:=by
 unfold kB at h;simp only[Value.agg.injEq,Array.mk.injEq,List.cons.injEq,Value.string.injEq,Value.int.injEq,true_and,and_true] at h;have h1:=congrArg Zh h.1;rw[Vd _ λc a=>by have:=Dy d c a;omega,Vd _ λc a=>by have:=Dy f c a;omega] at h1;exact⟨Zwi d f h1,AA⟩
theorem Fx.lt(h:Fx w b x):b<w.heap.size:=by
 obtain⟨A,n,c,d,h1,_⟩:=h;exact h1.lt
structure Gk (w:World) (g:Nat) (G:Gr) (S:Nat->Prop) (ts:List ((List Int × Nat) × Nat)):Prop where
 map:Vv Tryz.prog 223 w g (ts.map λp=>(kB p.1.1 p.1.2,p.2))
 key:∀p∈ts,J1 p.1.1 p.1.2
 val:∀p∈ts,Fx w p.2 (Zx (Zv G) p.1.1 p.1.2)/\¬S p.2
theorem Gk.few{G:Gr}{ts:List ((List Int × Nat) × Nat)}(h:Gk w g G S ts):Maps.size (Np prog 223 (ts.map λp=>(kB p.1.1 p.1.2,p.2)))<maxLen:=by
 obtain⟨L,h1,j,r⟩:=F1 Tryz.keyKB _ h.map.good;have k:∀v∈L,∃p∈ts,v=kB p.1.1 p.1.2:=λv z=>by
  obtain⟨q,m,e⟩:=CV.1 (j v z);obtain⟨p,f,rfl⟩:=CV.1 m;exact⟨p,f,e.symm⟩
 have:=Gq codeB 100000000000000 h1 (λx o y A e=>by
  obtain⟨p,f,rfl⟩:=k x o;obtain⟨q,m,rfl⟩:=k y A;have a:=h.key p f;have b:=h.key q m;rw[Zx6 a.sym,Zx6 b.sym] at e;have B:=a.n;have C:=b.n;have s:Ds (Vr p.1.1)=Ds (Vr q.1.1):=AA
  have t:p.1.2=q.1.2:=AA
  have u:=Zwi a.sym b.sym (Zsb (λc d=>by have:=Dy a.sym c d;omega) (λc d=>by have:=Dy b.sym c d;omega) s);rw[u,t]) (λx o=>by
  obtain⟨p,f,rfl⟩:=k x o;have a:=h.key p f;rw[Zx6 a.sym];have h1:=encT_lt (l:=Vr p.1.1) λc d=>by have:=Dy a.sym c d;omega
  have j:(Vr p.1.1).length<=6:=by unfold Vr;rw[BF];exact a.len
  have r:64 ^ (Vr p.1.1).length<=64 ^ 6:=DA AA j;have D:=a.n;have E:64 ^ 6=68719476736:=AC
  omega)
 rw[r];unfold maxLen;omega
end
section
open Go.Maps (Keyed IsMap Tidy)
open Go.Maps (Keyed IsMap Tidy)
theorem Cel.lt{f:Nat}{X:World}{j:Bool}{l:Value}(h:Cel S f X (.pointer (some ⟨g,0,none⟩)) j l):g<X.heap.size:=by
 obtain⟨m,A,n,c,d,e,h1,o,a,p⟩:=h;injection e with e;injection e with e;injection e with e _ _;subst e;exact a.lt
end
theorem InG.tail{G:Gr}(h:InG G (s::l)):InG G l:=λq a=>h q (BN _ a)
theorem Zv9{G:Gr}:∀{t u:List Nat},(∀i∈t,i<(ksN G G.rules.length).length)->(∀i∈u,i<(ksN G G.rules.length).length)->t.map (Yr G)=u.map (Yr G)->t=u
 | [],[],_,_,_=>rfl
 | [],_::_,_,_,h=>by cases h
 | _::_,[],_,_,h=>by cases h
 | i::t,j::u,ht,hu,h=>by
   rw[CJ,CJ] at h;injection h with h1 h2;rw[Zzr (ht i (AX ..)) (hu j (AX ..)) h1,Zv9 (λi hi=>ht i (.tail _ hi)) (λi hi=>hu i (.tail _ hi)) h2]
section
open Go.Shelf
def Du(G:Gr)(u:List Nat)(j:Nat):List Int:=(u.take j++(u.drop j).map (Yr G)).map λi:Nat=>(i:Int)
theorem rowK_at{G:Gr}(h:u[j]? = some x):(Du G u j)[j]? = some ((Yr G x:Nat):Int):=by
 obtain⟨a,rfl⟩:=AO.1 h;unfold Du;rw[By,BW AG];simp[Nat.min_eq_left (DN a)];exact⟨_,h,rfl⟩
theorem rowK_set{G:Gr}(h:u[j]? = some x):(Du G u j).set j (x:Int)=Du G u (j+1):=by
 have h1:=Ya h;obtain⟨a,rfl⟩:=AO.1 h;unfold Du;rw[h1,DV a];simp only[DF,CJ,List.map_nil,DO,DT,DD];have b:((u.take j).map λi:Nat=>(i:Int)).length=j:=by
  rw[BF,BY];omega
 rw[List.set_append_right _ _ AA,b,Nat.sub_self];rfl
theorem idx_kept{G:Gr}(h:i<(ksN G G.rules.length).length):Lib.idxOf (Z6 (ksN G G.rules.length)) ((Yr G i:Nat):Int)=(i:Int):=by
 have b:∀j,j<(ksN G G.rules.length).length->(Z6 (ksN G G.rules.length)).getD j 0=((Yr G j:Nat):Int):=λj a=>by
  unfold Z6 Yr;rw[AP,By,AP,AN a];rfl
 have:=Lib.idxFrom_hit ((Yr G i:Nat):Int) (Z6 (ksN G G.rules.length)) i 0 (by unfold Z6;rw[BF];exact h) (b i h) λj a=>by
  rw[b j AA];intro e;have:=Zzr AA h (AA:Yr G j=Yr G i);omega
 rw[BH] at this;exact this
end
section
open Go.Shelf
open Go.ChangeShapes Go.WideShapes Go.ChangeAt Go.RowKit
open Go.ChangeShapes Go.WideShapes Go.ChangeAt Go.RowKit
open Go.ChangeShapes Go.WideShapes Go.ChangeAt Go.RowKit Go.Lib Go.Deep
open Go.ChangeShapes Go.WideShapes Go.ChangeAt Go.RowKit Go.Lib Go.Deep
theorem Tryz.infoVal:(prog.info? 46).map (λi=>(i.zero,i.size,i.bytes))=some (some (.agg #[.slice none 0 0,.bool false]),2,32):=AB
end
