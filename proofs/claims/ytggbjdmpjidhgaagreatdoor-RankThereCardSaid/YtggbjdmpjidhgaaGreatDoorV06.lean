/- Words for slices that read as strings; a string's bytes appended. -/
import Derived.Test.YtggbjdmpjidhgaaGreatDoorV01
import Derived.Test.YtggbjdmpjidhgaaGreatDoorV02
import Derived.Test.YtggbjdmpjidhgaaGreatDoorV03
import Derived.Test.YtggbjdmpjidhgaaGreatDoorV04
set_option linter.all false
set_option maxHeartbeats 1500000
set_option maxRecDepth 100000
namespace Go.Proofs.YtggbjdmpjidhgaaGreatDoor
open Go.RowKit Go.Proofs.Tryz
variable{a d:List Nat × Nat}{b:Bool}{c use n i x g:Nat}{w':World}{S F xs:List Nat}{cs:Array Value}{ts:List Tk}{ss:List ByteArray}{s:Int}{t:TypeId}{D:DataW Unit}{p:List Trm}{N:List Bool}{A:Option Addr}{o:Oper}{K:Act->World->Prop}{Q:Exit->Act->World->Prop}{L:Array Bool->Act->Prop}{rest:List Oper}{listed:Array Bool}
theorem Zvj(c:Nat)(w:World)(j:c<256):
 Calls prog 165 #[.int .u8 (c:Int)] w λe w'=>e = .returned (.bool (Xf c))/\w=w':=by
 have a:=letter_fact c j;have b:=(bits_or c).resolve_right AA;have k:∃v:Nat,bits BinOp.or .u8 (c:Int) 32=(v:Int)/\Xf c=(decide (c=95) || (decide (97<=v)&&decide (v<=122))):=⟨_,b,a⟩;clear a b;obtain⟨v,m,a⟩:=k;have d:=LH a;clear a;have l:c=95\/(c≠95/\v<97)\/(c≠95/\97<=v/\v<=122)\/(c≠95/\97<=v/\122<v):=AA
 rcases l with h | ⟨h,g⟩ | ⟨h,g,f⟩ | ⟨h,g,f⟩;all_goals
  go_enter func165,ntmps165;go_wp2;go_ret;refine⟨Jf ?_,rfl⟩;rw[d];rw[BZ];simp only[CJ,AR,BP,BN,ne_eq,Bool.not_eq_true',decide_eq_true_eq,AY,Bool.false_eq_true,true_iff,false_iff,iff_true,iff_false];omega
theorem lx_plain(c:Nat)(w:World)(g:c<256):
 Calls prog 235 #[.int .u8 (c:Int)] w λe w'=>e = .returned (.bool (Mt c))/\w=w':=by
 have d:c<32\/(32<=c/\c<=126/\c=39)\/(32<=c/\c<=126/\c=92)\/(32<=c/\c<=126/\c≠39/\c≠92)\/126<c:=AA
 rcases d with g0 | ⟨g0,a,b⟩ | ⟨g0,a,b⟩ | ⟨g0,a,b,f⟩ | g0;all_goals
  go_enter func235,ntmps235;go_wp2;all_goals
   go_ret;refine⟨Jf ?_,rfl⟩;unfold Mt;rw[BZ];simp only[CJ,AR,BP,BN,ne_eq,Bool.not_eq_true',decide_eq_true_eq,AY,Bool.false_eq_true,true_iff,false_iff,iff_true,iff_false];omega
theorem lx_escaped(c:Nat)(w:World)(g:c<256):
 Calls prog 236 #[.int .u8 (c:Int)] w λe w'=>e = .returned (.bool (Q1 c))/\w=w':=by
 have a:c=110\/c=116\/c=92\/c=39\/(c≠110/\c≠116/\c≠92/\c≠39):=AA
 rcases a with g0 | g0 | g0 | g0 | ⟨g0,b,d,f⟩;all_goals
  go_enter func236,ntmps236;go_wp2;all_goals
   go_ret;refine⟨Jf ?_,rfl⟩;unfold Q1;rw[BZ];simp only[CJ,AR,BP,BN,ne_eq,Bool.not_eq_true',decide_eq_true_eq,AY,Bool.false_eq_true,true_iff,false_iff,iff_true,iff_false];omega
theorem lx_inner(c:Nat)(w:World)(j:c<256):
 Calls prog 166 #[.int .u8 (c:Int)] w λe w'=>e = .returned (.bool (Wa c))/\w=w':=by
 have a:=Zvj c w j;cases b:Xf c;all_goals
  rw[b] at a;have d:=LH a;have f:=LH b;have k:(c<46/\((c:Int)==46)=false)\/((c:Int)==46)=true\/(46<c/\c<48/\((c:Int)==46)=false)\/(48<=c/\c<=57/\((c:Int)==46)=false)\/(57<c/\((c:Int)==46)=false):=by
   simp only[BP,AP,ne_eq];omega
  rcases k with ⟨g,g0⟩ | g0 | ⟨g,h,g0⟩ | ⟨g,h,g0⟩ | ⟨g,g0⟩;all_goals
   go_enter func166,ntmps166;go_wp2_with (go_at_call 165;refine d.out.mono ?_;rintro e w'⟨rfl,rfl⟩);all_goals
    go_ret;refine⟨Jf ?_,rfl⟩;unfold Wa;rw[f];try simp only[BP,AP,ne_eq] at g0
    try simp only[Bool.true_or,Bool.false_or]
    all_goals first
    | rfl
    | (rw[BZ];simp only[CJ,AR,BP,BN,ne_eq,Bool.not_eq_true',decide_eq_true_eq,AY,Bool.false_eq_true,true_iff,false_iff,iff_true,iff_false];omega)
theorem lx_name(s:ByteArray)(w:World):Calls prog 103 #[.string s] w λe w'=>e = .returned (.bool (Xi (Zh s)))/\w=w':=by
 have g:=Qh s;by_cases v:s.size=0
 ·have a:Xi (Zh s)=false:=by simp[Xi,g,v]
  rw[a];have C:=Cp s v;clear a g;go_enter func103,ntmps103;go_wp2;go_ret;exact⟨rfl,rfl⟩
 have c:0<s.size:=AA
 obtain⟨D,E⟩:=Zz8 s c;by_cases m:s.size<=20
 case neg =>
  have a:Xi (Zh s)=false:=by simp[Xi,g,m]
  rw[a];have B:(20:Int)<(s.size:Int):=AA
  clear a g m;go_enter func103,ntmps103;go_wp2;go_ret;exact⟨rfl,rfl⟩
 have G:¬(20:Int)<(s.size:Int):=AA
 have q:Hid (∀k (h:k<s.size),(Zh s).getD k 0=(s[k]'h).toNat):=LH λk h=>Yn (J0 s k h);have l:=LH g;have d:=Zvj (s[0]'c).toNat w ((s[0]'c).toNat_lt);have A:=LH m;clear g m;cases b:Xf (s[0]'c).toNat
 ·have a:Xi (Zh s)=false:=by unfold Xi;rw[q 0 c,b];simp
  rw[a];rw[b] at d;have o:=LH d;clear a d b;go_enter func103,ntmps103;go_wp2_with (go_at_call 165;refine o.out.mono ?_;rintro e w'⟨rfl,rfl⟩);go_ret;exact⟨rfl,rfl⟩
 rw[b] at d;have o:=LH d;have y:Hid (Xf ((Zh s).getD 0 0)=true):=LH (by rw[q 0 c];exact b);clear d b;go_enter func103,ntmps103;go_wp2_with (go_at_call 165;refine o.out.mono ?_;rintro e w'⟨rfl,rfl⟩);go_loop [3,19] (λ_ i=>∃k:Nat,k<=s.size/\i = .int .i64 (k:Int)/\∀j,j<k->Wa ((Zh s).getD j 0)=true) (λ_ i=>s.size-(intOf i).toNat)
 case atStart=>exact⟨0,AU _,rfl,λj t=>AA⟩
 obtain⟨k,F,rfl,x⟩:=hrel;have u:=LH x;clear x;by_cases b:k<s.size
 ·have f:=lx_inner (s[k]'b).toNat w ((s[k]'b).toNat_lt);have n:=q k b;cases hd:Wa (s[k]'b).toNat
  ·have a:Xi (Zh s)=false:=Zsv k (by rw[l];exact b) (by rw[n];exact hd);have p:=LH a;rw[hd] at f;have r:=LH f;clear f hd n a;go_wp2_with (go_at_call 166;refine r.out.mono ?_;rintro e w'⟨rfl,rfl⟩);go_ret;exact⟨by rw[p];rfl,rfl⟩
  rw[hd] at f;have r:=LH f;have z:Hid (Wa ((Zh s).getD k 0)=true):=LH (by rw[n];exact hd);clear f hd n;go_wp2_with (go_at_call 166;refine r.out.mono ?_;rintro e w'⟨rfl,rfl⟩);go_round
  case rel =>
   refine⟨k+1,AA,AF,λj t=>?_⟩;rcases BD j k with h | h
   ·exact u j h
   obtain rfl:j=k:=AA
   exact z
  simp[intOf];omega
 have a:Xi (Zh s)=true:=Zuu (by rw[l];omega) (by rw[l];exact A) y (λj t=>u j (by rw[l] at t;omega));have p:=LH a;clear a;go_wp2;go_ret;exact⟨by rw[p];rfl,rfl⟩
theorem cntL_snoc(l:List Trm)(t:Trm)(g:1<=t.level)(j:t.level<=24):Zzt (l++[t])=if Dt l t.level then Zzt l else Zzt l+1:=by
 obtain⟨m,b⟩:∃m:Nat,t.level=(m:Int):=⟨t.level.toNat,AA⟩;by_cases h:Dt l t.level=true
 ·rw[if_pos h];unfold Zzt;congr 1;funext n;rw[Kf];by_cases a:t.level=(n:Int)
  ·rw[<-a,h];simp
  simp[a]
 rw[if_neg h];have f:Dt l t.level=false:=by simpa using h
 have:=countP_more (λ(n:Nat)=>decide (1<=n)&&Dt l (n:Int)) m (by rw[<-b,f];simp) 25;rw[if_pos AA] at this;unfold Zzt;rw[<-this];congr 1;funext n;rw[Kf];by_cases a:n=m
 ·subst a;have e:decide (1<=n)=true:=AG
  rw[b,e];simp
 have c:decide (n=m)=false:=by simp[a]
 have d:decide (t.level=(n:Int))=false:=AG
 rw[c,d];simp
def Zj(G:Gr):List Bool:=Z3 (Xs (λr N=>Xj false N r.right) G.rules) G.nons.length (List.replicate G.nons.length false)
def Xu(S:List Nat):List Nat:=Z3 (Ja S) S.length S
def Yw(S:List Nat)(i t:Nat):Bool:=((Xu S).getD i 0).testBit t
theorem Li(S:List Nat):(Xu S).length=S.length:=U0 S _
theorem cf_right1(s:ByteArray)(w:World):
 Calls prog 102 #[.string s] w λe w'=>e = .returned (.bool (!Xi (Zh s)))/\w=w':=by
 have c1:=lx_name s w;generalize Xi (Zh s)=p at *;have a:=LH c1;clear c1;go_enter func102,ntmps102;go_wp2_with (go_at_call 103;(with_reducible refine a.out.mono ?_);rintro e w'⟨rfl,rfl⟩);go_ret;exact⟨rfl,rfl⟩
def Xo(b:Bool)(r:Rul)(N:List Bool):Bool:=Xj b N r.right
def U5(b:Bool)(G:Gr):List Bool:=Z3 (Xs (Xo b) G.rules) G.nons.length (List.replicate G.nons.length false)
theorem Qe(G:Gr):Zj G=U5 false G:=rfl
def Ce(ids:Rul->List Bool->List Int)(r:Rul)(N:List Bool):List Bool:=Jz N (ids r N)
def Yy(ids:Rul->List Bool->List Int)(a:List Rul)(N:List Bool):List Bool:=a.foldl (λN r=>Ce ids r N) N
theorem Zwt(ids:Rul->List Bool->List Int)(a:List Rul)(r:Rul)(N:List Bool):Yy ids (a++[r]) N=Ce ids r (Yy ids a N):=by simp[Yy]
theorem LeB.refl(a:List Bool):LeB a a:=⟨rfl,λ_ h=>h⟩
theorem LeB.trans{a b c:List Bool}(h:LeB a b)(k:LeB b c):LeB a c:=⟨h.1.trans k.1,λi hi=>k.2 i (h.2 i hi)⟩
theorem F5(N:List Bool):∀(l:List Int),LeB N (Jz N l):=λl=>by
 induction l generalizing N with
 | nil=>exact LeB.refl N
 | cons s l a=>exact (LeB.set N s.toNat).trans (a _)
theorem Zwc(N:List Bool)(l:List Int):(Jz N l).length=N.length:=(F5 N l).1.symm
theorem bD_set{C:Nat}{w:World}(h:Below C w w')(a:C<=w.heap.size)(g i:Nat)(v:Value)(b:C<=g):Below C w (w'.setCell ⟨g,i,none⟩ v):=h.trans (Zn (Zd _ _ _ _) (BC a h.size) b)
def Zt(G:Gr):List Bool:=U5 true G
def Dr(P:List Bool)(r:Rul)(N:List Bool):Bool:=N.getD r.left.toNat false&&Xj true P r.right
def Yp(P:List Bool)(r:Rul)(N:List Bool):List Int:=if Dr P r N then Uq r.right else []
def Xv(G:Gr):List Bool:=(List.replicate G.nons.length false).set G.start.toNat true
def Z5(G:Gr):List Bool:=Z3 (Yy (Yp (Zt G)) G.rules) G.nons.length (Xv G)
def UpF(S F:List Nat):Prop:=F.length=S.length/\∀i t,i<S.length->(F.getD i 0).testBit t=true->Yw S i t=true
def J5(S:List Nat)(i R:Nat):Prop:=R<4294967296/\(∀t,(S.getD i 0).testBit t=true->R.testBit t=true)/\∀t,R.testBit t=true->t<S.length/\Yw S i t=true
def cycS(S:List Nat):Nat:=Jb (λi=>Yw S i i) S.length
def Zza(S:List Nat)(use n:Nat)(a:List Nat × Nat):List Nat × Nat:=match Qx (U2 S use a.2) n with
 | none=>a
 | some i=>(a.1++[i],a.2 ||| Y6 (i:Int))
def Y4(S:List Nat)(use n k:Nat):List Nat × Nat:=Z3 (Zza S use n) k ([],0)
theorem Nf(S:List Nat)(use n k:Nat):Y4 S use n (k+1)=Zza S use n (Y4 S use n k):=rfl
theorem Ly(h:Qx (U2 S use a.2) n=some i):Zza S use n a=(a.1++[i],a.2 ||| Y6 (i:Int)):=by
 unfold Zza;rw[h]
theorem Ln(h:Qx (U2 S use a.2) n=none):Zza S use n a=a:=by
 unfold Zza;rw[h]
theorem Dp.snoc{cs:List Value}(h:Dp cs ts)(t:Tk)(x y:Nat):Dp (cs++[.int .i64 t.1,.string t.2,.complex .f64 x y]) (ts++[t]):=by
 refine⟨by simp[h.1];omega,λj u b=>?_⟩;rcases H4 b with ⟨a,b⟩ | ⟨rfl,rfl⟩
 ·obtain⟨c,d,g,k,f⟩:=h.2 j u b;exact⟨by rw[Xe h.1 a AA];exact c,by rw[Xe h.1 a AA];exact d,g,k,by rw[Xe h.1 a AA];exact f⟩
 exact⟨by rw[Y7 h.1];rfl,by rw[Y7 h.1];rfl,x,y,by rw[Y7 h.1];rfl⟩
def Wc(w:World)(p:Nat)(ts:List Tk):Prop :=
 ts.length<=4000/\∃A c x y a b,Blk w p 236 #[.slice A ts.length c,.complex .f64 x y,.complex .f64 a b,.int .i64 0]/\Kq w p A ts.length c ts
theorem Gi.snoc{cs:List Value}(h:Gi cs ss)(s:ByteArray)(x y:Nat):Gi (cs++[.string s,.complex .f64 x y]) (ss++[s]):=by
 refine⟨by simp[h.1];omega,λj u a=>?_⟩;rcases H4 a with ⟨b,a⟩ | ⟨rfl,rfl⟩
 ·obtain⟨c,f,g,d⟩:=h.2 j u a;exact⟨by rw[Xe h.1 b AA];exact c,f,g,by rw[Xe h.1 b AA];exact d⟩
 exact⟨by rw[Y7 h.1];rfl,x,y,by rw[Y7 h.1];rfl⟩
def Prds(w:World)(A:Option Addr)(n c:Nat)(ps:List Prd):Prop :=
 ps.length=n/\n<=c/\c<=9223372036854775807/\(0<n->∃b a,A=some ⟨b,a,none⟩/\b<w.heap.size/\∀(j:Nat) (p:Prd),ps[j]? = some p->∃Ar cr x y d f,
  w.cell? ⟨b,a+j*5,none⟩=some (.string p.left)/\w.cell? ⟨b,a+j*5+1,none⟩=some (.complex .f64 x y)/\w.cell? ⟨b,a+j*5+2,none⟩=some (.slice Ar p.right.length cr) /\
  w.cell? ⟨b,a+j*5+3,none⟩=some (.string p.prec)/\w.cell? ⟨b,a+j*5+4,none⟩=some (.complex .f64 d f)/\Rfs w Ar p.right.length cr p.right)
structure V6 (w w':World) (p:Nat) (h h':GH):Prop where
 os:w'.os=w.os
 tape:w'.tape=w.tape
 output:w'.output=w.output
 size:w.heap.size<=w'.heap.size
 keep:∀k,k<w.heap.size->¬J8 p h k->w'.heap[k]? = w.heap[k]?
 back:∀k,k<w.heap.size->J8 p h' k->J8 p h k
theorem V6.refl(w:World)(p:Nat)(h:GH):V6 w w p h h:=⟨rfl,rfl,rfl,AI _,λ_ _ _=>rfl,λ_ _ h=>h⟩
theorem V6.of_below{w:World}(h:Below w w w')(p:Nat)(a:GH):V6 w w' p a a:=⟨h.os,h.tape,h.output,h.size,λk b _=>h.block k b,λ_ _ h=>h⟩
structure Zyt (wr wx:World) (p gB:Nat) (Ar:Option Addr) (cr:Nat) (L:ByteArray) (x y:Nat) (rs:List ByteArray) (pr:ByteArray) (px py:Nat) (us:List Tk):Prop where
 lo:wr.heap.size<=gB
 blk:Blk wx gB 199 #[.string L,.complex .f64 x y,.slice Ar rs.length cr,.string pr,.complex .f64 px py]
 row:Rfs wx Ar rs.length cr rs
 fresh:∀b off,Ar=some ⟨b,off,none⟩->wr.heap.size<=b/\b<wx.heap.size
 ne:∀b off,Ar=some ⟨b,off,none⟩->b≠gB
 rd:Wc wx p us
 gr:wr.grownBy wx (some p)
def Qm(G:Gr):Nat:=Jb (λi=>(Zt G).getD i false&&(Z5 G).getD i false) G.nons.length
def Gy(G:Gr):Nat:=if G.right then Qm G else 0
theorem Zyz(X:Nat->Prop):∀(c:List Rul),(∀r∈c,(∀s∈r.right,(0<=s->b=true)/\(s<0->X (Zp s)))->X r.left.toNat)->
 ∀{N:List Bool},(∀i,N.getD i false=true->X i)->∀i,(Xs (Xo b) c N).getD i false=true->X i
 | [],_,N,hN,i,h=>hN i h
 | r::c,hX,N,hN,i,h=>by
   refine Zyz X c (λq f=>hX q (BO _ f)) (N:=Qa (Xo b) r N) (λj a=>?_) i h;unfold Qa at a;split at a
   ·rename_i d;rcases (Uh _ _ _).1 a with a | ⟨rfl,_⟩
    ·exact hN j a
    refine hX r (AX ..) λs g=>?_;have h1:(if 0<=s then b else N.getD (Zp s) false)=true:=BG.1 d s g;refine⟨λh0=>?_,λh0=>?_⟩
    ·rwa [if_pos h0] at h1
    rw[if_neg AA] at h1;exact hN _ h1
   exact hN j a
theorem Zz2{G:Gr}(X:Nat->Prop)(a:∀r∈G.rules,(∀s∈r.right,(0<=s->b=true)/\(s<0->X (Zp s)))->X r.left.toNat)(h:(U5 b G).getD i false=true):X i:=by
 unfold U5 at h;have key:∀(k i:Nat),(Z3 (Xs (Xo b) G.rules) k (List.replicate G.nons.length false)).getD i false=true->X i:=by
  intro k
  induction k with
  | zero=>intro i h;rw[Z3,Zve] at h;cases h
  | succ k c=>intro i h;exact Zyz X G.rules a c i h
 exact key _ i h
theorem Zyx{P:List Bool}(X:Nat->Prop):∀(c:List Rul),(∀r∈c,X r.left.toNat->Xj true P r.right=true->∀s∈r.right,s<0->X (Zp s))->
 ∀{N:List Bool},(∀i,N.getD i false=true->X i)->∀i,(Yy (Yp P) c N).getD i false=true->X i
 | [],_,N,hN,i,h=>hN i h
 | r::c,hX,N,hN,i,h=>by
   refine Zyx X c (λq f=>hX q (BO _ f)) (N:=Ce (Yp P) r N) (λj d=>?_) i h;refine Zy9 X _ (λt b=>?_) hN j d;unfold Yp at b;split at b
   ·rename_i a;unfold Dr at a;rw[AR] at a;obtain⟨s,g,h0,rfl⟩:=Zur.1 b;exact hX r (AX ..) (hN _ a.1) a.2 s g h0
   cases b
def useB(G:Gr)(i:Nat):Prop:=(Zt G).getD i false=true/\(Z5 G).getD i false=true
def Yc(T:Int->Nat->Nat)(a:List Rul)(i n:Nat):Nat:=Vi ((a.filter λr=>decide (r.left.toNat=i)).map λr=>Zx T r.right n)
def Qw(G:Gr):Nat->Int->Nat->Nat
 | 0,s,n=>if 0<=s then K0 n else 0
 | f+1,s,n=>if 0<=s then K0 n else Yc (Qw G f) G.rules (Zp s) n
theorem Un(G:Gr)(f:Nat)(h:0<=s)(n:Nat):Qw G f s n=K0 n:=by
 cases f <;> simp[Qw,h]
theorem Fg(G:Gr)(f:Nat)(h:s<0)(n:Nat):Qw G (f+1) s n=Yc (Qw G f) G.rules (Zp s) n:=by
 unfold Qw;rw[if_neg AA]
theorem Lu{T c:Int->Nat->Nat}{b:List Rul}(h:∀r∈b,r.left.toNat=i->Zx T r.right n=Zx c r.right n):Yc T b i n=Yc c b i n:=by
 unfold Yc;refine Lx λr a=>?_;rw[List.mem_filter,BB] at a;exact h r a.1 a.2
def Zv(G:Gr)(s:Int)(n:Nat):Nat:=Qw G (fuelN n) s n
theorem Xb(G:Gr)(h:0<=s)(n:Nat):Zv G s n=K0 n:=Un G _ h n
theorem Mo.tail{t:List Nat}(h:Mo (x::t)):Mo t:=λys y a=>h (x::ys) y (by rw[a];rfl)
theorem val_inj(xs:List Nat):∀ys,Lim xs->Lim ys->Mo xs->Mo ys->val xs=val ys->xs=ys:=by
 induction xs with
 | nil=>intro ys _ _ _ ty h;exact (Fv ys ty (by simpa [val] using h.symm)).symm
 | cons x t d =>
   intro ys a b c ty h;cases ys with
   | nil=>exact Fv _ c (by simpa [val] using h)
   | cons y s =>
     have h1:=a.cons.1;have f:=b.cons.1;simp only[val] at h;have e:x=y:=AA
     subst e;rw[d s a.cons.2 b.cons.2 c.tail ty.tail AA]
def Mu(xs ys:List Nat):List Nat × Nat:=if Zm xs&&Zm ys then Xm (val xs+val ys) else ([],1)
def N9(xs ys:List Nat):List Nat × Nat:=if Zm xs&&Zm ys then Xm (val xs*val ys) else ([],1)
theorem Gg(T:Int->Nat->Nat)(a:List Rul)(r:Rul)(i n:Nat):Yc T (a++[r]) i n=Yc T a i n+(if r.left.toNat=i then Zx T r.right n else 0):=by
 unfold Yc;rw[List.filter_append,DI,Na];by_cases h:r.left.toNat=i
 ·simp[h,Vi]
 simp[h,Vi]
theorem Off.refl(S:Nat->Prop)(w:World):Off S w w:=⟨rfl,rfl,rfl,AI _,λ_ _ _=>rfl⟩
theorem Off.of_below{S:Nat->Prop}{w:World}(h:Below w w w'):Off S w w':=⟨h.os,h.tape,h.output,h.size,λk a _=>h.block k a⟩
structure Red2 (W0:World) (gO gT n:Nat) (v1:Value) (G:Gr) (w:World) (Ak:Option Addr) (ck:Nat) (An:Option Addr) (cn:Nat) (ks old:List Nat):Prop where
 off:Off (λk=>k=gT\/k=gO) W0 w
 tos:Blk w gT 3 (ints .i64 (toL n old)).toArray
 out:Blk w gO 26 #[v1,.slice An old.length cn,.slice none 0 0,.int .i64 0]
 kept:w.ownsRow W0.heap.size 3 1 (.slice Ak ks.length ck) ks.length (ints .i64 (Z6 ks))
 nons:w.ownsRow W0.heap.size 9 1 (.slice An old.length cn) old.length (old.map λi=>Value.string (Ws G i))
section
open Go.RowKit Go.Shelf
attribute [local go_sem] Oper.semAt_some
open Go.RowKit Go.Shelf Go.Sort
def Y1(w:World)(g:Nat)(h:GH)(a:Int):Prop :=
 g<w.heap.size/\w.cell? ⟨g,0,none⟩=some (.slice h.a1 h.n1 h.c1)/\w.cell? ⟨g,1,none⟩=some (.slice h.a2 h.n2 h.c2)/\w.cell? ⟨g,2,none⟩=some (.slice h.a3 h.n3 h.c3)/\w.cell? ⟨g,3,none⟩=some (.int .i64 a)
theorem Y1.new(w:World)(t:TypeId)(h:GH)(a:Int):Y1 (w.alloc (.cells #[.slice h.a1 h.n1 h.c1,.slice h.a2 h.n2 h.c2,.slice h.a3 h.n3 h.c3,.int .i64 a] t)) w h a:=by
 refine⟨AE,?_,?_,?_,?_⟩ <;> (rw[Wg];rfl)
end
theorem Fl.new(w:World)(t:TypeId)(left:Int)(Ar:Option Addr)(a cr:Nat)(b:Int):Fl (w.alloc (.cells #[.int .i64 left,.slice Ar a cr,.int .i64 b] t)) w left Ar a cr b:=by
 refine⟨AE,?_,?_,?_⟩ <;> (rw[Wg];rfl)
section
open Go.RowKit Go.Maps
theorem Ways.zero{t:Trm}(h:Ways D p)(b:t.level=0):Ways D (p++[t]) :=
 ⟨h.tidy,λL a=>by rw[h.at_ L a,Nx,if_neg AA],λL a=>by rw[h.has_ L a,Kf,show decide (t.level=L)=false from by simp;omega,Bool.or_false],by rw[h.size_,cntL_zero p t b]⟩
theorem Ways.more{t:Trm}(h:Ways D p)(d:1<=t.level)(f:t.level<=24):Ways (D.put (.int .i64 t.level) (.lit (.int .i64 t.assoc))) (p++[t]):=by
 refine⟨h.tidy.put (Zud _) _,λL c=>?_,λL c=>?_,?_⟩
 ·rw[Nx];by_cases b:t.level=L
  ·subst b;rw[if_pos rfl,atKey_put_same h.tidy.isMap (Zud _)]
  rw[if_neg b,atKey_put_other (by intro a;injection a with _ a;exact b a.symm),h.at_ L c]
 ·rw[Kf];by_cases b:t.level=L
  ·subst b;rw[has_put_same h.tidy.isMap (Zud _)];simp
  rw[has_put_other (by intro a;injection a with _ a;exact b a.symm),h.has_ L c];simp[b]
 rw[size_put h.tidy,h.has_ _ d,h.size_,cntL_snoc p t d f]
theorem Tryz.infoStr:(prog.info? 9).map (λi=>(i.zero,i.size,i.bytes))=some (some (.string ByteArray.empty),1,16):=AB
theorem Blk.lt{w:World}(h:Blk w g t cs):g<w.heap.size:=by
 rcases BD g w with b | a
 ·exact b
 unfold Blk at h;rw[CX a] at h;cases h
theorem Blk.cell{w:World}(h:Blk w g t cs)(i:Nat):w.cell? ⟨g,i,none⟩=cs[i]? := by
 unfold Blk at h;simp[World.cell?,h]
theorem Blk.frozen{w:World}(h:Blk w g t cs)(i:Nat):w.frozen? ⟨g,i,none⟩=false:=by
 unfold Blk at h;simp[World.frozen?,h]
theorem Blk.new(w:World)(t:TypeId)(cs:Array Value):Blk (w.alloc (.cells cs t)) w t cs:=heap_alloc_new w _
theorem Blk.grown{w:World}{row:Option Nat}(h:Blk w g t cs)(a:w.grownBy w' row)(b:some g≠row):Blk w' g t cs:=(a.block g h.lt b).trans h
def V0(w:World)(g:Nat)(F:List Nat):Prop:=Blk w g 49 (nums .u32 F).toArray
theorem Z8.at{w:World}(h:Z8 w g N)(hi:i<N.length):w.cell? ⟨g,i,none⟩=some (.bool (N.getD i false)):=by
 rw[Blk.cell h];simp[Qk,hi]
theorem V0.at{w:World}(h:V0 w g F)(hi:i<F.length):w.cell? ⟨g,i,none⟩=some (.int .u32 ((F.getD i 0:Nat):Int)):=by
 rw[Blk.cell h];simp[nums,hi]
theorem V0.put{w:World}(h:V0 w g F)(i v:Nat):V0 (w.setCell ⟨g,i,none⟩ (.int .u32 (v:Int))) g (F.set i v):=by
 have:=Blk.set h i (.int .u32 (v:Int));unfold V0;rwa [show (nums .u32 (F.set i v)).toArray=(nums .u32 F).toArray.setIfInBounds i (.int .u32 (v:Int)) by simp[nums,List.map_set]]
theorem Z8.new(w:World)(N:List Bool):Z8 (w.alloc (.cells (Qk N).toArray 4)) w N:=Blk.new w _ _
theorem V0.new(w:World)(F:List Nat):V0 (w.alloc (.cells (nums .u32 F).toArray 49)) w F:=Blk.new w _ _
theorem Tryz.infoBool:(prog.info? 4).map (λi=>(i.zero,i.size,i.bytes))=some (some (.bool false),1,1):=AB
end
theorem tr_within1(s:Int)(b g n:Nat)(N:List Bool)(w:World)(l:w.cell? ⟨b,0,none⟩=some (.slice (some ⟨g,0,none⟩) n n))(d:Z8 w g N)(o:N.length=n)(f:n<=1000)(k:-(n:Int)<=s/\s<=1000):
 Calls prog 170 #[.int .i64 s,.pointer (some ⟨b,0,none⟩)] w λe w'=>e = .returned (.bool (Cf N s))/\w=w':=by
 by_cases c:s<0
 ·obtain⟨j,m,h,p⟩:=Vy c k.1 f;have c0:=d.at (i:=j) AA;have a:Hid (Cf N s=!N.getD j false):=LH (by unfold Cf;rw[DY c,h];rfl);generalize N.getD j false=x at *;clear d;go_enter func170,ntmps170;go_wp2_with fail;go_ret;exact⟨by rw[a.out];rfl,rfl⟩
 have a:Hid (Cf N s=false):=LH (by unfold Cf;rw[BR c];rfl);clear d;go_enter func170,ntmps170;go_wp2_with fail;go_ret;exact⟨by rw[a.out];rfl,rfl⟩
theorem OrdI.step(g:use<4294967296)(h:OrdI S use n d):OrdI S use n (Zza S use n d):=by
 cases c:Qx (U2 S use d.2) n with
 | none=>rw[Ln c];exact h
 | some i =>
   rw[Ly c];obtain⟨hi,b⟩:=Cj c;unfold U2 at b;simp only[AR] at b;have f:=Ztx g b.1.1;refine⟨Ct h.lt (Ua _),λt=>?_,λt a=>?_⟩
   ·rw[DZ,Uv,CJ,h.mem t,DH,BV];simp[f]
   rcases DH.1 a with a | a
   ·exact h.use t a
   rw[BV] at a;subst a;exact⟨b.1.1,hi⟩
theorem Dl(S:List Nat)(n:Nat)(a:use<4294967296):∀k,OrdI S use n (Y4 S use n k)
 | 0=>⟨by show 0<4294967296;decide,λt=>by simp[Y4,Z3],λt h=>by simp[Y4,Z3] at h⟩
 | k+1=>by rw[Nf];exact (Dl S n a k).step a
theorem Yu{P:Program}{a:Func}{p u v:Tmp}{ty:TypeId}(h:a.results=#[.cell p ty,.tmp u,.tmp v])(tmps:Array Value)(w:World)(g:Nat)(t:TypeId)(cs:Array Value)(b:Nat × Nat)(d:TypeDesc)(f:tmps.getD p undef = .pointer (some ⟨g,0,none⟩))(c:w.heap[g]? = some (.cells cs t b))(k:P.underlying ty=some d)(hd:(match d with | .struct _ | .array _ _=>true | _=>false)=true)(hi:(P.info? ty).map (·.size)=some cs.size):
 (results a tmps).run P w = .ok (.tuple #[.agg cs,tmps.getD u undef,tmps.getD v undef]) w:=by
 have j:tmps[p]?.getD undef = .pointer (some ⟨g,0,none⟩):=by simpa using f
 simp[results,h,j,asAddr,run_loadVar_row w g t ty cs b d c k hd hi]
theorem Kq.grown{w:World}{B p:Nat}(h:Kq w B A n c ts)(b:w.grownBy w' (some p))(g:B<=p):Kq w' B A n c ts :=
 h.keep b.size λk f d=>b.block k d (by intro a;injection a with a;omega)
theorem V5{P:Program}{ops:Array Oper}{a:Act}{w:World}{E:Prop}(H:o.guard=none)(s x:Operand)(t:TypeId)(L:o.op = .call { callee := .builtin .append,args:=#[s,x],argTypes:=#[t,t] })(base:Nat)(e:TypeId)(z:Value)(size bytes:Nat)(T:P.underlying t=some (.slice e))(hi:(P.info? e).map (λi=>(i.zero,i.size,i.bytes))=some (some z,size,bytes))(X:z.cells.size=size)(S:0<size)(A:Option Addr)(n c:Nat)(xs:List Value)(O:a.eval s = .slice A n c)(M:w.ownsRow base e size (.slice A n c) n xs)(p:Addr)(m c2:Nat)(k:List Value)(J:k.length=m*size)(V:a.eval x = .slice (some p) m c2)(G:∀j u,k[j]? = some u->w.cell? (p.add j)=some u)(r:∀u∈k,u.oneCell'=true)(B:n+m<=9223372036854775807)(F:(n+m)*bytes<=140737488355328)(C:base<=w.heap.size)(h:∀d f w',w'.ownsRow base e size (.slice d (n+m) f) (n+m) (xs++k)->w.grownBy w' (Value.slice A n c).ownBlock->(∀b,(Value.slice d (n+m) f).ownBlock=some b->b<w.heap.size->(Value.slice A n c).ownBlock=some b)->
   K (a.put o.dst (.slice d (n+m) f)) w'):if Region.wanted o (yielded ops a.tmps)=true then Oper.wp P o a w K Q else E:=by
 have U:Region.wanted o (yielded ops a.tmps)=true:=by simp[Region.wanted,H]
 rw[if_pos U];obtain⟨i,I,W,R,D⟩:=info_parts hi;obtain⟨Z,w',N,q,v,_,g⟩:=run_append_own_at (P:=P) w base t o.type e i z size bytes T I W R D X S _ n xs M p m c2 k J G r (by simpa [maxLen] using B) F C;obtain⟨d,f,rfl⟩:=Zuk q;have y:∀b,(Value.slice d (n+m) f).ownBlock=some b->b<w.heap.size->(Value.slice A n c).ownBlock=some b:=by
  intro b l Y;rcases g with g | g
  ·rw[<-g];exact l
  rw[g] at l;injection l with l;omega
 unfold Oper.wp execOp;simp only[L,resolve,invoke,builtin,Sem.run_bind,Sem.run_pure,Result.andThen_ok,List.map_toArray,CU,List.map_nil,O,V,N];exact h d f w' q v y
theorem Tryz.infoI64C:(prog.info? 3).map (λi=>(i.zero,i.size,i.bytes))=some (some (.int .i64 0),1,8):=AB
theorem own_cell{w:World}{k:IntKind}{a:List Nat}(h:Own w g t k a)(hi:a[i]? = some x):w.cell? ⟨g,i,none⟩=some (.int k (x:Int)):=by
 obtain⟨y,b,c⟩:=h.cell (i:=i) (by rcases BD i a.length with h | h;exact h;rw[BE h] at hi;cases hi);have:=b.out;rw[hi] at this;injection this with this;rw[this];exact c
section
variable {P:Program} {ops:Array Oper} {md:Region.Mode} {C:World->Prop}
theorem headQ_first{r:Oper}{v:Value}(hi:ops[i]? = some r)(F:∀(j:Nat) (o:Oper) cs b,ops[j]? = some o->o.op ≠ .select cs b)(x:Region.sinkB md ops n=true)(z:Region.chainB md ops n=true)(A:i<n)(N:∀listed a,L listed a->∀j∈Region.ready md ops listed,n<=j):
 ∀(f:Nat) (listed:Array Bool) (a:Act),HeadInv md ops n listed->
  (∀j d,ops[j]? = some d->j≠i->listed.getD j true=false->(∀e∈d.after,Region.binds md e=true->e.on≠i)->r.apart ops d=true)->
  i∈Region.ready md ops listed->YieldsIn P ops C r v a->
  headQ P md ops C n L f (listed.setIfInBounds i true) (a.put r.dst v)->headQ P md ops C n L (f+1) listed a:=by
 intro f
 induction f with
 | zero =>
   intro listed a inv u m t H;have p:=(mem_ready.1 m).1;have Z:n<=ops.size:=by
    rcases BD ops.size n with h | h
    ·exfalso;have q:=BG.1 x (ops.size) (BQ.2 h);obtain⟨j,c,B⟩:=Er.1 q;simp only[AR,decide_eq_true_eq] at B;obtain⟨d,g,_⟩:=Region.waitsFor_spec B.2;have:=(Array.getElem?_eq_some_iff.1 g).1;omega
    exact h
   refine⟨λh=>(by rw[h] at m;cases m),λj c=>?_⟩;have s:j<n:=by
    rcases BD j n with h | h
    ·exact h
    have V:j<ops.size:=by
     obtain⟨_,d,g,_⟩:=mem_ready.1 c;exact (Array.getElem?_eq_some_iff.1 g).1
    exact absurd c (tail_waits x z AA inv _ i rfl A p j h)
   refine⟨s,?_⟩;by_cases l:j=i
   ·subst l;exact t.qOp hi H
   ·have:=N _ _ H j (ready_mono c l);omega
 | succ f Y =>
   intro listed a inv u m t H;have p:=(mem_ready.1 m).1;refine⟨λh=>(by rw[h] at m;cases m),λj c=>?_⟩;have s:j<n:=by
    rcases BD j n with h | h
    ·exact h
    have V:j<ops.size:=by
     obtain⟨_,d,g,_⟩:=mem_ready.1 c;exact (Array.getElem?_eq_some_iff.1 g).1
    exact absurd c (tail_waits x z AA inv _ i rfl A p j h)
   refine⟨s,?_⟩;by_cases l:j=i
   ·subst l;exact t.qOp hi H
   have q:=(H.2 j (ready_mono c l)).2;obtain⟨E,d,g,J⟩:=mem_ready.1 c;have X:∀e∈d.after,Region.binds md e=true->e.on≠i:=λe O M R=>by
    have q:=J e O M;rw[R,getD_both p] at q;cases q
   have I:=qOp_put g (u j d g l E X) (λcs b=>F i r cs b hi) (λcs b=>F j d cs b g) t q;have S:∀k ok,ops[k]? = some ok->k≠i->(listed.setIfInBounds j true).getD k true=false->
    (∀e∈ok.after,Region.binds md e=true->e.on≠i)->r.apart ops ok=true:=λk ok T U p W=>by
    refine u k ok T U ?_ W;by_cases D:j=k
    ·subst D;exact E
    rw[getD_set_ne true D] at p;exact p
   refine qOp_mono (λG y=>Y (listed.setIfInBounds j true) G (inv.set c s) S (ready_mono m (Ne.symm l)) y.1 ?_) I;rw[Array.setIfInBounds_comm _ _ l];exact y.2
theorem Zvv{c:Act->Prop}(r:Region.noSelect ops=true)(q:Region.sinkB md ops n=true)(f:Region.chainB md ops n=true):
 ∀(l:List Oper) (k:Nat) (listed:Array Bool) (a:Act),(∀j,j<l.length->l[j]? = ops[k+j]?)->k+l.length=n->HeadInv md ops n listed->
 Region.lexHead md ops g l.length k listed=true->wpQuiet P ops C c l a->
 headQ P md ops C n (λs d=>Region.seqB md ops g n s=true/\c d) l.length listed a
 | [],k,listed,a,_,hk,_,hB,h=>by
   have:k=n:=by simpa using hk
   subst this;exact⟨by simpa [Region.lexHead] using hB,h⟩
 | o::l,k,listed,a,hl,hk,inv,hB,h=>by
   have b:ops[k]? = some o:=by simpa using (hl 0 AE).symm
   simp only[AW,Region.lexHead,AR] at hB;obtain⟨⟨z,y⟩,t⟩:=hB;have m:k<n:=by simp only[AW] at hk;omega
   have p:k∈Region.ready md ops listed:=by simpa using z
   have A:qOp P ops C k (wpQuiet P ops C c l) a:=by unfold qOp;simp only[b];exact h
   obtain⟨v,B,u⟩:=yieldsIn_of_qOp b A;exact headQ_first b (Region.noSelect_spec r) q f m (λs d x=>seqB_ready x.1) l.length listed a inv (Region.free_spec b y) p B
    (Zvv r q f l (k+1) _ _ (λj D=>by have:=hl (j+1) AG;simpa [Ed,Eo 1 j] using this) (by simp only[AW] at hk;omega) (inv.set p m) t u)
end
section
variable {P:Program} {w:World}
theorem Zzi{ops:Array Oper}{a:Act}(H:o.guard=none)(s x:Operand)(t:TypeId)(L:o.op = .call { callee := .builtin .append,args:=#[s,x],argTypes:=#[t,t] })(base:Nat)(e:TypeId)(z:Value)(size bytes:Nat)(T:P.underlying t=some (.slice e))(hi:(P.info? e).map (λi=>(i.zero,i.size,i.bytes))=some (some z,size,bytes))(W:z.cells.size=size)(S:0<size)(A:Option Addr)(n c:Nat)(xs:List Value)(O:a.eval s = .slice A n c)(M:w.ownsRow base e size (.slice A n c) n xs)(p:Addr)(m c2:Nat)(k:List Value)(J:k.length=m*size)(U:a.eval x = .slice (some p) m c2)(G:∀j u,k[j]? = some u->w.cell? (p.add j)=some u)(r:∀u∈k,u.oneCell'=true)(B:n+m<=9223372036854775807)(F:(n+m)*bytes<=140737488355328)(D:base<=w.heap.size)(h:∀d f w',w'.ownsRow base e size (.slice d (n+m) f) (n+m) (xs++k)->w.grownBy w' (Value.slice A n c).ownBlock->(∀b,(Value.slice d (n+m) f).ownBlock=some b->b<w.heap.size->(Value.slice A n c).ownBlock=some b)->
   wpList P ops Q rest (a.put o.dst (.slice d (n+m) f)) w'):wpList P ops Q (o::rest) a w:=by
 obtain⟨i,I,V,R,E⟩:=info_parts hi;obtain⟨Y,w',N,q,v,_,g⟩:=run_append_own_at (P:=P) w base t o.type e i z size bytes T I V R E W S _ n xs M p m c2 k J G r (by simpa [maxLen] using B) F D;obtain⟨d,f,rfl⟩:=Zuk q;have y:∀b,(Value.slice d (n+m) f).ownBlock=some b->b<w.heap.size->(Value.slice A n c).ownBlock=some b:=by
  intro b l X;rcases g with g | g
  ·rw[<-g];exact l
  rw[g] at l;injection l with l;omega
 refine wpList_plain H λK C=>?_;unfold Oper.wp execOp;simp only[L,resolve,invoke,builtin,Sem.run_bind,Sem.run_pure,Result.andThen_ok,List.map_toArray,CU,List.map_nil,O,U,N];exact C _ _ (h d f w' q v y)
theorem Ye{ops:Array Oper}{a:Act}(H:o.guard=none)(s x:Operand)(t:TypeId)(J:o.op = .call { callee := .builtin .append,args:=#[s,x],argTypes:=#[t,t] })(base:Nat)(e:TypeId)(z:Value)(size bytes:Nat)(O:P.underlying t=some (.slice e))(hi:(P.info? e).map (λi=>(i.zero,i.size,i.bytes))=some (some z,size,bytes))(T:z.cells.size=size)(N:0<size)(A:Option Addr)(n c:Nat)(xs:List Value)(M:a.eval s = .slice A n c)(L:w.ownsRow base e size (.slice A n c) n xs)(d:List Value)(I:d.length=size)(S:a.eval x = .slice (some ⟨w,0,none⟩) 1 1)(y:∀u∈d,u.oneCell'=true)(D:n+1<=9223372036854775807)(F:(n+1)*bytes<=140737488355328)(U:base<=w.heap.size)(h:∀g l w',w'.ownsRow base e size (.slice g (n+1) l) (n+1) (xs++d)->w.grownBy w' (Value.slice A n c).ownBlock->(∀b,(Value.slice g (n+1) l).ownBlock=some b->b<w.heap.size->(Value.slice A n c).ownBlock=some b)->
   wpList P ops Q rest (a.put o.dst (.slice g (n+1) l)) w'):wpList P ops Q (o::rest) a (w.alloc (.cells d.toArray e)):=by
 have G:∀j u,d[j]? = some u->(w.alloc (.cells d.toArray e)).cell? ((⟨w,0,none⟩:Addr).add j)=some u:=by
  intro j u R;have r:(⟨w,0,none⟩:Addr).add j=⟨w,j,none⟩:=by
   unfold Addr.add;split
   ·rename_i v;subst v;rfl
   simp
  rw[r,World.cell?_alloc_mark];simpa using R
 refine Zzi H s x t J base e z size bytes O hi T N A n c xs M (L.alloc _) _ 1 1 d (by rw[I,Nat.one_mul]) S G y D F AG λg l w' B m C=>?_;have f:w.grownBy (w.alloc (.cells d.toArray e)) (Value.slice A n c).ownBlock:=World.grownBy_alloc _ _ _;exact h g l w' B ⟨m.os.trans f.os,m.tape.trans f.tape,m.output.trans f.output,BC f.size m.size,λk p q=>(m.block k (AJ p f.size) q).trans (f.block k p q)⟩ λb E V=>C b E AG
end
section
variable {P:Program}
def Zvw(ops:Array Oper):Bool:=(List.range ops.size).all λi=>((ops[i]?).map λo=>o.after.all λe=>decide (e.on<i)).getD true
theorem Zwd{ops:Array Oper}(f:Zvw ops=true)(h:Region.ready .any ops listed=[]):∀i,i<ops.size->listed.getD i true=true:=by
 intro i
 induction i using Nat.strongRecOn with
 | ind i k =>
   intro hi;cases b:listed.getD i true with
   | true=>rfl
   | false =>
     exfalso;have a:i∈Region.ready .any ops listed:=by
      refine mem_ready.2 ⟨b,ops[i],Array.getElem?_eq_getElem hi,λe g _=>?_⟩;have h1:=BG.1 f i (BQ.2 hi);rw[Array.getElem?_eq_getElem hi,Ek,Option.getD_some,Array.all_eq_true_iff_forall_mem] at h1;have c:=DN (h1 e g);have d:=k e.on c AA;have l:i<listed.size:=by
       rcases BD i listed.size with h | h
       ·exact h
       simp[Array.getD,Nat.not_lt.2 h] at b
      have j:e.on<listed.size:=AA
      simpa [Array.getD,j] using d
     rw[h] at a;cases a
end
section
open Go.Maps (Keyed IsMap Tidy)
def Z1(w:World)(A:Option Addr)(n c:Nat)(b:Bool)(x:Nat):Prop:=b=(Vk x).2/\Zq .u32 w A n c (Vk x).1
def Vp(w:World)(g:Nat)(t:TypeId)(xs:List Nat):Prop:=∃cs:Array Value,Blk w g t cs/\cs.size=xs.length*2/\∀(j:Nat) x,xs[j]? = some x->∃A n c b,cs[j*2]? = some (.slice A n c)/\cs[j*2+1]? = some (.bool b)/\Z1 w A n c b x
theorem Vp.noInt{w:World}(h:Vp w g t xs):Qf w g:=by
 obtain⟨cs,f,l,j⟩:=h;intro o k z a;rw[f.cell o] at a;have m:o<xs.length*2:=by rw[<-l];exact (Array.getElem?_eq_some_iff.1 a).1
 obtain⟨A,n,c,b,h1,d,_⟩:=j (o / 2) _ (AM (show o / 2<xs.length by omega));rcases (AA:o=o / 2*2\/o=o / 2*2+1) with e | e
 ·rw[e,h1] at a;cases a
 rw[e,d] at a;cases a
theorem Vp.frozen{w:World}(h:Vp w g t xs)(i:Nat):w.frozen? ⟨g,i,none⟩=false:=by
 obtain⟨cs,a,_⟩:=h;exact a.frozen i
theorem Fy(n:Nat):(zeroCells n).size=n*2:=by
 unfold zeroCells;simp only[List.size_toArray]
 induction n with
 | zero=>rfl
 | succ n a=>rw[Ec,List.flatMap_append,AS,a];simp;omega
def AddRel(w:World)(xs ys:List Nat)(n:Nat)(B:Nat)(c i:Value)(wr:World):Prop :=
 ∃k:Nat,k<=n/\i = .int .i64 (k:Int)/\c = .int .u32 ((V4 xs ys k).2:Int)/\Own wr B 49 .u32 ((V4 xs ys k).1++List.replicate (n+1-k) 0)/\Below B w wr
def Fx(w:World)(b x:Nat):Prop:=∃A n c d,Blk w b 174 #[.slice A n c,.bool d]/\Z1 w A n c d x
theorem val_of{w:World}(a:x<big)(h:Zq .u32 w A n c (limbs x)):Z1 w A n c false x:=⟨by rw[Z7 a],by rw[Z7 a];exact h⟩
end
def RetV(w:World)(z:Nat)(e:Ending)(w':World):Prop:=Below w.heap.size w w'/\∃A n c b,e = .returned (.agg #[.slice A n c,.bool b])/\Z1 w' A n c b z
theorem Z1.cases{w:World}(h:Z1 w A n c b x):(x<big/\b=false/\(Vk x).1=limbs x)\/(¬x<big/\b=true/\(Vk x).1=[]):=by
 obtain⟨rfl,_⟩:=h;by_cases a:x<big
 ·rw[Z7 a];exact .inl ⟨a,rfl,rfl⟩
 rw[Wl a];exact .inr ⟨a,rfl,rfl⟩
def Zyq(w:World)(A:Option Addr)(n c N:Nat)(tab:Nat->Nat->Nat):Prop:=n<=c/\c<=9223372036854775807/\(0<n->∃b a,A=some ⟨b,a,none⟩/\b<w.heap.size/\∀m,m<n->
 ∃g,w.cell? ⟨b,a+m,none⟩=some (.slice (some ⟨g,0,none⟩) N N)/\Vp w g 46 ((List.range N).map (tab m)))
structure Jc (w:World) (B:Nat) (A:Option Addr) (n c N:Nat) (gs:List Nat) (tab:Nat->Nat->Nat):Prop where
 own:w.ownsRow B 89 1 (.slice A n c) n (gs.map λg=>Value.slice (some ⟨g,0,none⟩) N N)
 noInt:∀g,(Value.slice A n c).ownBlock=some g->Qf w g
 nodup:gs.Nodup
 row:∀(m g:Nat),gs[m]? = some g->B<=g/\Vp w g 46 ((List.range N).map (tab m))
def RetMake(G:Gr)(n:Nat)(w:World)(e:Ending)(w':World):Prop:=Below w.heap.size w w'/\∃A c tab,e = .returned (.slice A (n+1) c)/\Zyq w' A (n+1) c G.nons.length tab/\∀k,k<=n->∀i,i<G.nons.length->tab k i=Zv G (-1-(i:Int)) k
section
open Go.Maps (Keyed IsMap Tidy)
open Go.Maps (Keyed IsMap Tidy)
def H8(w:World)(b x:Nat):Prop:=∃A n c d,Blk w b 77 #[.slice A n c,.bool d]/\Z1 w A n c d x
theorem Jk{w:World}(d:Blk w g t #[.slice A n c,.bool b]):Qf w g:=by
 intro o k z a;rw[d.cell o] at a;rcases o with _ | _ | o <;> cases a
theorem fit_val(x:Nat):∃(d:List Nat) (g:Nat) (b:Bool),Xm x=(d,g)/\(((g:Nat):Int)==2)=b/\(∀(w:World) (A:Option Addr) (c:Nat),Zq .u32 w A d.length c d->Z1 w A d.length c b x):=by
 rcases F8 x with ⟨a,f⟩ | ⟨a,f⟩
 ·exact⟨limbs x,0,false,f,rfl,λw A c h=>val_of a h⟩
 exact⟨[],2,true,f,rfl,λw A c h=>⟨by rw[Wl a],by rw[Wl a];exact h⟩⟩
end
section
open Ieee
theorem Less.refl(a:WSt):Less a a:=⟨AI _,AI _,AI _⟩
end
section
open Go.Shelf
open Go.ChangeShapes Go.WideShapes Go.ChangeAt Go.RowKit
open Go.ChangeShapes Go.WideShapes Go.ChangeAt Go.RowKit
open Go.ChangeShapes Go.WideShapes Go.ChangeAt Go.RowKit Go.Lib Go.Deep
open Go.ChangeShapes Go.WideShapes Go.ChangeAt Go.RowKit Go.Lib Go.Deep
theorem made_vals(n:Nat):madeCells #[Value.slice none 0 0,Value.bool false] (n*2)=zeroCells n:=by
 apply Array.ext_getElem?;intro j;by_cases c:j<n*2
 ·have b:=Cl n (j / 2) AA;have a:(madeCells #[Value.slice none 0 0,Value.bool false] (n*2))[j]? = some (if j % 2=0 then Value.slice none 0 0 else Value.bool false):=by
   simp[madeCells,c];rcases Nat.mod_two_eq_zero_or_one j with h | h <;> simp[h]
  rw[a];rcases Nat.mod_two_eq_zero_or_one j with h | h
  ·rw[if_pos h,<-b.1];congr 1;omega
  rw[if_neg AA,<-b.2];congr 1;omega
 have a:(madeCells #[Value.slice none 0 0,Value.bool false] (n*2)).size=n*2:=by simp[madeCells]
 have d:=Fy n;rw[CX AA,CX AA]
end
end Go.Proofs.YtggbjdmpjidhgaaGreatDoor
