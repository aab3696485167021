/- Words for slices that read as strings; a string's bytes appended. -/
import Derived.Test.YtggbjdmpjidhgaaGreatDoorV05
import Derived.Test.YtggbjdmpjidhgaaGreatDoorV06
import Derived.Test.YtggbjdmpjidhgaaGreatDoorV07
set_option linter.all false
set_option maxHeartbeats 1500000
set_option maxRecDepth 100000
namespace Go.Proofs.YtggbjdmpjidhgaaGreatDoor
open Go.RowKit Go.Proofs.Tryz
variable{S F:List Nat}{i k n c B x g:Nat}{t:TypeId}{b:Bool}{w w':World}{A Ar:Option Addr}{ps:List Prd}{ts:List Tk}{G:Gr}{tab:Nat->Nat->Nat}{cs:Array Value}{ss:List ByteArray}
theorem lx_literal(A:Option Addr)(n c:Nat)(d:List Nat)(w:World)(h:Zq .u8 w A n c d)(q:∀x∈d,x<256):
 Calls prog 229 #[.slice A n c] w λe w'=>e = .returned (.tuple #[.int .i64 ((litN d).1:Int),.int .i64 ((litN d).2:Int)])/\w=w':=by
 obtain rfl:=h.len;have I:=h.cap;by_cases B:d.length<2
 ·have D:litN d=(0,4):=by simp[litN,B]
  rw[D];clear D;go_enter func229,ntmps229;go_wp2;go_ret2;exact⟨rfl,rfl⟩
 obtain⟨b,L,rfl,H,s⟩:=h.at_ AA;have F:=lt256 q 1;have G:=lt256 q 2;have J:=lt256 q 3;have c1:=s 1 AA;have c2:=λh=>s 2 h;have c3:=λh=>s 3 h;have a:litN d=if Mt (d.getD 1 0) then (if d.length<=2 then (0,4) else if d.getD 2 0=39 then (3,0) else (0,3))
  else if d.getD 1 0≠92 then (0,3) else if d.length<3 then (0,4) else if !Q1 (d.getD 2 0) then (0,3)
  else if d.length<=3 then (0,4) else if d.getD 3 0=39 then (4,0) else (0,3):=by
  unfold litN;rw[if_neg B]
 generalize d.getD 1 0=o at *;generalize d.getD 2 0=p at *;generalize d.getD 3 0=z at *;generalize litN d=r at *;have k:=lx_plain o w F;have g:=lx_escaped p w G;clear s q;cases u:Mt o
 ·rw[u] at k a;have f:=LH k;clear k u;simp only[Bool.false_eq_true,if_false] at a;by_cases v:o=92
  ·have E:((o:Int)==92)=true:=by rw[BP];omega
   simp only[v,ne_eq,not_true,if_false] at a;clear v;by_cases m:d.length<3
   ·rw[if_pos m] at a;subst a;clear c2 c3 g;go_enter func229,ntmps229;go_wp2_with (go_at_call 235;refine f.out.mono ?_;rintro e w'⟨rfl,rfl⟩);go_ret2;exact⟨rfl,rfl⟩
   rw[if_neg m] at a;have c2:=c2 AA;cases t:Q1 p
   ·rw[t] at g a;have l:=LH g;clear g t c3;simp only[Bool.not_false,if_true] at a;subst a;go_enter func229,ntmps229;go_wp2_with (first
     | (go_at_call 235;refine f.out.mono ?_;rintro e w'⟨rfl,rfl⟩)
     | (go_at_call 236;refine l.out.mono ?_;rintro e w'⟨rfl,rfl⟩))
    go_ret2;exact⟨rfl,rfl⟩
   rw[t] at g a;have l:=LH g;clear g t;simp only[Bool.not_true,Bool.false_eq_true,if_false] at a;by_cases C:d.length<=3
   ·rw[if_pos C] at a;subst a;clear c3;go_enter func229,ntmps229;go_wp2_with (first
     | (go_at_call 235;refine f.out.mono ?_;rintro e w'⟨rfl,rfl⟩)
     | (go_at_call 236;refine l.out.mono ?_;rintro e w'⟨rfl,rfl⟩))
    go_ret2;exact⟨rfl,rfl⟩
   rw[if_neg C] at a;have c3:=c3 AA;by_cases j:z=39
   ·have y:((z:Int)==39)=true:=by rw[BP];omega
    rw[if_pos j] at a;subst a;clear j;go_enter func229,ntmps229;go_wp2_with (first
     | (go_at_call 235;refine f.out.mono ?_;rintro e w'⟨rfl,rfl⟩)
     | (go_at_call 236;refine l.out.mono ?_;rintro e w'⟨rfl,rfl⟩))
    go_ret2;exact⟨rfl,rfl⟩
   have y:((z:Int)==39)=false:=by rw[AP];omega
   rw[if_neg j] at a;subst a;clear j;go_enter func229,ntmps229;go_wp2_with (first
    | (go_at_call 235;refine f.out.mono ?_;rintro e w'⟨rfl,rfl⟩)
    | (go_at_call 236;refine l.out.mono ?_;rintro e w'⟨rfl,rfl⟩))
   go_ret2;exact⟨rfl,rfl⟩
  have E:((o:Int)==92)=false:=by rw[AP];omega
  rw[if_pos v] at a;subst a;clear v c2 c3 g;go_enter func229,ntmps229;go_wp2_with (go_at_call 235;refine f.out.mono ?_;rintro e w'⟨rfl,rfl⟩);go_ret2;exact⟨rfl,rfl⟩
 rw[u] at k a;have f:=LH k;clear k u g c3;simp only[if_true] at a;by_cases m:d.length<=2
 ·rw[if_pos m] at a;subst a;clear c2;go_enter func229,ntmps229;go_wp2_with (go_at_call 235;refine f.out.mono ?_;rintro e w'⟨rfl,rfl⟩);go_ret2;exact⟨rfl,rfl⟩
 rw[if_neg m] at a;have c2:=c2 AA;by_cases j:p=39
 ·have y:((p:Int)==39)=true:=by rw[BP];omega
  rw[if_pos j] at a;subst a;clear j;go_enter func229,ntmps229;go_wp2_with (go_at_call 235;refine f.out.mono ?_;rintro e w'⟨rfl,rfl⟩);go_ret2;exact⟨rfl,rfl⟩
 have y:((p:Int)==39)=false:=by rw[AP];omega
 rw[if_neg j] at a;subst a;clear j;go_enter func229,ntmps229;go_wp2_with (go_at_call 235;refine f.out.mono ?_;rintro e w'⟨rfl,rfl⟩);go_ret2;exact⟨rfl,rfl⟩
theorem lx_Literal(s:ByteArray)(w:World)(y:s.size<=maxLen):
 Calls prog 203 #[.string s] w λe w'=>e = .returned (.bool (H5 (Zh s)))/\Below w w w':=by
 have h:=Qh s;have a:=litB_lit (Zh s);by_cases l:s.size=0
 ·have g:H5 (Zh s)=false:=by unfold H5;rw[h,l];simp
  rw[g];have C:=Cp s l;clear g h a;go_enter func203,ntmps203;go_wp2;go_ret;exact⟨rfl,AK _ _⟩
 have f:0<s.size:=AA
 obtain⟨D,E⟩:=Zz8 s f;have v:=Yn (d:=0) (J0 s 0 f);rw[v,h] at a;have B:=LH l;clear l;by_cases m:(s[0]'f).toNat=39
 case neg =>
  have g:H5 (Zh s)=false:=by rw[a];simp[m]
  rw[g];have x:(((s[0]'f).toNat:Int)==39)=false:=by rw[AP];omega
  clear g h a v m;go_enter func203,ntmps203;go_wp2;go_ret;exact⟨rfl,AK _ _⟩
 have x:(((s[0]'f).toNat:Int)==39)=true:=by rw[BP];omega
 rw[m] at a;simp only[decide_true,Bool.true_and] at a;have F:=λw=>Lib.run_convert_string_bytes (P:=prog) w 9 72 5 s underlying9 underlying72 underlying5;have t:=bytesWorld_below w 5 s;have u:=lx_literal _ _ _ (Zh s) _ (bytesWorld_nums w 5 s y) (bytesOf_lt s);generalize H5 (Zh s)=r at *;generalize litN (Zh s)=p at *;obtain⟨j,k⟩:=p;simp only[] at u a;have q:=LH u;clear u h v m;by_cases n:k=0
 ·have z:((k:Int)==0)=true:=by rw[BP];omega
  have b:decide (k=0)=true:=by simp[n]
  rw[b] at a;clear b n;by_cases o:j=s.size
  ·have A:((j:Int)==(s.size:Int))=true:=by rw[BP];omega
   have c:decide (j=s.size)=true:=by simp[o]
   rw[c] at a;subst a;clear c o;go_enter func203,ntmps203;go_wp2_with (go_at_call 229;refine q.out.mono ?_;rintro e w'⟨rfl,rfl⟩);go_ret;exact⟨rfl,t⟩
  have A:((j:Int)==(s.size:Int))=false:=by rw[AP];omega
  have c:decide (j=s.size)=false:=by simp[o]
  rw[c] at a;subst a;clear c o;go_enter func203,ntmps203;go_wp2_with (go_at_call 229;refine q.out.mono ?_;rintro e w'⟨rfl,rfl⟩);go_ret;exact⟨rfl,t⟩
 have z:((k:Int)==0)=false:=by rw[AP];omega
 have b:decide (k=0)=false:=by simp[n]
 rw[b] at a;subst a;clear b n;go_enter func203,ntmps203;go_wp2_with (go_at_call 229;refine q.out.mono ?_;rintro e w'⟨rfl,rfl⟩);go_ret;exact⟨rfl,t⟩
theorem Zxr(S:List Nat):Ja S (Xu S)=Xu S:=(stepD_grows S).fix S
theorem Lh{t:Nat}(hi:i<S.length)(c:k<S.length)(b:(S.getD i 0).testBit k=true)(a:Yw S k t=true):Yw S i t=true:=by
 unfold Yw at a ⊢;rw[<-Zxr,Lz _ _ (by rw[Li];exact hi),DZ];rw[F4.2 ⟨k,by rw[Li];exact c,b,a⟩,Bool.or_true]
theorem iterD_close(S:List Nat){t:Nat}(hi:i<S.length)(m:Nat)(h:((Z3 (Ja S) m S).getD i 0).testBit t=true):Yw S i t=true:=by
 rcases Nat.le_total m S.length with a | a
 ·obtain⟨d,hd⟩:=Nat.exists_eq_add_of_le a;unfold Yw Xu;rw[hd];clear hd a
  induction d with
  | zero=>exact h
  | succ d c=>exact iterD_up S hi _ c
 have b:=M7 (f:=Ja S) (x:=S) (n:=S.length) (Zxr S) m a;rw[b] at h;exact h
theorem Ha{t:Nat}(hi:i<S.length)(h:(S.getD i 0).testBit t=true):Yw S i t=true:=iterD_close S hi 0 h
theorem Fi(S:List Nat):∀(m:Nat) {i k t:Nat},i<S.length->k<S.length->((Z3 (Ja S) m S).getD i 0).testBit k=true->Yw S k t=true->Yw S i t=true
 | 0,i,k,t,hi,hk,a,h2=>Lh hi hk a h2
 | m+1,i,k,t,hi,hk,a,h2=>by
   rw[Z3,Lz _ _ (by rw[U0];exact hi),DZ,CJ] at a;rcases a with a | a
   ·exact Fi S m hi hk a h2
   obtain⟨f,b,c,d⟩:=F4.1 a;rw[U0] at b;exact Lh hi b c (Fi S m b hk d h2)
theorem Zyy{t:Nat}(hi:i<S.length)(c:k<S.length)(a:Yw S i k=true)(b:Yw S k t=true):Yw S i t=true:=Fi S _ hi c a b
theorem cf_has(h:GH)(G:Gr)(s:Int)(w:World)(a:Yf w h G)(b:U3 s)(o:h.n1<=1000)(p:h.n2<=1000):
 Calls prog 46 #[GV h G.start,.int .i64 s] w λe w'=>e = .returned (.bool (G.has s))/\Below w w w':=by
 obtain⟨a1,n1,c1,a2,n2,c2,a3,n3,c3⟩:=h;have g:G.terms.length=n1:=a.terms.len;have j:G.nons.length=n2:=a.nons.len;have m:G.has s=if 0<=s then decide (s<(n1:Int)) else decide (-1-s<(n2:Int)):=by unfold Gr.has;rw[g,j]
 rw[m];simp only[] at o p;clear m g j a;by_cases k:0<=s
 ·rw[if_pos k];obtain⟨r,t⟩:=b;go_enter func46,ntmps46;go_wp2_with fail;go_ret;exact⟨AE,Zy _ _⟩
 rw[if_neg k];have f:=λw=>cf_non s w b AA;obtain⟨r,t⟩:=b;have d:decide (s<0)=true:=AG
 go_enter func46,ntmps46;have q:=Y1.new w 26 ⟨a1,n1,c1,a2,n2,c2,a3,n3,c3⟩ G.start;have l:=Zy w (.cells #[.slice a1 n1 c1,.slice a2 n2 c2,.slice a3 n3 c3,.int .i64 G.start] 26);have n:=LH f;clear f;go_wp2_with fail;generalize w.alloc (.cells #[.slice a1 n1 c1,.slice a2 n2 c2,.slice a3 n3 c3,.int .i64 G.start] 26)=c at *;obtain⟨B,u,v,y,z⟩:=q;simp only[] at u v y z;have A:=Yt c;refine Zs AB AB ?_;repeat (go_big_quiet_step ((go_at_call 87;with_reducible exact Qo (n.out _))))
 refine BK ?_;rintro _⟨x,rfl⟩;go_wp2_with fail;go_ret;exact⟨AE,l.trans ((Zr c x).mono l.size)⟩
theorem cf_named(s:ByteArray)(w:World)(d:s.size<=maxLen):
 Calls prog 159 #[.string s] w λe w'=>e = .returned (.bool (Q7 s))/\Below w w w':=by
 have c1:=lx_name s w;have c2:=lx_Literal s w d;unfold Q7;generalize Xi (Zh s)=p at *;generalize H5 (Zh s)=q at *;have a:=LH c1;have b:=LH c2;clear c1 c2;cases p
 ·go_enter func159,ntmps159;go_wp2_with (first
   | (go_at_call 103;(with_reducible refine a.out.mono ?_);rintro e w'⟨rfl,rfl⟩)
   | (go_at_call 203;(with_reducible refine b.out.mono ?_);rintro e w'⟨rfl,c⟩))
  go_ret;exact⟨rfl,c⟩
 go_enter func159,ntmps159;go_wp2_with (first
  | (go_at_call 103;(with_reducible refine a.out.mono ?_);rintro e w'⟨rfl,rfl⟩)
  | (go_at_call 203;(with_reducible refine b.out.mono ?_);rintro e w'⟨rfl,c⟩))
 go_ret;exact⟨rfl,AK _ _⟩
theorem cf_rule1(h:GH)(G:Gr)(m p:Nat)(s left:Int)(Ar:Option Addr)(A cr:Nat)(a:Int)(w:World)(o:Yf w h G)(v:U3 s)(r:h.n1<=1000)(t:h.n2<=1000)(y:Y1 w m h G.start)(z:Fl w p left Ar A cr a):
 Calls prog 167 #[.int .i64 s,.pointer (some ⟨m,0,none⟩),.pointer (some ⟨p,0,none⟩)] w λe w'=>e = .returned (.bool (!G.symOK a s))/\Below w.heap.size w w':=by
 have l:=cf_has h G s w o v r t;obtain⟨a1,n1,c1,a2,n2,c2,a3,n3,c3⟩:=h;have n:G.symOK a s=(G.has s&&!(decide (0<=s)&&decide (a=-1))):=rfl;rw[n];obtain⟨L,B,C,D,E⟩:=y;obtain⟨J,F,H,I⟩:=z;simp only[] at B C D E;generalize G.has s=b at *;have CH:=LH l;clear l o n;have x:(b=false)\/(b=true/\s<0)\/(b=true/\0<=s/\a=-1)\/(b=true/\0<=s/\a ≠ -1):=by
  cases b
  ·simp
  simp only[Bool.true_eq_false,false_or,true_and];omega
 rcases x with rfl | ⟨rfl,g⟩ | ⟨rfl,g,f⟩ | ⟨rfl,g,f⟩
 ·go_enter func167,ntmps167;go_wp2_with (go_at_call 46;(with_reducible refine CH.out.mono ?_);rintro e k⟨rfl,c⟩);go_ret;exact⟨rfl,c⟩
 ·have d:decide (0<=s)=false:=AG
  go_enter func167,ntmps167;go_wp2_with (go_at_call 46;(with_reducible refine CH.out.mono ?_);rintro e k⟨rfl,c⟩);go_ret;exact⟨by simp[d],c⟩
 ·have d:decide (0<=s)=true:=AG
  have q:(a == -1)=true:=by rw[BP];exact f
  have j:Hid (decide (a=-1)=true):=LH (by simp[f]);clear f;go_enter func167,ntmps167;go_wp2_with (go_at_call 46;(with_reducible refine CH.out.mono ?_);rintro e k⟨rfl,c⟩;have u:=(Jd c).1);go_ret;exact⟨by rw[d,j.out];rfl,c⟩
 have d:decide (0<=s)=true:=AG
 have q:(a == -1)=false:=by rw[AP];exact f
 have j:Hid (decide (a=-1)=false):=LH (by simp[f]);clear f;go_enter func167,ntmps167;go_wp2_with (go_at_call 46;(with_reducible refine CH.out.mono ?_);rintro e k⟨rfl,c⟩;have u:=(Jd c).1);go_ret;exact⟨by rw[d,j.out];rfl,c⟩
theorem fwK_in(h:UpF S F)(i:Nat)(c:k<S.length):UpF S (fwK i k F):=by
 refine⟨by rw[fwK_len];exact h.1,λj t b a=>?_⟩;unfold fwK at a;split at a
 ·rename_i d;rw[Jo] at a;split at a
  ·rename_i f;obtain⟨rfl,_⟩:=f;rw[DZ,CJ] at a;rcases a with a | a
   ·exact h.2 _ _ b a
   exact Zyy b c (h.2 _ _ b d) (h.2 _ _ c a)
  exact h.2 _ _ b a
 exact h.2 _ _ b a
theorem fwR_in(h:UpF S F)(i:Nat):∀m,m<=S.length->UpF S (fwR i m F)
 | 0,_=>h
 | m+1,hm=>by rw[Mm];exact fwK_in (fwR_in h i m AA) i AA
theorem fwI_in(h:UpF S F)(q:Nat):UpF S (fwI S.length q F):=by
 induction q with
 | zero=>exact h
 | succ q a=>rw[M9];exact fwR_in a q _ (AI _)
theorem Zul(S:List Nat)(q:Nat):∀p,UpF S (Z3 (fwI S.length q) p S)
 | 0=>⟨rfl,λi t hi h=>Ha hi h⟩
 | p+1=>by rw[Z3];exact fwI_in (Zul S q p) q
theorem Zsf(S:List Nat):Z3 (fwI S.length S.length) S.length S=Xu S:=by
 refine sets_ext (by rw[K5,Li]) λi hi t=>?_;rw[K5] at hi;rw[BZ];exact⟨λh=>(Zul S _ _).2 i t hi h,λh=>Zzl S _ hi h⟩
theorem J5.start(b:We S)(a:InS S)(hi:i<S.length):J5 S i (S.getD i 0) :=
 ⟨b.get i,λ_ h=>h,λt h=>⟨a i t h,Ha hi h⟩⟩
theorem order_goes{use b:Nat}(l:∀i t,use.testBit i=true->(S.getD i 0).testBit t=true->use.testBit t=true)(k:∀i,use.testBit i=true->i<S.length)(r:∀i,use.testBit i=true->Yw S i i=false)(o:Qx (U2 S use b) S.length=none):Ck use b=0:=by
 have key:∀(m i:Nat),(Ck use b).testBit i=true->(Xu S).getD i 0=m->False:=by
  intro m
  induction m using Nat.strongRecOn with
  | ind m v =>
    intro i hi y;rw[Nu,AR] at hi;have d:=k i hi.1;have f:=findB_none' o i d;unfold U2 at f;rw[hi.1,hi.2,Bool.true_and,Bool.true_and] at f;have p:Ck (S.getD i 0) b≠0:=by simpa using f
    obtain⟨t,a⟩:=Zvf p;rw[Nu,AR] at a;have g:=l i t hi.1 a.1;have u:=k t g;have j:Yw S i t=true:=Ha d a.1;have c:=r t g;have x:(Xu S).getD t 0<=(Xu S).getD i 0:=Zyd λq s=>Lh d u a.1 s;have z:(Xu S).getD t 0≠(Xu S).getD i 0:=λn=>by
     unfold Yw at j c;rw[n,j] at c;cases c
    exact v _ AA t (by rw[Nu,g,a.2];rfl) rfl
 apply DX;intro h;obtain⟨i,hi⟩:=Zvf h;exact key _ i hi rfl
theorem Prds.get(h:Prds w A n c ps){j:Nat}(u:j<n):
 ∃b a p Ar cr x y d f,A=some ⟨b,a,none⟩/\b<w.heap.size/\Hid (ps[j]? = some p)/\w.cell? ⟨b,a+j*5,none⟩=some (.string p.left)/\w.cell? ⟨b,a+j*5+1,none⟩=some (.complex .f64 x y)/\w.cell? ⟨b,a+j*5+2,none⟩=some (.slice Ar p.right.length cr) /\
 w.cell? ⟨b,a+j*5+3,none⟩=some (.string p.prec)/\w.cell? ⟨b,a+j*5+4,none⟩=some (.complex .f64 d f)/\Rfs w Ar p.right.length cr p.right:=by
 obtain⟨b,a,e,t,s⟩:=h.2.2.2 AA;have v:=h.1;have g:ps[j]? = some (ps[j]' AA):=AM AA;obtain⟨Ar,cr,x,y,d,f,k,l,m,o,q,r⟩:=s j _ g;exact⟨b,a,_,Ar,cr,x,y,d,f,e,t,LH g,k,l,m,o,q,r⟩
theorem Wc.len{p:Nat}(h:Wc w p ts):ts.length<=4000:=h.1
theorem rf_made(Ar:Option Addr)(v cr g n:Nat)(ss:List Int)(N:List Bool)(w:World)(l:Za .i64 w Ar v cr ss)(o:Z8 w g N)(L:N.length=n)(F:n<=1000)(t:∀s∈ss,-(n:Int)<=s/\s<=1000):
 Calls prog 115 #[.slice Ar v cr,.slice (some ⟨g,0,none⟩) n n] w λe w'=>e = .returned (.bool (Xj true N ss))/\w=w':=by
 obtain rfl:=l.len;have I:=l.cap;have C:=LH t;have z:=LH o;have m:Hid (Xj true N ss=ss.all λs=>if 0<=s then true else N.getD (Zp s) false):=rfl;clear t o;go_enter func115,ntmps115;go_wp2_with fail;go_loop [5] (λi=>∃(k:Nat),k<=ss.length/\i = .int .i64 (k:Int)/\Hid (∀j,j<k->∀y,ss[j]? = some y->(!(if 0<=y then true else N.getD (Zp y) false))=false)) (λi=>ss.length-(intOf i).toNat)
 case atStart=>exact⟨0,AU _,rfl,LH λj D=>AA⟩
 obtain⟨k,J,rfl,f⟩:=hrel;by_cases E:k<ss.length
 ·obtain⟨H,O,s,rfl,c,b,R⟩:=l.get E;obtain⟨G,S⟩:=C.out s (AL b.out);by_cases h:0<=s
  ·have a:(!(if 0<=s then true else N.getD (Zp s) false))=false:=by rw[if_pos h];rfl
   have d:=LH a;clear a;go_wp2_with fail;go_roundw
   case rel=>exact⟨k+1,AA,AF,LH (Vz f.out b.out d.out)⟩
   simp[intOf];omega
  obtain⟨j,D,r,M⟩:=Vy (s:=s) (n:=n) AA G F;have c0:=z.out.at (i:=j) AA;have q:N.getD j false=false->Xj true N ss=false:=λc=>by rw[m.out];exact Jy b.out (by rw[if_neg h,r];exact c)
  have a:N.getD j false=true->(!(if 0<=s then true else N.getD (Zp s) false))=false:=λc=>by rw[if_neg h,r,c];rfl
  generalize N.getD j false=x at *;have B:=LH q;have d:=LH a;clear q a;rcases (by cases x <;> simp:x=false\/x=true) with rfl | rfl
  ·go_wp2_with fail;go_ret;exact⟨by rw[B.out (by trivial)];rfl,rfl⟩
  go_wp2_with fail;go_roundw
  case rel=>exact⟨k+1,AA,AF,LH (Vz f.out b.out (d.out (by trivial)))⟩
  simp[intOf];omega
 obtain rfl:k=ss.length:=AA
 have p:Xj true N ss=true:=by
  rw[m.out];exact Cv λj y u=>by
   have:=f.out j (AN.1 u).1 y u;rw[Bool.not_eq_eq_eq_not] at this;exact this
 have A:=LH p;clear p;go_wp2_with fail;go_ret;exact⟨by rw[A.out];rfl,rfl⟩
theorem reach_least(X:Nat->Prop)(h0:X G.start.toNat)(a:∀r∈G.rules,X r.left.toNat->Xj true (Zt G) r.right=true->∀s∈r.right,s<0->X (Zp s))(h:(Z5 G).getD i false=true):X i:=by
 unfold Z5 at h;have key:∀(k i:Nat),(Z3 (Yy (Yp (Zt G)) G.rules) k (Xv G)).getD i false=true->X i:=by
  intro k
  induction k with
  | zero =>
    intro i h;rw[Z3] at h;unfold Xv at h;rcases (Uh _ _ _).1 h with h | ⟨rfl,_⟩
    ·rw[Zve] at h;cases h
    ·exact h0
  | succ k b=>intro i h;exact Zyx X G.rules a b i h
 exact key _ i h
theorem Nd:G.right=true↔G.termsOK=true/\G.nonsOK=true/\(1<=G.rules.length/\G.rules.length<=40)/\(0<=G.start/\G.start<(G.nons.length:Int))/\G.leftsGo G.rules (-1)=some ((G.nons.length:Int)-1):=by
 unfold Gr.right;simp only[AR,decide_eq_true_eq,and_assoc]
theorem Mf(xs:List Nat)(h:Lim xs)(a:Mo xs):limbs (val xs)=xs :=
 val_inj _ _ (Z9 _) h (Fk _) a (Yd _)
theorem Vg(xs:List Nat)(h:Lim xs):Xx xs=limbs (val xs):=by
 obtain⟨h1,a,_⟩:=Zx3 _ xs rfl;rw[<-h1,Mf _ (neatL_lim xs h) a]
theorem Zs4(a:List Nat)(h:Lim a):(if (Xx a).length<=32 then (Xx a,0) else (([]:List Nat),2))=Xm (val a):=by
 rw[Vg a h];unfold Xm;by_cases b:val a<big
 ·rw[if_pos b,if_pos ((Vt _ 32).2 (by rw[<-Zwf];exact b))]
 rw[if_neg b,if_neg (λc=>b (by rw[Zwf];exact (Vt _ 32).1 c))]
theorem Zxu(A:Option Addr)(n c:Nat)(l:List Int)(w:World)(h:Za .i64 w A n c l)(z:n<=100000):
 Calls prog 70 #[.slice A n c] w λe w'=>∃g,e = .returned g/\w'.ownsRow w 3 1 g n (ints .i64 l)/\Below w w w':=by
 obtain rfl:=h.len;rcases A with _ | a
 ·have d:l=[]:=by
   rcases l with _ | ⟨x,l⟩
   ·rfl
   obtain⟨k,p,s,b,_⟩:=h.get (j:=0) AE;cases b
  subst d;refine (Tryz.slices_Clone_int_nil 0 c w).mono ?_;rintro e w'⟨rfl,rfl⟩;exact⟨_,rfl,BJ _ _ _ _,AK _ _⟩
 by_cases d:l=[]
 ·subst d;refine (Tryz.slices_Clone_int_zero a c w).mono ?_;rintro e w'⟨g,rfl,f,_,m⟩;exact⟨_,rfl,f,m⟩
 have u:0<l.length:=List.length_pos_iff.2 d;obtain⟨k,p,s,b,_⟩:=h.get u;injection b with b;subst b;have r:∀j,j<l.length->w.cell? ⟨k,p+j,none⟩=some (.int .i64 (l.getD j 0)):=λj t=>by
  obtain⟨y,B,C,o,_,q,v⟩:=h.get t;injection o with o;injection o with e1 e2 e3;subst e1;subst e2;rw[AO,q.out];exact v
 refine (Tryz.slices_Clone_int k p l.length c l w (AI _) AA r).mono ?_;rintro e w'⟨g,rfl,f,_,m⟩;rw[AQ (AI _)] at f;exact⟨_,rfl,f,m⟩
theorem Jc.len{N:Nat}{a:List Nat}(h:Jc w B A n c N a tab):a.length=n:=by
 have:=h.own.1;simpa using this
theorem Bg(a:G.Fits){x:Rul}(d:x∈G.rules)(f:n<=10):J1 x.right n/\∀s∈x.right,G.has s=true:=by
 have h1:=a.sym x d;have g:=a.n2;have j:=a.n1;refine⟨⟨λs b=>⟨by have:=(h1 s b).1;omega,by have:=(h1 s b).2;omega⟩,a.len x d,f⟩,λs b=>?_⟩;have:=h1 s b;unfold Gr.has;split <;> (rw[BB];omega)
theorem Ul(xs:List Nat)(h:Lim xs)(a:Zm xs=true):xs=limbs (val xs)/\val xs<big:=by
 refine⟨(Mf xs h (X8 xs a)).symm,?_⟩;have h1:=Ui xs h;simp[Zm] at a;rw[Zwf];exact AJ h1 (DD AC a.1)
section
open Go.RowKit Go.Shelf
attribute [local go_sem] Oper.semAt_some
open Go.RowKit Go.Shelf Go.Sort
theorem Y1.below{h:GH}{c:Int}(l:Y1 w g h c)(b:Below w w w'):Y1 w' g h c:=by
 obtain⟨a,d,f,j,k⟩:=l;refine⟨AJ a b.size,?_,?_,?_,?_⟩
 ·rw[b.cell (p:=⟨g,0,none⟩) a];exact d
 ·rw[b.cell (p:=⟨g,1,none⟩) a];exact f
 ·rw[b.cell (p:=⟨g,2,none⟩) a];exact j
 rw[b.cell (p:=⟨g,3,none⟩) a];exact k
end
theorem Fl.below{left:Int}{cr:Nat}{d:Int}(k:Fl w g left Ar c cr d)(b:Below w w w'):Fl w' g left Ar c cr d:=by
 obtain⟨a,f,h,j⟩:=k;refine⟨AJ a b.size,?_,?_,?_⟩
 ·rw[b.cell (p:=⟨g,0,none⟩) a];exact f
 ·rw[b.cell (p:=⟨g,1,none⟩) a];exact h
 rw[b.cell (p:=⟨g,2,none⟩) a];exact j
theorem Zzq(w:World)(t u:TypeId)(h:GH)(a left:Int)(Ar:Option Addr)(b cr:Nat)(c:Int):
 let X:=(w.alloc (.cells #[.slice h.a1 h.n1 h.c1,.slice h.a2 h.n2 h.c2,.slice h.a3 h.n3 h.c3,.int .i64 a] t)).alloc (.cells #[.int .i64 left,.slice Ar b cr,.int .i64 c] u)
 Below w w X/\Y1 X w h a/\Fl X (w.heap.size+1) left Ar b cr c:=by
 intro X;have g:=Y1.new w t h a;have f:=Zl w (.cells #[.slice h.a1 h.n1 h.c1,.slice h.a2 h.n2 h.c2,.slice h.a3 h.n3 h.c3,.int .i64 a] t);refine⟨(Zy w _).alloc (by rw[f];omega) _,g.below (Zy _ _),?_⟩;have d:=Fl.new (w.alloc (.cells #[.slice h.a1 h.n1 h.c1,.slice h.a2 h.n2 h.c2,.slice h.a3 h.n3 h.c3,.int .i64 a] t)) u left Ar b cr c;rw[f] at d;exact d
section
open Go.RowKit Go.Maps
theorem cf_levels(A:Option Addr)(n c:Nat)(l:List Trm)(w:World)(h:N8 w A n c l)(hn:n<=1000)(C:∀t∈l,0<=t.level/\t.level<=24/\0<=t.assoc/\t.assoc<=3):
 Calls prog 160 #[.slice A n c] w λe w'=>e = .returned (.bool (Jh l))/\Below w.heap.size w w':=by
 obtain rfl:=h.len;have a2:=h.cap;have Hb:=LH C;clear C;have ap:=@run_makeMap prog;have U:=Zy w (.map #[] 0);have W:=World.ownsMap_made w prog 3 (plainElem (H:=Unit) prog 3);go_enter func160,ntmps160;go_wp2_with fail;go_loopw [4,6,7,11] (λtop _ _ i wr=>∃(k:Nat) (D:DataW Unit),k<=l.length/\i = .int .i64 (k:Int)/\top = .int .i64 (J7 (l.take k))/\wr.ownsMap prog 3 (plainElem prog 3) w.heap.size k D/\Below w.heap.size w wr/\Hid (Ways D (l.take k))/\Hid (0<=J7 (l.take k)/\J7 (l.take k)<=24)/\Hid (∀j,j<k->∀y,l[j]? = some y->(!Fo l j y)=false)) (λ_ _ _ i _=>l.length-(intOf i).toNat)
 case atStart=>exact⟨0,.map [],AU _,rfl,rfl,W,U,LH Ways.start,LH (by simp[J7]),LH λj Z=>AA⟩
 clear W U ap;obtain⟨k,D,hk,rfl,rfl,E,B,z,I,G⟩:=hrel;have a4:=E.lt;by_cases ao:k<l.length
 ·obtain⟨b,a6,t,rfl,C,r,q0,q1,q2⟩:=h.get ao;rw[<-B.cell (by exact C)] at q0 q1 q2;have am:=Hb.out t (AL r.out);have ab:l.take (k+1)=l.take k++[t]:=by rw[DA,r.out];rfl
  have s:=LH ab;obtain⟨g1,g2,g3,g4⟩:=am;obtain⟨t1,t2⟩:=I.out;have V:∀o,Below w.heap.size w (wr.alloc o):=λo=>B.alloc B.size o;have v:=LH V;have x:Hid (∀o,(wr.alloc o).ownsMap prog 3 (plainElem prog 3) w.heap.size k D):=LH λo=>E.alloc o;clear V ab E;by_cases m:t.level=0
  ·have d1:(t.level==0)=true:=by rw[BP];exact m
   have p:=LH m;clear m;go_wp2_with fail;go_roundw
   case rel=>exact⟨k+1,D,AA,AF,by rw[s.out,Dz,if_pos p.out],(x.out _).mono AA,v.out _,by rw[s.out];exact LH (z.out.zero p.out),by rw[s.out,Dz,if_pos p.out];exact I,LH (Lr G.out r.out (by simp[Fo,p.out]))⟩
   simp[intOf];omega
  have d1:(t.level==0)=false:=by rw[AP];exact m
  have p:=LH m;have R:1<=t.level:=AA
  have L:keyOf prog 3 (.int .i64 t.level)=some (.int .i64 t.level):=keyOf_int_mk underlying3 (WalkArith.wf_i64 AA);have aa:=z.out.at_ t.level R;have X:Fo l k t=(decide (Vl (l.take k) t.level=0) || decide (Vl (l.take k) t.level=t.assoc)):=by
   unfold Fo;rw[show decide (t.level=0)=false from by simp[m],Bool.false_or]
  have M:=LH X;generalize Vl (l.take k) t.level=f at *;have N:=LH aa;clear m aa X;by_cases g:f≠0/\f≠t.assoc
  ·have F:Hid (Jh l=false):=LH (by
    have:consOK l=false:=Lp r.out (by rw[M.out];simp[g.1,g.2]);unfold Jh;rw[this];rfl)
   have P:(f != 0)=true:=by rw[BN];exact g.1
   have d3:(f != t.assoc)=true:=by rw[BN];exact g.2
   clear g;go_wp2_with (at_lookup;refine wpList_lookup_own_int _ rfl _ _ 154 rfl 3 3 .i64 law3 underlying154 underlying3 (zero3 _) w.heap.size k _ rfl (x.out _) _ _ rfl L ?_;intro c' d au;rw[N.out] at d;injection d with d;injection d with _ d;subst d);go_ret;exact⟨by rw[F.out];rfl,v.out _⟩
  have ag:Hid ((!Fo l k t)=false):=LH (by
   rw[M.out];by_cases q:f=0
   ·simp[q]
   by_cases u:f=t.assoc
   ·simp[u]
   exact absurd ⟨q,u⟩ g)
  have hw:(f != 0)=false\/((f != 0)=true/\(f != t.assoc)=false):=by
   rw[BS,BS,BN];by_cases q:f=0
   ·exact .inl q
   exact .inr ⟨q,by by_cases u:f=t.assoc;exact u;exact absurd ⟨q,u⟩ g⟩
  have O:Hid (J7 (l.take (k+1))=max (J7 (l.take k)) t.level):=LH (by rw[s.out,Dz,if_neg p.out]);have J:=Wg wr 91 #[.string t.name,.int .i64 t.level,.int .i64 t.assoc] 1;simp only[DT,List.getElem?_cons_zero,List.getElem?_cons_succ] at J;have af:=LH J;clear g J;rcases hw with P | ⟨P,d3⟩;all_goals
   go_wp2_with (first
    | (at_lookup;refine wpList_lookup_own_int _ rfl _ _ 154 rfl 3 3 .i64 law3 underlying154 underlying3 (zero3 _) w.heap.size k _ rfl (x.out _) _ _ rfl L ?_;intro c' d au;rw[N.out] at d;injection d with d;injection d with _ d;subst d)
    | (at_mapUpdate;refine wpList_mapUpdate_own _ rfl _ _ _ 154 rfl 3 3 law3 underlying154 _ w.heap.size k _ rfl (x.out _) (by unfold maxLen;omega) _ _ _ rfl rfl L _ [] (plainElem_int underlying3 (WalkArith.wf_i64 AA)) ?_;intro w4 aq Y;have r1:=(DO (a:=⟨wr.heap.size,1,none⟩) (Y.block wr.heap.size AE (by intro S;injection S with S;omega))).trans af.out))
   go_roundw
   case rel=>exact⟨k+1,_,AA,AF,by rw[O.out],aq,(v.out _).grown Y (v.out _).size (λj Z=>by cases Z;exact AI _),by rw[s.out];exact LH (z.out.more R g2),LH (by rw[O.out];omega),LH (Lr G.out r.out ag.out)⟩
   simp[intOf];omega
 obtain rfl:k=l.length:=AA
 have hL:((l.length:Int)<(l.length:Int))=False:=AE
 have F:Hid (Jh l=(((Maps.size D:Nat):Int)==J7 l)):=LH (by
  have hc:consOK l=true:=Kc λj y hy=>by
   have:=G.out j (AN.1 hy).1 y hy;simpa using this
  have T:=z.out.size_;have h2:=I.out;rw[AQ (AI _)] at T h2;unfold Jh;rw[hc,T,Bool.true_and,BZ,BB,BP])
 go_wp2_with (at_len;refine wpList_len_own _ rfl _ 154 rfl 3 3 underlying154 _ w.heap.size _ _ rfl E ?_);go_ret;exact⟨by rw[F.out];rfl,B⟩
theorem cf_terms(A:Option Addr)(n c:Nat)(l:List Trm)(w:World)(h:N8 w A n c l)(hn:n<=1000)(V:∀t∈l,t.name.size<=maxLen):
 Calls prog 98 #[.slice A n c] w λe w'=>e = .returned (.bool (H0 l))/\Below w w w':=by
 obtain rfl:=h.len;have a3:=h.cap;have Hs:=LH V;have Hh:=LH h;clear V;go_enter func98,ntmps98;go_wp2_with fail;go_loopw [4,7] (λ_ i wr=>∃(k:Nat),k<=l.length/\i = .int .i64 (k:Int)/\Below w w wr/\Hid (∀j,j<k->∀y,l[j]? = some y->(!Up y)=false)) (λ_ i _=>l.length-(intOf i).toNat)
 case atStart=>exact⟨0,AU _,rfl,AK _ _,LH λj hj=>AA⟩
 obtain⟨k,hk,rfl,f,N⟩:=hrel;by_cases ar:k<l.length
 ·obtain⟨b,a6,t,rfl,hb,C,q0,q1,q2⟩:=h.get ar;rw[<-f.cell (by exact hb)] at q0 q1 q2;have W:=Hs.out t (AL C.out);have G:=f.alloc f.size (.cells #[.string t.name,.int .i64 t.level,.int .i64 t.assoc] 91);have p0:=Wg wr 91 #[.string t.name,.int .i64 t.level,.int .i64 t.assoc] 0;have v:=Wg wr 91 #[.string t.name,.int .i64 t.level,.int .i64 t.assoc] 1;have J:=Wg wr 91 #[.string t.name,.int .i64 t.level,.int .i64 t.assoc] 2;have p5:=Zl wr (.cells #[.string t.name,.int .i64 t.level,.int .i64 t.assoc] 91);simp only[DT,List.getElem?_cons_zero,List.getElem?_cons_succ] at p0 v J;go_wp2_with fail;generalize wr.alloc (.cells #[.string t.name,.int .i64 t.level,.int .i64 t.assoc] 91)=O at *;have m:wr.heap.size<O.heap.size:=AA
  clear p5 q0 q1 q2;generalize wr.heap.size=gt at *;have q:=LH ((cf_named t.name O W).mono λe w' I=>And.intro I.1 (And.intro (Jd I.2).1 (LH (G.trans (I.2.mono G.size)))));have P:=λw=>Jx t.level 0 24 w;have R:=λw=>Jx t.assoc 0 3 w;have U:Up t=(Q7 t.name&&Yb t.level 0 24&&Yb t.assoc 0 3&&(decide (t.level=0)==decide (t.assoc=0))):=rfl;have X:Yb t.level 0 24=true->0<=t.level/\t.level<=24:=Ud;have Y:Yb t.assoc 0 3=true->0<=t.assoc/\t.assoc<=3:=Ud;have s:=LH U;clear U;generalize Q7 t.name=g at *;generalize Yb t.level 0 24=u at *;generalize Yb t.assoc 0 3=D at *;have z:=LH P;have L:=LH R;have ak:=LH X;have a0:=LH Y;clear P R W G X Y;have aw:g=false\/(g=true/\u=false)\/(g=true/\u=true/\D=false)\/(g=true/\u=true/\D=true):=by cases g <;> cases u <;> cases D <;> simp
  have T:Up t=false->H0 l=false:=λhf=>by
   have:=Jy (p:=Up) C.out hf;unfold H0;rw[this];rfl
  have r:=LH T;clear T;rcases aw with rfl | ⟨rfl,rfl⟩ | ⟨rfl,rfl,rfl⟩ | ⟨rfl,rfl,rfl⟩
  ·go_wp2_with (go_at_call 159;(with_reducible refine q.out.mono ?_);rintro e x⟨rfl,d,a⟩);go_ret;exact⟨by rw[r.out (by rw[s.out];rfl)];rfl,a.out⟩
  ·go_wp2_with (first
    | (go_at_call 159;(with_reducible refine q.out.mono ?_);rintro e x⟨rfl,d,a⟩;have aa:=(d _ 1 m).trans v)
    | (go_at_call 99;(with_reducible refine (z.out _).mono ?_);rintro e w4⟨rfl,rfl⟩))
   go_ret;exact⟨by rw[r.out (by rw[s.out];rfl)];rfl,a.out⟩
  ·have Hy:=ak.out rfl;go_wp2_with (first
    | (go_at_call 159;(with_reducible refine q.out.mono ?_);rintro e x⟨rfl,d,a⟩;have aa:=(d _ 1 m).trans v;have ax:=(d _ 2 m).trans J)
    | (go_at_call 99;(with_reducible refine (z.out _).mono ?_);rintro e w4⟨rfl,rfl⟩)
    | (go_at_call 99;(with_reducible refine (L.out _).mono ?_);rintro e w5⟨rfl,rfl⟩))
   go_ret;exact⟨by rw[r.out (by rw[s.out];rfl)];rfl,a.out⟩
  have ap:((t.level==0)=true/\(t.assoc==0)=true/\Up t=true)\/((t.level==0)=false/\(t.assoc==0)=false/\Up t=true)\/((t.level==0)=true/\(t.assoc==0)=false/\Up t=false)\/((t.level==0)=false/\(t.assoc==0)=true/\Up t=false):=by
   rw[BP,BP,AP,AP,s.out];by_cases g1:t.level=0 <;> by_cases g2:t.assoc=0 <;> simp[g1,g2]
  rcases ap with ⟨E,F,o⟩ | ⟨E,F,o⟩ | ⟨E,F,o⟩ | ⟨E,F,o⟩;all_goals
   have Hx:=LH o;clear o;go_wp2_with (first
    | (go_at_call 159;(with_reducible refine q.out.mono ?_);rintro e x⟨rfl,d,a⟩;have aa:=(d _ 1 m).trans v;have ax:=(d _ 2 m).trans J)
    | (go_at_call 99;(with_reducible refine (z.out _).mono ?_);rintro e w4⟨rfl,rfl⟩)
    | (go_at_call 99;(with_reducible refine (L.out _).mono ?_);rintro e w5⟨rfl,rfl⟩))
   first
    | (go_ret;exact⟨by rw[r.out Hx.out];rfl,a.out⟩)
    | (go_roundw
       case rel=>exact⟨k+1,AA,AF,a.out,LH (Vz N.out C.out (by rw[Hx.out];rfl))⟩
       simp[intOf];omega)
 obtain rfl:k=l.length:=AA
 have H:l.all Up=true:=Cv λj y Z=>by
  have:=N.out j (AN.1 Z).1 y Z;simpa using this
 have ah:=LH H;have M:Hid (H0 l=(decide (l.length<=24)&&Jh l)):=LH (by unfold H0;rw[H];rfl);clear H;by_cases S:l.length<=24
 ·have CL:=LH (cf_levels A l.length c l wr (Hh.out.below f) hn λt ht=>by
   have:=Kp ((BG.1 ah.out) t ht);exact⟨this.2.1,this.2.2.1,this.2.2.2.1,this.2.2.2.2.1⟩)
  have B:Hid (H0 l=Jh l):=LH (by rw[M.out,DY S];rfl);go_wp2_with (go_at_call 160;(with_reducible refine CL.out.mono ?_);rintro e x⟨rfl,ao⟩);go_ret;exact⟨by rw[B.out];rfl,Zz f ao⟩
 have B:Hid (H0 l=false):=LH (by rw[M.out,BR S];rfl);go_wp2_with fail;go_ret;exact⟨by rw[B.out];rfl,f⟩
theorem Blk.below(h:Blk w g t cs)(a:Below B w w')(b:g<B):Blk w' g t cs:=(a.block g b).trans h
theorem Blk.ext(h:Blk w g t cs)(a:Below w w w'):Blk w' g t cs:=h.below a h.lt
theorem made_bools(n:Nat):madeCells #[Value.bool false] n=(Qk (List.replicate n false)).toArray:=by
 apply Array.ext
 ·simp[madeCells,Qk]
 intro j a b;simp[madeCells,Qk,Nat.mod_one]
theorem Nt(n:Nat)(h:n<=1000)(w:World):
 (Instr.makeSlice 97 (.int .i64 (n:Int)) (.int .i64 (n:Int))).run prog w = .ok (.slice (some ⟨w,0,none⟩) n n) (w.alloc (.cells (Qk (List.replicate n false)).toArray 4)):=by
 obtain⟨i,d,g,f,c⟩:=info_parts Tryz.infoBool;have b:(i.bytes:Int)*(n:Int)<=281474976710656:=by rw[c];omega
 have a:=run_make (P:=prog) w 97 4 i (.bool false) underlying97 d g .i64 .i64 n n AA AA b AA;simp only[DF] at a;rw[a,f,Ep];simp only[Value.cells,made_bools]
end
theorem tr_bare(left:Int)(Ar:Option Addr)(cr:Nat)(ss:List Int)(a:Int)(w:World)(j:Za .i64 w Ar ss.length cr ss):
 Calls prog 152 #[.agg #[.int .i64 left,.slice Ar ss.length cr,.int .i64 a]] w λe w'=>e = .returned (.bool (!ss.any λs=>decide (0<=s)))/\Below w w w':=by
 have c:=Zy w (.cells #[.int .i64 left,.slice Ar ss.length cr,.int .i64 a] 52);have h:=Fl.new w 52 left Ar ss.length cr a;go_enter func152,ntmps152;have⟨z5,z0,z1,z2⟩:=h;go_wp2_with fail;generalize w.alloc (.cells #[.int .i64 left,.slice Ar ss.length cr,.int .i64 a] 52)=b at *;have f:Zyw 198 #[] (Value.int .i64) b ss (λs=>decide (0<=s)):=λs _ w' _=>by
  show Calls prog 198 #[.int .i64 s] w' _;exact (tr_bare1 s w').mono λe l d=>⟨d.1,by rw[<-d.2];exact AK _ _⟩
 (with_reducible refine (U1 Ar ss.length cr ss 198 #[] (λs=>decide (0<=s)) b enters_bare1 (j.below c) f).mono ?_);rintro e k⟨rfl,g⟩;go_wp2_with fail;go_ret;exact⟨rfl,Zz c g⟩
theorem F7(left:Int)(Ar:Option Addr)(cr g n:Nat)(ss:List Int)(a:Int)(N:List Bool)(w:World)(v:Za .i64 w Ar ss.length cr ss)(l:Z8 w g N)(t:N.length=n)(u:n<=1000)(x:∀s∈ss,-(n:Int)<=s/\s<=1000):
 Calls prog 108 #[.agg #[.int .i64 left,.slice Ar ss.length cr,.int .i64 a],.slice (some ⟨g,0,none⟩) n n] w λe w'=>e = .returned (.bool (!ss.any (Cf N)))/\Below w w w':=by
 have d:=Zy w (.cells #[.int .i64 left,.slice Ar ss.length cr,.int .i64 a] 52);have p:=Fl.new w 52 left Ar ss.length cr a;go_enter func108,ntmps108;have b:=d.alloc d.size (.cells #[.slice (some ⟨g,0,none⟩) n n] 97);have q:=p.below (Zy _ (.cells #[.slice (some ⟨g,0,none⟩) n n] 97));have j:=Blk.new (w.alloc (.cells #[.int .i64 left,.slice Ar ss.length cr,.int .i64 a] 52)) 97 #[.slice (some ⟨g,0,none⟩) n n];have k:=Zl w (.cells #[.int .i64 left,.slice Ar ss.length cr,.int .i64 a] 52);rw[k] at j;have⟨z5,z0,z1,z2⟩:=q;clear k;go_wp2_with fail;generalize (w.alloc (.cells #[.int .i64 left,.slice Ar ss.length cr,.int .i64 a] 52)).alloc (.cells #[.slice (some ⟨g,0,none⟩) n n] 97)=c at *;have m:Zyw 170 #[.pointer (some ⟨w+1,0,none⟩)] (Value.int .i64) c ss (Cf N):=λs y w' f=>by
  have r:w'.cell? ⟨w+1,0,none⟩=some (.slice (some ⟨g,0,none⟩) n n):=by
   have:=Blk.cell (Blk.ext j f) 0;simpa using this
  exact (tr_within1 s (w.heap.size+1) g n N w' r (Blk.ext (Blk.ext l b) f) t u (x s y)).mono λe A h=>⟨h.1,by rw[<-h.2];exact AK _ _⟩
 (with_reducible refine (U1 Ar ss.length cr ss 170 _ (Cf N) c enters_within1 (v.below b) m).mono ?_);rintro e z⟨rfl,o⟩;go_wp2_with fail;go_ret;exact⟨rfl,Zz b o⟩
theorem Kq.below(h:Kq w B A n c ts)(a:Below w w w'):Kq w' B A n c ts:=h.keep a.size λk _ b=>a.block k b
theorem Rfs.below(h:Rfs w A n c ss)(a:Below w w w'):Rfs w' A n c ss:=h.keep a.size λb _ _ d=>a.block b d
theorem Prds.below(h:Prds w A n c ps)(a:Below w w w'):Prds w' A n c ps:=by
 refine⟨h.1,h.2.1,h.2.2.1,λs=>?_⟩;obtain⟨b,f,e,d,r⟩:=h.2.2.2 s;refine⟨b,f,e,AJ d a.size,λj p t=>?_⟩;rw[a.cell (p:=⟨b,f+j*5,none⟩) d,a.cell (p:=⟨b,f+j*5+1,none⟩) d,a.cell (p:=⟨b,f+j*5+2,none⟩) d,a.cell (p:=⟨b,f+j*5+3,none⟩) d,a.cell (p:=⟨b,f+j*5+4,none⟩) d];obtain⟨Ar,cr,x,y,u,v,g,k,l,m,o,q⟩:=r j p t;exact⟨Ar,cr,x,y,u,v,g,k,l,m,o,q.below a⟩
theorem Blk.hidden(h:Blk w g t cs)(a:Hid (Below w w w')):Blk w' g t cs:=h.ext a.out
section
open Go.Maps (Keyed IsMap Tidy)
theorem Z1.none_iff(h:Z1 w A n c b x):(b=false/\n=0)↔x=0:=by
 obtain⟨rfl,f⟩:=h;have a:=f.len;by_cases d:x<big
 ·rw[Z7 d] at a ⊢;simp only[true_and] at a ⊢;rw[<-a];exact Lq
 rw[Wl d];have g:0<big:=by unfold big;generalize 1024=k;exact Nat.two_pow_pos k
 constructor
 ·rintro⟨h,_⟩;cases h
 rintro rfl;exact absurd g d
end
theorem Zs5(h:Z1 w A n c b x):(x=0/\n=0/\b=false)\/(x≠0/\((n:Int)==0)=false/\b=false)\/(x≠0/\n=0/\b=true):=by
 have h0:=h.none_iff;have h1:=h.1;have a:=h.2.len;by_cases f:x<big
 ·rw[Z7 f] at h1 a;simp only at h1 a;subst h1;by_cases d:n=0
  ·exact .inl ⟨h0.1 ⟨rfl,d⟩,d,rfl⟩
  exact .inr (.inl ⟨λe=>d (h0.2 e).2,by simpa using d,rfl⟩)
 rw[Wl f] at h1 a;have:=Zsx;exact .inr (.inr ⟨AA,a.symm,h1⟩)
end Go.Proofs.YtggbjdmpjidhgaaGreatDoor
