/- Words for slices that read as strings; a string's bytes appended. -/
import Derived.Test.YtggbjdmpjidhgaaGreatDoorY01
import Derived.Test.YtggbjdmpjidhgaaGreatDoorY02
import Derived.Test.YtggbjdmpjidhgaaGreatDoorY03
set_option linter.all false
set_option maxHeartbeats 1500000
set_option maxRecDepth 100000
namespace Go.Proofs.YtggbjdmpjidhgaaGreatDoor
open Go.RowKit Go.Proofs.Tryz
variable{f:List Bool->List Bool}{F S xs:List Nat}{x i k b n c j q g:Nat}{t:TypeId}{w w':World}{A:Option Addr}{ss:List ByteArray}{ps:List Prd}{P N:List Bool}{s:Int}{l:List Int}{D:DataW Unit}{p:List Trm}{cs:Array Value}
theorem Zvj(c:Nat)(w:World)(j:c<256):
 Calls prog 165 #[.int .u8 (c:Int)] w λe w'=>e = .returned (.bool (Xf c))/\w=w':=by
 have a:=letter_fact c j;have b:=(bits_or c).resolve_right AA;have k:∃v:Nat,bits BinOp.or .u8 (c:Int) 32=(v:Int)/\Xf c=(decide (c=95) || (decide (97<=v)&&decide (v<=122))):=⟨_,b,a⟩;clear a b;obtain⟨v,m,a⟩:=k;have d:=LH a;clear a;have l:c=95\/(c≠95/\v<97)\/(c≠95/\97<=v/\v<=122)\/(c≠95/\97<=v/\122<v):=AA
 rcases l with h | ⟨h,g⟩ | ⟨h,g,f⟩ | ⟨h,g,f⟩;all_goals
  go_enter func165,ntmps165;go_wp2;go_ret;refine⟨Jf ?_,rfl⟩;rw[d];rw[BZ];simp only[BX,AS,BO,BM,ne_eq,Bool.not_eq_true',decide_eq_true_eq,BA,Bool.false_eq_true,true_iff,false_iff,iff_true,iff_false];omega
theorem lx_plain(c:Nat)(w:World)(g:c<256):
 Calls prog 235 #[.int .u8 (c:Int)] w λe w'=>e = .returned (.bool (Mt c))/\w=w':=by
 have d:c<32\/(32<=c/\c<=126/\c=39)\/(32<=c/\c<=126/\c=92)\/(32<=c/\c<=126/\c≠39/\c≠92)\/126<c:=AA
 rcases d with g0 | ⟨g0,a,b⟩ | ⟨g0,a,b⟩ | ⟨g0,a,b,f⟩ | g0;all_goals
  go_enter func235,ntmps235;go_wp2;all_goals
   go_ret;refine⟨Jf ?_,rfl⟩;unfold Mt;rw[BZ];simp only[BX,AS,BO,BM,ne_eq,Bool.not_eq_true',decide_eq_true_eq,BA,Bool.false_eq_true,true_iff,false_iff,iff_true,iff_false];omega
theorem lx_escaped(c:Nat)(w:World)(g:c<256):
 Calls prog 236 #[.int .u8 (c:Int)] w λe w'=>e = .returned (.bool (Q1 c))/\w=w':=by
 have a:c=110\/c=116\/c=92\/c=39\/(c≠110/\c≠116/\c≠92/\c≠39):=AA
 rcases a with g0 | g0 | g0 | g0 | ⟨g0,b,d,f⟩;all_goals
  go_enter func236,ntmps236;go_wp2;all_goals
   go_ret;refine⟨Jf ?_,rfl⟩;unfold Q1;rw[BZ];simp only[BX,AS,BO,BM,ne_eq,Bool.not_eq_true',decide_eq_true_eq,BA,Bool.false_eq_true,true_iff,false_iff,iff_true,iff_false];omega
theorem lx_inner(c:Nat)(w:World)(j:c<256):
 Calls prog 166 #[.int .u8 (c:Int)] w λe w'=>e = .returned (.bool (Wa c))/\w=w':=by
 have a:=Zvj c w j;cases b:Xf c;all_goals
  rw[b] at a;have d:=LH a;have f:=LH b;have k:(c<46/\((c:Int)==46)=false)\/((c:Int)==46)=true\/(46<c/\c<48/\((c:Int)==46)=false)\/(48<=c/\c<=57/\((c:Int)==46)=false)\/(57<c/\((c:Int)==46)=false):=by
   simp only[BO,AQ,ne_eq];omega
  rcases k with ⟨g,g0⟩ | g0 | ⟨g,h,g0⟩ | ⟨g,h,g0⟩ | ⟨g,g0⟩;all_goals
   go_enter func166,ntmps166;go_wp2_with (go_at_call 165;refine d.out.mono ?_;rintro e w'⟨rfl,rfl⟩);all_goals
    go_ret;refine⟨Jf ?_,rfl⟩;unfold Wa;rw[f];try simp only[BO,AQ,ne_eq] at g0
    try simp only[Bool.true_or,Bool.false_or]
    all_goals first
    | rfl
    | (rw[BZ];simp only[BX,AS,BO,BM,ne_eq,Bool.not_eq_true',decide_eq_true_eq,BA,Bool.false_eq_true,true_iff,false_iff,iff_true,iff_false];omega)
theorem lx_name(s:ByteArray)(w:World):Calls prog 103 #[.string s] w λe w'=>e = .returned (.bool (Xi (Zh s)))/\w=w':=by
 have g:=Qh s;by_cases v:s.size=0
 ·have a:Xi (Zh s)=false:=by simp[Xi,g,v]
  rw[a];have C:=Cp s v;clear a g;go_enter func103,ntmps103;go_wp2;go_ret;exact⟨rfl,rfl⟩
 have c:0<s.size:=AA
 obtain⟨D,E⟩:=Zz8 s c;by_cases m:s.size<=20
 case neg =>
  have a:Xi (Zh s)=false:=by simp[Xi,g,m]
  rw[a];have B:(20:Int)<(s.size:Int):=AA
  clear a g m;go_enter func103,ntmps103;go_wp2;go_ret;exact⟨rfl,rfl⟩
 have G:¬(20:Int)<(s.size:Int):=AA
 have q:Hid (∀k (h:k<s.size),(Zh s).getD k 0=(s[k]'h).toNat):=LH λk h=>Yn (J0 s k h);have l:=LH g;have d:=Zvj (s[0]'c).toNat w ((s[0]'c).toNat_lt);have A:=LH m;clear g m;cases b:Xf (s[0]'c).toNat
 ·have a:Xi (Zh s)=false:=by unfold Xi;rw[q 0 c,b];simp
  rw[a];rw[b] at d;have o:=LH d;clear a d b;go_enter func103,ntmps103;go_wp2_with (go_at_call 165;refine o.out.mono ?_;rintro e w'⟨rfl,rfl⟩);go_ret;exact⟨rfl,rfl⟩
 rw[b] at d;have o:=LH d;have y:Hid (Xf ((Zh s).getD 0 0)=true):=LH (by rw[q 0 c];exact b);clear d b;go_enter func103,ntmps103;go_wp2_with (go_at_call 165;refine o.out.mono ?_;rintro e w'⟨rfl,rfl⟩);go_loop [3,19] (λ_ i=>∃k:Nat,k<=s.size/\i = .int .i64 (k:Int)/\∀j,j<k->Wa ((Zh s).getD j 0)=true) (λ_ i=>s.size-(intOf i).toNat)
 case atStart=>exact⟨0,AV _,rfl,λj t=>AA⟩
 obtain⟨k,F,rfl,x⟩:=hrel;have u:=LH x;clear x;by_cases b:k<s.size
 ·have f:=lx_inner (s[k]'b).toNat w ((s[k]'b).toNat_lt);have n:=q k b;cases hd:Wa (s[k]'b).toNat
  ·have a:Xi (Zh s)=false:=Zsv k (by rw[l];exact b) (by rw[n];exact hd);have p:=LH a;rw[hd] at f;have r:=LH f;clear f hd n a;go_wp2_with (go_at_call 166;refine r.out.mono ?_;rintro e w'⟨rfl,rfl⟩);go_ret;exact⟨by rw[p];rfl,rfl⟩
  rw[hd] at f;have r:=LH f;have z:Hid (Wa ((Zh s).getD k 0)=true):=LH (by rw[n];exact hd);clear f hd n;go_wp2_with (go_at_call 166;refine r.out.mono ?_;rintro e w'⟨rfl,rfl⟩);go_round
  case rel =>
   refine⟨k+1,AA,AF,λj t=>?_⟩;rcases BC j k with h | h
   ·exact u j h
   obtain rfl:j=k:=AA
   exact z
  simp[intOf];omega
 have a:Xi (Zh s)=true:=Zuu (by rw[l];omega) (by rw[l];exact A) y (λj t=>u j (by rw[l] at t;omega));have p:=LH a;clear a;go_wp2;go_ret;exact⟨by rw[p];rfl,rfl⟩
theorem lx_literal(A:Option Addr)(n c:Nat)(d:List Nat)(w:World)(h:Zq .u8 w A n c d)(q:∀x∈d,x<256):
 Calls prog 229 #[.slice A n c] w λe w'=>e = .returned (.tuple #[.int .i64 ((litN d).1:Int),.int .i64 ((litN d).2:Int)])/\w=w':=by
 obtain rfl:=h.len;have I:=h.cap;by_cases B:d.length<2
 ·have D:litN d=(0,4):=by simp[litN,B]
  rw[D];clear D;go_enter func229,ntmps229;go_wp2;go_ret2;exact⟨rfl,rfl⟩
 obtain⟨b,L,rfl,H,s⟩:=h.at_ AA;have F:=lt256 q 1;have G:=lt256 q 2;have J:=lt256 q 3;have c1:=s 1 AA;have c2:=λh=>s 2 h;have c3:=λh=>s 3 h;have a:litN d=if Mt (d.getD 1 0) then (if d.length<=2 then (0,4) else if d.getD 2 0=39 then (3,0) else (0,3))
  else if d.getD 1 0≠92 then (0,3) else if d.length<3 then (0,4) else if !Q1 (d.getD 2 0) then (0,3)
  else if d.length<=3 then (0,4) else if d.getD 3 0=39 then (4,0) else (0,3):=by
  unfold litN;rw[if_neg B]
 generalize d.getD 1 0=o at *;generalize d.getD 2 0=p at *;generalize d.getD 3 0=z at *;generalize litN d=r at *;have k:=lx_plain o w F;have g:=lx_escaped p w G;clear s q;cases u:Mt o
 ·rw[u] at k a;have f:=LH k;clear k u;simp only[Bool.false_eq_true,if_false] at a;by_cases v:o=92
  ·have E:((o:Int)==92)=true:=by rw[BO];omega
   simp only[v,ne_eq,not_true,if_false] at a;clear v;by_cases m:d.length<3
   ·rw[if_pos m] at a;subst a;clear c2 c3 g;go_enter func229,ntmps229;go_wp2_with (go_at_call 235;refine f.out.mono ?_;rintro e w'⟨rfl,rfl⟩);go_ret2;exact⟨rfl,rfl⟩
   rw[if_neg m] at a;have c2:=c2 AA;cases t:Q1 p
   ·rw[t] at g a;have l:=LH g;clear g t c3;simp only[Bool.not_false,if_true] at a;subst a;go_enter func229,ntmps229;go_wp2_with (first
     | (go_at_call 235;refine f.out.mono ?_;rintro e w'⟨rfl,rfl⟩)
     | (go_at_call 236;refine l.out.mono ?_;rintro e w'⟨rfl,rfl⟩))
    go_ret2;exact⟨rfl,rfl⟩
   rw[t] at g a;have l:=LH g;clear g t;simp only[Bool.not_true,Bool.false_eq_true,if_false] at a;by_cases C:d.length<=3
   ·rw[if_pos C] at a;subst a;clear c3;go_enter func229,ntmps229;go_wp2_with (first
     | (go_at_call 235;refine f.out.mono ?_;rintro e w'⟨rfl,rfl⟩)
     | (go_at_call 236;refine l.out.mono ?_;rintro e w'⟨rfl,rfl⟩))
    go_ret2;exact⟨rfl,rfl⟩
   rw[if_neg C] at a;have c3:=c3 AA;by_cases j:z=39
   ·have y:((z:Int)==39)=true:=by rw[BO];omega
    rw[if_pos j] at a;subst a;clear j;go_enter func229,ntmps229;go_wp2_with (first
     | (go_at_call 235;refine f.out.mono ?_;rintro e w'⟨rfl,rfl⟩)
     | (go_at_call 236;refine l.out.mono ?_;rintro e w'⟨rfl,rfl⟩))
    go_ret2;exact⟨rfl,rfl⟩
   have y:((z:Int)==39)=false:=by rw[AQ];omega
   rw[if_neg j] at a;subst a;clear j;go_enter func229,ntmps229;go_wp2_with (first
    | (go_at_call 235;refine f.out.mono ?_;rintro e w'⟨rfl,rfl⟩)
    | (go_at_call 236;refine l.out.mono ?_;rintro e w'⟨rfl,rfl⟩))
   go_ret2;exact⟨rfl,rfl⟩
  have E:((o:Int)==92)=false:=by rw[AQ];omega
  rw[if_pos v] at a;subst a;clear v c2 c3 g;go_enter func229,ntmps229;go_wp2_with (go_at_call 235;refine f.out.mono ?_;rintro e w'⟨rfl,rfl⟩);go_ret2;exact⟨rfl,rfl⟩
 rw[u] at k a;have f:=LH k;clear k u g c3;simp only[if_true] at a;by_cases m:d.length<=2
 ·rw[if_pos m] at a;subst a;clear c2;go_enter func229,ntmps229;go_wp2_with (go_at_call 235;refine f.out.mono ?_;rintro e w'⟨rfl,rfl⟩);go_ret2;exact⟨rfl,rfl⟩
 rw[if_neg m] at a;have c2:=c2 AA;by_cases j:p=39
 ·have y:((p:Int)==39)=true:=by rw[BO];omega
  rw[if_pos j] at a;subst a;clear j;go_enter func229,ntmps229;go_wp2_with (go_at_call 235;refine f.out.mono ?_;rintro e w'⟨rfl,rfl⟩);go_ret2;exact⟨rfl,rfl⟩
 have y:((p:Int)==39)=false:=by rw[AQ];omega
 rw[if_neg j] at a;subst a;clear j;go_enter func229,ntmps229;go_wp2_with (go_at_call 235;refine f.out.mono ?_;rintro e w'⟨rfl,rfl⟩);go_ret2;exact⟨rfl,rfl⟩
theorem lx_Literal(s:ByteArray)(w:World)(y:s.size<=maxLen):
 Calls prog 203 #[.string s] w λe w'=>e = .returned (.bool (H5 (Zh s)))/\Below w w w':=by
 have h:=Qh s;have a:=litB_lit (Zh s);by_cases l:s.size=0
 ·have g:H5 (Zh s)=false:=by unfold H5;rw[h,l];simp
  rw[g];have C:=Cp s l;clear g h a;go_enter func203,ntmps203;go_wp2;go_ret;exact⟨rfl,AL _ _⟩
 have f:0<s.size:=AA
 obtain⟨D,E⟩:=Zz8 s f;have v:=Yn (d:=0) (J0 s 0 f);rw[v,h] at a;have B:=LH l;clear l;by_cases m:(s[0]'f).toNat=39
 case neg =>
  have g:H5 (Zh s)=false:=by rw[a];simp[m]
  rw[g];have x:(((s[0]'f).toNat:Int)==39)=false:=by rw[AQ];omega
  clear g h a v m;go_enter func203,ntmps203;go_wp2;go_ret;exact⟨rfl,AL _ _⟩
 have x:(((s[0]'f).toNat:Int)==39)=true:=by rw[BO];omega
 rw[m] at a;simp only[decide_true,Bool.true_and] at a;have F:=λw=>Lib.run_convert_string_bytes (P:=prog) w 9 72 5 s underlying9 underlying72 underlying5;have t:=bytesWorld_below w 5 s;have u:=lx_literal _ _ _ (Zh s) _ (bytesWorld_nums w 5 s y) (bytesOf_lt s);generalize H5 (Zh s)=r at *;generalize litN (Zh s)=p at *;obtain⟨j,k⟩:=p;simp only[] at u a;have q:=LH u;clear u h v m;by_cases n:k=0
 ·have z:((k:Int)==0)=true:=by rw[BO];omega
  have b:decide (k=0)=true:=by simp[n]
  rw[b] at a;clear b n;by_cases o:j=s.size
  ·have A:((j:Int)==(s.size:Int))=true:=by rw[BO];omega
   have c:decide (j=s.size)=true:=by simp[o]
   rw[c] at a;subst a;clear c o;go_enter func203,ntmps203;go_wp2_with (go_at_call 229;refine q.out.mono ?_;rintro e w'⟨rfl,rfl⟩);go_ret;exact⟨rfl,t⟩
  have A:((j:Int)==(s.size:Int))=false:=by rw[AQ];omega
  have c:decide (j=s.size)=false:=by simp[o]
  rw[c] at a;subst a;clear c o;go_enter func203,ntmps203;go_wp2_with (go_at_call 229;refine q.out.mono ?_;rintro e w'⟨rfl,rfl⟩);go_ret;exact⟨rfl,t⟩
 have z:((k:Int)==0)=false:=by rw[AQ];omega
 have b:decide (k=0)=false:=by simp[n]
 rw[b] at a;subst a;clear b n;go_enter func203,ntmps203;go_wp2_with (go_at_call 229;refine q.out.mono ?_;rintro e w'⟨rfl,rfl⟩);go_ret;exact⟨rfl,t⟩
theorem cntL_snoc(l:List Trm)(t:Trm)(g:1<=t.level)(j:t.level<=24):Zzt (l++[t])=if Dt l t.level then Zzt l else Zzt l+1:=by
 obtain⟨m,b⟩:∃m:Nat,t.level=(m:Int):=⟨t.level.toNat,AA⟩;by_cases h:Dt l t.level=true
 ·rw[if_pos h];unfold Zzt;congr 1;funext n;rw[Kf];by_cases a:t.level=(n:Int)
  ·rw[<-a,h];simp
  simp[a]
 rw[if_neg h];have f:Dt l t.level=false:=by simpa using h
 have:=countP_more (λ(n:Nat)=>decide (1<=n)&&Dt l (n:Int)) m (by rw[<-b,f];simp) 25;rw[if_pos AA] at this;unfold Zzt;rw[<-this];congr 1;funext n;rw[Kf];by_cases a:n=m
 ·subst a;have e:decide (1<=n)=true:=AG
  rw[b,e];simp
 have c:decide (n=m)=false:=by simp[a]
 have d:decide (t.level=(n:Int))=false:=AG
 rw[c,d];simp
theorem Qv.fix(d:Qv f)(b:List Bool):f (Z3 f b.length b)=Z3 f b.length b:=by
 by_cases g:f (Z3 f b.length b)=Z3 f b.length b
 ·exact g
 exfalso;have q:∀k,(Z3 f k b).length=b.length:=λk=>by
  induction k with
  | zero=>rfl
  | succ k j=>show (f (Z3 f k b)).length=_;rw[d.len,j]
 have r:∀k,k<=b.length->f (Z3 f k b)≠Z3 f k b:=λk m h=>by
  have a:=M7 h b.length m;rw[a] at g;exact g h
 have n:∀k,k<=b.length+1->k<=(Z3 f k b).countP (·):=λk=>by
  induction k with
  | zero=>intro _;omega
  | succ k j =>
    intro m;have a:=j AA;have c:=Zsi (Z3 f k b) (f (Z3 f k b)) (d.len _).symm λi hi=>d.up _ i hi;have s:(Z3 f k b).countP (·)≠(f (Z3 f k b)).countP (·):=λo=>r k AA (c.2 o).symm;show k+1<=(f (Z3 f k b)).countP (·);omega
 have a:=n (b.length+1) (AJ _);have c:=List.countP_le_length (p:=λx:Bool=>x) (l:=Z3 f (b.length+1) b);rw[q] at c;omega
theorem GrowsS.fix{f:List Nat->List Nat}(b:GrowsS f)(F:List Nat):f (Z3 f F.length F)=Z3 f F.length F:=by
 obtain⟨p,c,a⟩:=b;have hit:∀t k,Je t (Z3 f k F)=Z3 (p t) k (Je t F):=λt k=>by
  induction k with
  | zero=>rfl
  | succ k d=>show Je t (f (Z3 f k F))=p t (Z3 (p t) k (Je t F));rw[a,d]
 refine view_ext λt=>?_;rw[a,hit];have:=(c t).fix (Je t F);rwa [show (Je t F).length=F.length by simp[Je]] at this
theorem We.get(h:We F)(i:Nat):F.getD i 0<4294967296:=by
 rw[AP];cases a:F[i]? with
 | none=>simp
 | some x=>exact h x (AM a)
theorem We.addAt(h:We F)(i:Nat)(b:x<4294967296):We (addAt i x F):=by
 intro y a;unfold Go.Proofs.YtggbjdmpjidhgaaGreatDoor.addAt at a;rcases List.mem_or_eq_of_mem_set a with a | rfl
 ·exact h y a
 exact Ct (h.get i) b
theorem Zxr(S:List Nat):Ja S (Xu S)=Xu S:=(stepD_grows S).fix S
theorem Lh{t:Nat}(hi:i<S.length)(c:k<S.length)(b:(S.getD i 0).testBit k=true)(a:Yw S k t=true):Yw S i t=true:=by
 unfold Yw at a ⊢;rw[<-Zxr,Lz _ _ (by rw[Li];exact hi),DX];rw[F4.2 ⟨k,by rw[Li];exact c,b,a⟩,Bool.or_true]
theorem iterD_close(S:List Nat){t:Nat}(hi:i<S.length)(m:Nat)(h:((Z3 (Ja S) m S).getD i 0).testBit t=true):Yw S i t=true:=by
 rcases Nat.le_total m S.length with a | a
 ·obtain⟨d,hd⟩:=Nat.exists_eq_add_of_le a;unfold Yw Xu;rw[hd];clear hd a
  induction d with
  | zero=>exact h
  | succ d c=>exact iterD_up S hi _ c
 have b:=M7 (f:=Ja S) (x:=S) (n:=S.length) (Zxr S) m a;rw[b] at h;exact h
theorem Ha{t:Nat}(hi:i<S.length)(h:(S.getD i 0).testBit t=true):Yw S i t=true:=iterD_close S hi 0 h
theorem Fi(S:List Nat):∀(m:Nat) {i k t:Nat},i<S.length->k<S.length->((Z3 (Ja S) m S).getD i 0).testBit k=true->Yw S k t=true->Yw S i t=true
 | 0,i,k,t,hi,hk,a,h2=>Lh hi hk a h2
 | m+1,i,k,t,hi,hk,a,h2=>by
   rw[Z3,Lz _ _ (by rw[U0];exact hi),DX,BX] at a;rcases a with a | a
   ·exact Fi S m hi hk a h2
   obtain⟨f,b,c,d⟩:=F4.1 a;rw[U0] at b;exact Lh hi b c (Fi S m b hk d h2)
theorem Zyy{t:Nat}(hi:i<S.length)(c:k<S.length)(a:Yw S i k=true)(b:Yw S k t=true):Yw S i t=true:=Fi S _ hi c a b
theorem cf_named(s:ByteArray)(w:World)(d:s.size<=maxLen):
 Calls prog 159 #[.string s] w λe w'=>e = .returned (.bool (Q7 s))/\Below w w w':=by
 have c1:=lx_name s w;have c2:=lx_Literal s w d;unfold Q7;generalize Xi (Zh s)=p at *;generalize H5 (Zh s)=q at *;have a:=LH c1;have b:=LH c2;clear c1 c2;cases p
 ·go_enter func159,ntmps159;go_wp2_with (first
   | (go_at_call 103;refine a.out.mono ?_;rintro e w'⟨rfl,rfl⟩)
   | (go_at_call 203;refine b.out.mono ?_;rintro e w'⟨rfl,c⟩))
  go_ret;exact⟨rfl,c⟩
 go_enter func159,ntmps159;go_wp2_with (first
  | (go_at_call 103;refine a.out.mono ?_;rintro e w'⟨rfl,rfl⟩)
  | (go_at_call 203;refine b.out.mono ?_;rintro e w'⟨rfl,c⟩))
 go_ret;exact⟨rfl,AL _ _⟩
theorem sl_index_ints(A:Option Addr)(n c:Nat)(xs:List Int)(g:FuncId)(t:Array Value)(p:Int->Bool)(w:World)(F:∀args w,(callFunc g args).run prog w = .ok (.enter g args) w)(h:Za .i64 w A n c xs)(u:Zyw g t (Value.int .i64) w xs p):
 Calls prog 86 #[.slice A n c,.func (.func g) #[] t] w λe w'=>e = .returned (.int .i64 (Y8 p xs))/\Below w w w':=by
 obtain rfl:=h.len;have G:=h.cap;have x:=LH u;clear u;go_enter func86,ntmps86;go_wp2_with fail;go_loopw [5,8] (λ_ i wr=>∃k:Nat,k<=xs.length/\i = .int .i64 (k:Int)/\Below w w wr/\Hid (∀j,j<k->∀y,xs[j]? = some y->p y=false)) (λ_ i _=>xs.length-(intOf i).toNat)
 case atStart=>exact⟨0,AV _,rfl,AL _ _,LH λj H=>AA⟩
 obtain⟨k,I,rfl,f,o⟩:=hrel;by_cases C:k<xs.length
 ·obtain⟨b,J,s,rfl,B,q,D⟩:=h.get C;rw[<-f.cell (by exact B)] at D;have a:=x s (AM q) wr f;cases d:p s
  ·rw[d] at a;have z:=LH d;have l:=LH a;clear d a;go_wp2_with (go_at_fn g;refine l.mono ?_;rintro e E⟨rfl,r⟩);go_roundw
   case rel=>exact⟨k+1,AA,AF,Zz f r,LH (Vz o q z)⟩
   simp[intOf];omega
  rw[d] at a;have m:=LH (Q4 q d o);have l:=LH a;clear d a;go_wp2_with (go_at_fn g;refine l.mono ?_;rintro e E⟨rfl,r⟩);go_ret;exact⟨by rw[m];rfl,Zz f r⟩
 obtain rfl:k=xs.length:=AA
 have m:Hid (Y8 p xs=-1):=Jq λj y v=>o j (AO.1 v).1 y v;go_wp2_with fail;go_ret;exact⟨by rw[m];rfl,f⟩
theorem sl_index_strs(A:Option Addr)(n c:Nat)(xs:List ByteArray)(g:FuncId)(t:Array Value)(p:ByteArray->Bool)(w:World)(F:∀args w,(callFunc g args).run prog w = .ok (.enter g args) w)(h:Js w A n c xs)(u:Zyw g t Value.string w xs p):
 Calls prog 164 #[.slice A n c,.func (.func g) #[] t] w λe w'=>e = .returned (.int .i64 (Y8 p xs))/\Below w w w':=by
 obtain rfl:=h.len;have G:=h.cap;have x:=LH u;clear u;go_enter func164,ntmps164;go_wp2_with fail;go_loopw [5,8] (λ_ i wr=>∃k:Nat,k<=xs.length/\i = .int .i64 (k:Int)/\Below w w wr/\Hid (∀j,j<k->∀y,xs[j]? = some y->p y=false)) (λ_ i _=>xs.length-(intOf i).toNat)
 case atStart=>exact⟨0,AV _,rfl,AL _ _,LH λj H=>AA⟩
 obtain⟨k,I,rfl,f,o⟩:=hrel;by_cases C:k<xs.length
 ·obtain⟨b,J,s,rfl,B,q,D⟩:=h.get C;rw[<-f.cell (by exact B)] at D;have a:=x s (AM q) wr f;cases d:p s
  ·rw[d] at a;have z:=LH d;have l:=LH a;clear d a;go_wp2_with (go_at_fn g;refine l.mono ?_;rintro e E⟨rfl,r⟩);go_roundw
   case rel=>exact⟨k+1,AA,AF,Zz f r,LH (Vz o q z)⟩
   simp[intOf];omega
  rw[d] at a;have m:=LH (Q4 q d o);have l:=LH a;clear d a;go_wp2_with (go_at_fn g;refine l.mono ?_;rintro e E⟨rfl,r⟩);go_ret;exact⟨by rw[m];rfl,Zz f r⟩
 obtain rfl:k=xs.length:=AA
 have m:Hid (Y8 p xs=-1):=Jq λj y v=>o j (AO.1 v).1 y v;go_wp2_with fail;go_ret;exact⟨by rw[m];rfl,f⟩
theorem U1(A:Option Addr)(n c:Nat)(xs:List Int)(g:FuncId)(a:Array Value)(p:Int->Bool)(w:World)(j:∀args w,(callFunc g args).run prog w = .ok (.enter g args) w)(h:Za .i64 w A n c xs)(d:Zyw g a (Value.int .i64) w xs p):
 Calls prog 44 #[.slice A n c,.func (.func g) #[] a] w λe w'=>e = .returned (.bool (xs.any p))/\Below w w w':=by
 have b:=sl_index_ints A n c xs g a p w j h d;rw[<-Zvt];generalize Y8 p xs=r at *;have f:=LH b;clear b d h;go_enter func44,ntmps44;go_wp2_with (go_at_call 86;refine f.out.mono ?_;rintro e l⟨rfl,k⟩);go_ret;exact⟨rfl,k⟩
theorem sl_contains_strs(A:Option Addr)(n c:Nat)(xs:List ByteArray)(g:FuncId)(a:Array Value)(p:ByteArray->Bool)(w:World)(j:∀args w,(callFunc g args).run prog w = .ok (.enter g args) w)(h:Js w A n c xs)(d:Zyw g a Value.string w xs p):
 Calls prog 101 #[.slice A n c,.func (.func g) #[] a] w λe w'=>e = .returned (.bool (xs.any p))/\Below w w w':=by
 have b:=sl_index_strs A n c xs g a p w j h d;rw[<-Zvt];generalize Y8 p xs=r at *;have f:=LH b;clear b d h;go_enter func101,ntmps101;go_wp2_with (go_at_call 164;refine f.out.mono ?_;rintro e l⟨rfl,k⟩);go_ret;exact⟨rfl,k⟩
def Ce(ids:Rul->List Bool->List Int)(r:Rul)(N:List Bool):List Bool:=Jz N (ids r N)
def Yy(ids:Rul->List Bool->List Int)(a:List Rul)(N:List Bool):List Bool:=a.foldl (λN r=>Ce ids r N) N
theorem Zwt(ids:Rul->List Bool->List Int)(a:List Rul)(r:Rul)(N:List Bool):Yy ids (a++[r]) N=Ce ids r (Yy ids a N):=by simp[Yy]
theorem LeB.refl(a:List Bool):LeB a a:=⟨rfl,λ_ h=>h⟩
theorem F5(N:List Bool):∀(l:List Int),LeB N (Jz N l):=λl=>by
 induction l generalizing N with
 | nil=>exact LeB.refl N
 | cons s l a=>exact (LeB.set N s.toNat).trans (a _)
theorem Zwc(N:List Bool)(l:List Int):(Jz N l).length=N.length:=(F5 N l).1.symm
theorem Mr(o:Option Addr)(n c1:Nat)(xs:List Int)(p:Option Addr)(m c2:Nat)(ys:List Int)(w:World)(g:Za .i64 w o n c1 xs)(l:Za .i64 w p m c2 ys):
 Calls prog 37 #[.slice o n c1,.slice p m c2] w λe w'=>e = .returned (.bool (xs==ys))/\Uz w w':=by
 obtain rfl:=g.len;obtain rfl:=l.len;have E:=g.cap;have F:=l.cap;by_cases b:xs.length=ys.length
 case neg =>
  have e:(xs==ys)=false:=by rw[AQ];intro h;exact b (by rw[h])
  have hi:((xs.length:Int) != (ys.length:Int))=true:=by rw[BM];omega
  rw[e];clear e b;go_enter func37,ntmps37;go_wp2;go_ret;exact⟨rfl,Uz.refl _⟩
 have hi:((xs.length:Int) != (ys.length:Int))=false:=by rw[BQ];omega
 have f:=LH b;clear b;go_enter func37,ntmps37;go_wp2;go_loopw [5] (λi wr=>∃k:Nat,k<=xs.length/\i = .int .i64 (k:Int)/\Hid (xs.take k=ys.take k)/\Uz w wr) (λi _=>xs.length-(intOf i).toNat)
 case atStart=>exact⟨0,AV _,rfl,LH rfl,Uz.refl _⟩
 obtain⟨k,G,rfl,q,a⟩:=hrel;by_cases s:k<xs.length
 ·obtain⟨t,H,x,rfl,A,Hx,C⟩:=(g.same a).get (j:=k) s;obtain⟨u,I,y,rfl,B,r,D⟩:=(l.same a).get (j:=k) (by have:=f.out;omega);have g0:(0:Int)<=(k:Int):=AA
  have v:(k:Int)<(xs.length:Int):=AA
  have z:(k:Int)<(ys.length:Int):=by have:=f.out;omega
  by_cases c:x=y
  ·subst c;go_wp2;go_quiet (fail)
   go_wp2;go_roundw
   case rel=>exact⟨k+1,AA,AF,LH (by rw[CX,CX,q,Hx,r]),a.drewN _⟩
   simp[intOf];omega
  have e:(xs==ys)=false:=by
   rw[AQ];rintro rfl;have:=Hx.symm.trans r;exact c (by simpa using this)
  have hd:(x != y)=true:=by rw[BM];exact c
  have d:=LH e;clear e c;go_wp2;go_quiet (fail)
  go_wp2;go_ret;exact⟨by rw[d];rfl,a.drewN _⟩
 have e:(xs==ys)=true:=by
  have:=q.out;have:=f.out;rw[AR AA,AR AA] at *;simpa using ‹_=_›
 have d:=LH e;clear e;go_wp2;go_ret;exact⟨by rw[d];rfl,a⟩
def Dr(P:List Bool)(r:Rul)(N:List Bool):Bool:=N.getD r.left.toNat false&&Xj true P r.right
def Yp(P:List Bool)(r:Rul)(N:List Bool):List Int:=if Dr P r N then Uq r.right else []
def Xv(G:Gr):List Bool:=(List.replicate G.nons.length false).set G.start.toNat true
theorem fwK_small(i k:Nat)(h:We F):We (fwK i k F):=by
 unfold fwK;split
 ·exact h.addAt _ (h.get _)
 exact h
theorem Zzp(i:Nat)(h:We F):∀m,We (fwR i m F)
 | 0=>h
 | m+1=>by rw[Mm];exact fwK_small _ _ (Zzp i h m)
theorem Zzu(m:Nat)(h:We F):∀q,We (fwI m q F)
 | 0=>h
 | q+1=>by rw[M9];exact Zzp _ (Zzu m h q) _
theorem Lo(m q:Nat)(h:We F):∀p,We (Z3 (fwI m q) p F)
 | 0=>h
 | p+1=>by rw[Z3];exact Zzu _ (Lo m q h p) _
theorem fwK_in(h:UpF S F)(i:Nat)(c:k<S.length):UpF S (fwK i k F):=by
 refine⟨by rw[fwK_len];exact h.1,λj t b a=>?_⟩;unfold fwK at a;split at a
 ·rename_i d;rw[Jo] at a;split at a
  ·rename_i f;obtain⟨rfl,_⟩:=f;rw[DX,BX] at a;rcases a with a | a
   ·exact h.2 _ _ b a
   exact Zyy b c (h.2 _ _ b d) (h.2 _ _ c a)
  exact h.2 _ _ b a
 exact h.2 _ _ b a
theorem fwR_in(h:UpF S F)(i:Nat):∀m,m<=S.length->UpF S (fwR i m F)
 | 0,_=>h
 | m+1,hm=>by rw[Mm];exact fwK_in (fwR_in h i m AA) i AA
theorem fwI_in(h:UpF S F)(q:Nat):UpF S (fwI S.length q F):=by
 induction q with
 | zero=>exact h
 | succ q a=>rw[M9];exact fwR_in a q _ (AJ _)
theorem Zul(S:List Nat)(q:Nat):∀p,UpF S (Z3 (fwI S.length q) p S)
 | 0=>⟨rfl,λi t hi h=>Ha hi h⟩
 | p+1=>by rw[Z3];exact fwI_in (Zul S q p) q
theorem Zsf(S:List Nat):Z3 (fwI S.length S.length) S.length S=Xu S:=by
 refine sets_ext (by rw[K5,Li]) λi hi t=>?_;rw[K5] at hi;rw[BZ];exact⟨λh=>(Zul S _ _).2 i t hi h,λh=>Zzl S _ hi h⟩
theorem Lv(h:We S):We (Xu S):=by rw[<-Zsf];exact Lo _ _ h _
theorem Zxv(a:We S):∀(l:List Nat) {R:Nat},R<4294967296->Qd S R l<4294967296
 | [],R,h=>h
 | k::l,R,h=>Zxv a l (Ct h (a.get k))
theorem J5.start(b:We S)(a:InS S)(hi:i<S.length):J5 S i (S.getD i 0) :=
 ⟨b.get i,λ_ h=>h,λt h=>⟨a i t h,Ha hi h⟩⟩
theorem J5.next(l:We S)(d:InS S)(hi:i<S.length){R:Nat}(h:J5 S i R):J5 S i (Qd S R (Wy R)):=by
 refine⟨Zxv l _ h.1,λt a=>by rw[Ma,h.2.1 t a];rfl,λt a=>?_⟩;rw[Ma,BX] at a;rcases a with a | a
 ·exact h.2.2 t a
 rw[Er] at a;obtain⟨k,g,c⟩:=a;have j:=((Zwo R k).1 g).2;obtain⟨b,f⟩:=h.2.2 k j;exact⟨d k t c,Zyy hi b f (Ha b c)⟩
theorem order_goes{use:Nat}(l:∀i t,use.testBit i=true->(S.getD i 0).testBit t=true->use.testBit t=true)(k:∀i,use.testBit i=true->i<S.length)(r:∀i,use.testBit i=true->Yw S i i=false)(o:Qx (U2 S use b) S.length=none):Ck use b=0:=by
 have key:∀(m i:Nat),(Ck use b).testBit i=true->(Xu S).getD i 0=m->False:=by
  intro m
  induction m using Nat.strongRecOn with
  | ind m v =>
    intro i hi y;rw[Nu,AS] at hi;have d:=k i hi.1;have f:=findB_none' o i d;unfold U2 at f;rw[hi.1,hi.2,Bool.true_and,Bool.true_and] at f;have p:Ck (S.getD i 0) b≠0:=by simpa using f
    obtain⟨t,a⟩:=Zvf p;rw[Nu,AS] at a;have g:=l i t hi.1 a.1;have u:=k t g;have j:Yw S i t=true:=Ha d a.1;have c:=r t g;have x:(Xu S).getD t 0<=(Xu S).getD i 0:=Zyd λq s=>Lh d u a.1 s;have z:(Xu S).getD t 0≠(Xu S).getD i 0:=λn=>by
     unfold Yw at j c;rw[n,j] at c;cases c
    exact v _ AA t (by rw[Nu,g,a.2];rfl) rfl
 apply DW;intro h;obtain⟨i,hi⟩:=Zvf h;exact key _ i hi rfl
theorem Gi.nil:Gi [] []:=⟨rfl,λj t h=>by simp at h⟩
theorem Rfs.get(h:Rfs w A n c ss)(m:j<n):
 ∃b a s x y,A=some ⟨b,a,none⟩/\b<w.heap.size/\Hid (ss[j]? = some s)/\w.cell? ⟨b,a+j*2,none⟩=some (.string s)/\w.cell? ⟨b,a+j*2+1,none⟩=some (.complex .f64 x y):=by
 obtain⟨b,a,e,l,k⟩:=h.2.2.2 AA;have o:=h.1;have d:ss[j]? = some (ss[j]' AA):=AN AA;obtain⟨f,x,y,g⟩:=k j _ d;exact⟨b,a,_,x,y,e,l,LH d,f,g⟩
theorem Vu.nil(w:World)(a:Nat->Prop):Vu w a [] []:=⟨rfl,λj t h=>by simp at h⟩
theorem Prds.get(h:Prds w A n c ps)(u:j<n):
 ∃b a p Ar cr x y d f,A=some ⟨b,a,none⟩/\b<w.heap.size/\Hid (ps[j]? = some p)/\w.cell? ⟨b,a+j*5,none⟩=some (.string p.left)/\w.cell? ⟨b,a+j*5+1,none⟩=some (.complex .f64 x y)/\w.cell? ⟨b,a+j*5+2,none⟩=some (.slice Ar p.right.length cr) /\
 w.cell? ⟨b,a+j*5+3,none⟩=some (.string p.prec)/\w.cell? ⟨b,a+j*5+4,none⟩=some (.complex .f64 d f)/\Rfs w Ar p.right.length cr p.right:=by
 obtain⟨b,a,e,t,s⟩:=h.2.2.2 AA;have v:=h.1;have g:ps[j]? = some (ps[j]' AA):=AN AA;obtain⟨Ar,cr,x,y,d,f,k,l,m,o,q,r⟩:=s j _ g;exact⟨b,a,_,Ar,cr,x,y,d,f,e,t,LH g,k,l,m,o,q,r⟩
theorem V6.refl(w:World)(p:Nat)(h:GH):V6 w w p h h:=⟨rfl,rfl,rfl,AJ _,λ_ _ _=>rfl,λ_ _ h=>h⟩
theorem V6.of_below(h:Below w w w')(p:Nat)(a:GH):V6 w w' p a a:=⟨h.os,h.tape,h.output,h.size,λk b _=>h.block k b,λ_ _ h=>h⟩
theorem Kz.nil(w:World)(a:Nat->Prop):Kz w a [] []:=⟨rfl,λj t h=>by simp at h⟩
theorem Zyx(X:Nat->Prop):∀(c:List Rul),(∀r∈c,X r.left.toNat->Xj true P r.right=true->∀s∈r.right,s<0->X (Zp s))->
 ∀{N:List Bool},(∀i,N.getD i false=true->X i)->∀i,(Yy (Yp P) c N).getD i false=true->X i
 | [],_,N,hN,i,h=>hN i h
 | r::c,hX,N,hN,i,h=>by
   refine Zyx X c (λq f=>hX q (BN _ f)) (N:=Ce (Yp P) r N) (λj d=>?_) i h;refine Zy9 X _ (λt b=>?_) hN j d;unfold Yp at b;split at b
   ·rename_i a;unfold Dr at a;rw[AS] at a;obtain⟨s,g,h0,rfl⟩:=Zur.1 b;exact hX r (AX ..) (hN _ a.1) a.2 s g h0
   cases b
theorem Nd{G:Gr}:G.right=true↔G.termsOK=true/\G.nonsOK=true/\(1<=G.rules.length/\G.rules.length<=40)/\(0<=G.start/\G.start<(G.nons.length:Int))/\G.leftsGo G.rules (-1)=some ((G.nons.length:Int)-1):=by
 unfold Gr.right;simp only[AS,decide_eq_true_eq,and_assoc]
theorem Lim.nil:Lim []:=λ_ h=>by cases h
theorem Lim.take(h:Lim xs)(k:Nat):Lim (xs.take k):=λy a=>h y (List.mem_of_mem_take a)
theorem Ga(f:Nat):∀n,n<4294967296 ^ f->val (Ft f n)=n/\Lim (Ft f n):=by
 induction f with
 | zero=>intro n h;simp at h;subst h;exact⟨rfl,Lim.nil⟩
 | succ f b =>
   intro n h;unfold Ft;by_cases h0:n=0
   ·subst h0;simp[val,Lim.nil]
   rw[if_neg h0];have hd:n / 4294967296<4294967296 ^ f:=by
    rw[Nat.pow_succ] at h;exact Nat.div_lt_of_lt_mul (by rw[Ei];exact h)
   obtain⟨h1,a⟩:=b _ hd;refine⟨?_,Lim.mk (Nat.mod_lt _ AC) a⟩;simp only[val,h1];omega
theorem Yd(n:Nat):val (limbs n)=n:=(Ga _ n (Zth n)).1
theorem Z9(n:Nat):Lim (limbs n):=(Ga _ n (Zth n)).2
theorem limbsF_tight(f:Nat):∀n,n<4294967296 ^ f->Mo (Ft f n):=by
 induction f with
 | zero=>intro n _ ys x h;simp[Ft] at h
 | succ f d =>
   intro n h ys x a;unfold Ft at a;by_cases h0:n=0
   ·simp[h0] at a
   rw[if_neg h0] at a;have hd:n / 4294967296<4294967296 ^ f:=by
    rw[Nat.pow_succ] at h;exact Nat.div_lt_of_lt_mul (by rw[Ei];exact h)
   cases ys with
   | nil =>
     simp only[DD,List.cons.injEq] at a;obtain⟨h1,c⟩:=a;have b:=(Ga f _ hd).1;rw[c] at b;simp[val] at b;omega
   | cons y ys =>
     simp only[DT,List.cons.injEq] at a;exact d _ hd ys x a.2
theorem Fk(n:Nat):Mo (limbs n):=limbsF_tight _ n (Zth n)
theorem Mo.tail{t:List Nat}(h:Mo (x::t)):Mo t:=λys y a=>h (x::ys) y (by rw[a];rfl)
theorem val_inj(xs:List Nat):∀ys,Lim xs->Lim ys->Mo xs->Mo ys->val xs=val ys->xs=ys:=by
 induction xs with
 | nil=>intro ys _ _ _ ty h;exact (Fv ys ty (by simpa [val] using h.symm)).symm
 | cons x t d =>
   intro ys a b c ty h;cases ys with
   | nil=>exact Fv _ c (by simpa [val] using h)
   | cons y s =>
     have h1:=a.cons.1;have f:=b.cons.1;simp only[val] at h;have e:x=y:=AA
     subst e;rw[d s a.cons.2 b.cons.2 c.tail ty.tail AA]
theorem Mf(xs:List Nat)(h:Lim xs)(a:Mo xs):limbs (val xs)=xs :=
 val_inj _ _ (Z9 _) h (Fk _) a (Yd _)
theorem Zws(xs:List Nat)(k:Nat)(a:k<xs.length)(h0:xs.getD k 0=0):Xx (xs.take (k+1))=Xx (xs.take k):=by
 have:xs.take (k+1)=xs.take k++[0]:=by
  rw[List.take_succ_eq_append_getElem a];simp[AN a] at h0;rw[h0]
 rw[this,L4]
theorem Zxp(xs:List Nat)(k:Nat)(a:k<xs.length)(h0:xs.getD k 0≠0):Xx (xs.take (k+1))=xs.take (k+1):=by
 have:xs.take (k+1)=xs.take k++[xs[k]]:=List.take_succ_eq_append_getElem a;rw[this,Zxh];simpa [AN a] using h0
theorem Zx3(n:Nat):∀xs:List Nat,xs.length=n->val (Xx xs)=val xs/\Mo (Xx xs)/\(∃k,Xx xs=xs.take k):=by
 induction n with
 | zero=>intro xs h;have:xs=[]:=BL h;subst this;exact⟨rfl,by intro ys x h;simp[Xx] at h,0,rfl⟩
 | succ n f =>
   intro xs h;rcases List.eq_nil_or_concat xs with rfl | ⟨ys,x,rfl⟩
   ·simp at h
   rw[List.concat_eq_append] at *;simp at h;by_cases h0:x=0
   ·subst h0;rw[L4];obtain⟨h1,b,k,a⟩:=f ys h;refine⟨by rw[h1,Wf];simp,b,?_⟩;by_cases c:k<=ys.length
    ·exact⟨k,by rw[a,Es c]⟩
    exact⟨ys.length,by rw[a,Es (AJ _),AR AA,List.take_length]⟩
   rw[Zxh _ _ h0];refine⟨rfl,λg z d=>?_,(ys++[x]).length,by rw[List.take_length]⟩;have:=List.append_inj' d rfl;simp at this;omega
theorem neatL_lim(xs:List Nat)(h:Lim xs):Lim (Xx xs):=by
 obtain⟨_,_,k,a⟩:=Zx3 _ xs rfl;rw[a];exact h.take k
theorem Vg(xs:List Nat)(h:Lim xs):Xx xs=limbs (val xs):=by
 obtain⟨h1,a,_⟩:=Zx3 _ xs rfl;rw[<-h1,Mf _ (neatL_lim xs h) a]
theorem Vt(n k:Nat):(limbs n).length<=k↔n<4294967296 ^ k:=by
 constructor
 ·intro h;have h1:=Ui _ (Z9 n);rw[Yd] at h1;exact AK h1 (DA AC h)
 intro h;rcases BC k (limbs n).length with a | a
 ·exfalso;rcases List.eq_nil_or_concat (limbs n) with h0 | ⟨ys,x,b⟩
  ·simp[h0] at a
  rw[List.concat_eq_append] at b;have h0:=Fk n ys x b;have c:=Yd n;rw[b,Wf] at c;rw[b] at a;simp at a;have d:(4294967296:Nat) ^ k<=4294967296 ^ ys.length:=DA AC AA;have f:4294967296 ^ ys.length*1<=4294967296 ^ ys.length*x:=El _ AA;omega
 exact a
theorem Ym(n:Nat)(h:n<big):Zm (limbs n)=true:=by
 have h1:(limbs n).length<=32:=(Vt n 32).2 (by rw[<-Zwf];exact h);simp only[Zm,h1,decide_true,Bool.true_and,BX,decide_eq_true_eq,BM,ne_eq];rcases List.eq_nil_or_concat (limbs n) with h0 | ⟨ys,x,a⟩
 ·simp[h0]
 rw[List.concat_eq_append] at a;right;rw[a];simpa using Fk n ys x a
theorem Nw(a b:Nat)(c:a<big)(d:b<big):N9 (limbs a) (limbs b)=Xm (a*b):=by
 simp[N9,Ym a c,Ym b d,Yd]
theorem Nz(a b:Nat)(c:a<big)(d:b<big):Mu (limbs a) (limbs b)=Xm (a+b):=by
 simp[Mu,Ym a c,Ym b d,Yd]
theorem Zs4(a:List Nat)(h:Lim a):(if (Xx a).length<=32 then (Xx a,0) else (([]:List Nat),2))=Xm (val a):=by
 rw[Vg a h];unfold Xm;by_cases b:val a<big
 ·rw[if_pos b,if_pos ((Vt _ 32).2 (by rw[<-Zwf];exact b))]
 rw[if_neg b,if_neg (λc=>b (by rw[Zwf];exact (Vt _ 32).1 c))]
theorem Zxn(xs ys:List Nat)(i:Nat):Lim (V4 xs ys i).1:=by
 induction i with
 | zero=>exact Lim.nil
 | succ i a=>exact a.append (Lim.mk (Nat.mod_lt _ AC) Lim.nil)
theorem Y5(xs:List Nat)(i:Nat):val (xs.take (i+1))=val (xs.take i)+4294967296 ^ i*xs.getD i 0:=by
 by_cases h:i<xs.length
 ·rw[List.take_succ_eq_append_getElem h,Wf,BY,Nat.min_eq_left AA];simp[AN h]
 rw[AR AA,AR AA];simp[BE (show xs.length<=i by omega)]
theorem addP_val(xs ys:List Nat)(i:Nat):
 val (V4 xs ys i).1+4294967296 ^ i*(V4 xs ys i).2=val (xs.take i)+val (ys.take i):=by
 induction i with
 | zero=>simp[V4,val]
 | succ i a =>
   rw[Y5,Y5];simp only[V4];rw[Wf,Mq,Nat.pow_succ];generalize (V4 xs ys i).1=b at *;generalize (V4 xs ys i).2=c at *;generalize xs.getD i 0=x at *;generalize ys.getD i 0=y at *;generalize (4294967296:Nat) ^ i=B at *;have e:4294967296*((x+y+c) / 4294967296)+(x+y+c) % 4294967296=x+y+c:=Nat.div_add_mod _ _;have:B*((x+y+c) % 4294967296)+B*4294967296*((x+y+c) / 4294967296)=B*x+B*y+B*c:=by
    rw[DU,<-Eb,Eo,e,Eb,Eb]
   omega
theorem Zx4(xs ys:List Nat)(i:Nat)(a:xs.length<=i)(b:ys.length<=i):
 val ((V4 xs ys i).1++[(V4 xs ys i).2])=val xs+val ys:=by
 rw[Wf,Mq,addP_val,AR a,AR b]
theorem addP_full(xs ys:List Nat)(d:Lim xs)(f:Lim ys)(i:Nat)(h1:xs.length<=i)(a:ys.length<=i):
 val (V4 xs ys (i+1)).1=val xs+val ys:=by
 have h:=Zx4 xs ys i h1 a;have g:=Lg xs ys d f i;rw[Wf,Mq] at h;simp only[V4];rw[Wf,Mq];have b:xs.getD i 0=0:=by simp[BE h1]
 have c:ys.getD i 0=0:=by simp[BE a]
 rw[b,c,Eh AA];simpa using h
theorem Lq:(limbs n).length=0↔n=0:=by
 constructor
 ·intro h;have h1:limbs n=[]:=BL h;have a:=Yd n;rw[h1] at a;exact a.symm
 rintro rfl;rfl
def B6(tab:Nat->Nat->Nat)(a:List Nat)(m p:Nat):Nat->Nat->Nat:=λk i=>if k<m then tab k i else if k=m/\(a.take p).contains i=true then tab k i else 0
theorem cut_zero(tab:Nat->Nat->Nat)(a:List Nat):B6 tab a 0 0=λ_ _=>0:=by
 funext k i;unfold B6;rw[if_neg AA,if_neg];rintro⟨_,h⟩;simp at h
theorem Off.refl(S:Nat->Prop)(w:World):Off S w w:=⟨rfl,rfl,rfl,AJ _,λ_ _ _=>rfl⟩
theorem Off.of_below{S:Nat->Prop}(h:Below w w w'):Off S w w':=⟨h.os,h.tape,h.output,h.size,λk a _=>h.block k a⟩
theorem termP_keep{G a:Gr}{s:ByteArray}{i:Int}(h:Zzj G s=some (i,a))(h1:G.terms.length<=24):a.nons=G.nons/\a.rules=G.rules/\a.start=G.start/\-17<=i/\i<=24:=by
 unfold Zzj at h;by_cases h0:0<=G.term s
 ·rw[if_pos h0] at h;simp only[BR,DM] at h;obtain⟨rfl,rfl⟩:=h;have b:=(U9 (λt=>decide (t.name=s)) G.terms).2;have c:G.term s=Y8 (λt=>decide (t.name=s)) G.terms:=rfl;exact⟨rfl,rfl,rfl,AA,AA⟩
 rw[if_neg h0] at h;split at h
 ·cases h
 simp only[BR,DM] at h;obtain⟨rfl,rfl⟩:=h;exact⟨rfl,rfl,rfl,AA,AA⟩
def RMulRel(w:World)(xs ys:List Nat)(i:Value)(wr:World):Prop :=
 ∃(k:Nat) (a:List Nat),k<=xs.length/\i = .int .i64 (k:Int)/\a.length=64/\Lim a/\val a=val (xs.take k)*val ys /\
  Own wr w.heap.size 49 .u32 a/\Below w.heap.size w wr
theorem Wx(x:Nat):Lim (Vk x).1:=by
 unfold Vk;split
 ·exact Z9 x
 exact λy a=>by cases a
def MulRel(w:World)(xs ys:List Nat)(i:Value)(wr:World):Prop :=
 ∃(k:Nat) (a:List Nat),k<=xs.length/\i = .int .i64 (k:Int)/\a.length=xs.length+ys.length/\Lim a/\val a=val (xs.take k)*val ys /\
  (∀j,k+ys.length<=j->a.getD j 0=0)/\Own wr w.heap.size 49 .u32 a/\Below w.heap.size w wr
theorem lowN_take(h:l[q]? = some s):Uy N (l.take (q+1))=Uy N (l.take q)+(if Xg N s then 0 else 1):=by
 rw[CX,h];unfold Uy;rw[List.countP_append];cases a:Xg N s <;> simp[List.countP_cons,List.countP_nil,a]
theorem Qc{α:Type}{l m:List α}{x:α}(h:l.take k=m.take k)(a:l[k]? = some x)(b:m[k]? = some x):l.take (k+1)=m.take (k+1):=by
 rw[CX,CX,h,a,b]
theorem Va:limbs 0=[]:=by
 have:=(Vt 0 0).2 AC;exact BL AA
theorem Ul(xs:List Nat)(h:Lim xs)(a:Zm xs=true):xs=limbs (val xs)/\val xs<big:=by
 refine⟨(Mf xs h (X8 xs a)).symm,?_⟩;have h1:=Ui xs h;simp[Zm] at a;rw[Zwf];exact AK h1 (DA AC a.1)
theorem subP_val(xs l:List Nat)(a:Lim xs)(b:Lim l)(i:Nat):
 val (Xn xs l i).1+val (l.take i)=val (xs.take i)+4294967296 ^ i*(Xn xs l i).2:=by
 induction i with
 | zero=>simp[Xn,val]
 | succ i h =>
   have g:=Qi xs l i;have h1:=a.getD i;have f:=b.getD i;rw[Y5,Y5];simp only[Xn];rw[Wf,Mj,Nat.pow_succ];generalize (Xn xs l i).1=j at *;generalize (Xn xs l i).2=c at *;generalize xs.getD i 0=x at *;generalize l.getD i 0=y at *;generalize (4294967296:Nat) ^ i=B at *;have e:(4294967296+x-y-c) % 4294967296+y+c=x+4294967296*(1-(4294967296+x-y-c) / 4294967296):=AA
   generalize (4294967296+x-y-c) % 4294967296=d at *;generalize 1-(4294967296+x-y-c) / 4294967296=k at *;have:B*d+B*y+B*c=B*x+B*4294967296*k:=by
    rw[<-Eb,<-Eb,e,Eb,DU]
   omega
theorem Zt3(xs d:List Nat)(b:Lim xs)(c:Lim d)(i:Nat)(h1:xs.length<=i)(a:d.length<=i):
 val (Xn xs d i).1+val d=val xs+4294967296 ^ i*(Xn xs d i).2:=by
 have:=subP_val xs d b c i;rwa [AR h1,AR a] at this
theorem Zzx(xs q:List Nat)(m:Lim xs)(n:Lim q)(k:Nat):
 Vm (val (xs.take (k+1))) (val (q.take (k+1))) =
  if xs.getD k 0<q.getD k 0 then -1 else if q.getD k 0<xs.getD k 0 then 1 else Vm (val (xs.take k)) (val (q.take k)):=by
 have h1:=Ui _ (m.take k);have c:=Ui _ (n.take k);have d:(4294967296:Nat) ^ (xs.take k).length<=4294967296 ^ k:=DA AC (List.length_take_le _ _);have f:(4294967296:Nat) ^ (q.take k).length<=4294967296 ^ k:=DA AC (List.length_take_le _ _);rw[Y5,Y5];have o:=AK h1 d;have p:=AK c f;clear h1 c d f;generalize val (xs.take k)=a at *;generalize val (q.take k)=b at *;generalize (4294967296:Nat) ^ k=B at *;generalize xs.getD k 0=x at *;generalize q.getD k 0=y at *;by_cases l:x<y
 ·rw[if_pos l];have:B*(x+1)<=B*y:=El _ AA;rw[Eb] at this;unfold Vm;rw[if_pos AA]
 rw[if_neg l];by_cases j:y<x
 ·rw[if_pos j];have:B*(y+1)<=B*x:=El _ AA;rw[Eb] at this;unfold Vm;rw[if_neg AA,if_pos AA]
 rw[if_neg j];obtain rfl:x=y:=AA
 unfold Vm;by_cases g:a<b
 ·rw[if_pos g,if_pos AA]
 rw[if_neg g,if_neg AA];by_cases h:b<a
 ·rw[if_pos h,if_pos AA]
 rw[if_neg h,if_neg AA]
theorem twP_val(xs:List Nat)(b k:Nat):val (twP xs b k).1+4294967296 ^ k*(twP xs b k).2=2*val (xs.take k)+b:=by
 induction k with
 | zero=>simp[twP,val]
 | succ k d =>
   rw[Y5];simp only[twP];rw[Wf,Zye,Nat.pow_succ];generalize (twP xs b k).1=f at *;generalize (twP xs b k).2=c at *;generalize xs.getD k 0=x at *;generalize (4294967296:Nat) ^ k=B at *;have e:4294967296*((2*x+c) / 4294967296)+(2*x+c) % 4294967296=2*x+c:=Nat.div_add_mod _ _;have:B*((2*x+c) % 4294967296)+B*4294967296*((2*x+c) / 4294967296)=B*(2*x)+B*c:=by
    rw[DU,<-Eb,Eo,e,Eb]
   have a:B*(2*x)=2*(B*x):=by rw[<-DU,Ei B 2,DU]
   rw[Eb];omega
theorem twP_all(xs:List Nat)(b:Nat):val ((twP xs b xs.length).1++[(twP xs b xs.length).2])=2*val xs+b:=by
 rw[Wf,Zye,twP_val,List.take_length]
theorem Zw6{a:Nat}(c:a<big)(d:b<=a):Mw (limbs a) (limbs b)=(limbs (a-b),0):=by
 have h:¬a<b:=AA
 simp[Mw,Ym a c,Ym b (Ev d c),Yd,h]
theorem Zv2{a:Nat}(c:a<big)(d:b<big)(h0:0<b):M2 (limbs a) (limbs b)=(limbs (a / b),limbs (a % b),0):=by
 have f:limbs b≠[]:=λe=>by have:=Lq.1 (by rw[e];rfl:(limbs b).length=0);omega
 simp[M2,Ym a c,Ym b d,Yd,f]
section
open Go.RowKit Go.Maps
theorem Ways.zero{t:Trm}(h:Ways D p)(b:t.level=0):Ways D (p++[t]) :=
 ⟨h.tidy,λL a=>by rw[h.at_ L a,Nx,if_neg AA],λL a=>by rw[h.has_ L a,Kf,show decide (t.level=L)=false from by simp;omega,Bool.or_false],by rw[h.size_,cntL_zero p t b]⟩
theorem Ways.more{t:Trm}(h:Ways D p)(d:1<=t.level)(f:t.level<=24):Ways (D.put (.int .i64 t.level) (.lit (.int .i64 t.assoc))) (p++[t]):=by
 refine⟨h.tidy.put (Zud _) _,λL c=>?_,λL c=>?_,?_⟩
 ·rw[Nx];by_cases b:t.level=L
  ·subst b;rw[if_pos rfl,atKey_put_same h.tidy.isMap (Zud _)]
  rw[if_neg b,atKey_put_other (by intro a;injection a with _ a;exact b a.symm),h.at_ L c]
 ·rw[Kf];by_cases b:t.level=L
  ·subst b;rw[has_put_same h.tidy.isMap (Zud _)];simp
  rw[has_put_other (by intro a;injection a with _ a;exact b a.symm),h.has_ L c];simp[b]
 rw[size_put h.tidy,h.has_ _ d,h.size_,cntL_snoc p t d f]
theorem cf_levels(A:Option Addr)(n c:Nat)(l:List Trm)(w:World)(h:N8 w A n c l)(hn:n<=1000)(C:∀t∈l,0<=t.level/\t.level<=24/\0<=t.assoc/\t.assoc<=3):
 Calls prog 160 #[.slice A n c] w λe w'=>e = .returned (.bool (Jh l))/\Below w.heap.size w w':=by
 obtain rfl:=h.len;have a2:=h.cap;have Hb:=LH C;clear C;have ap:=@run_makeMap prog;have U:=Zy w (.map #[] 0);have W:=World.ownsMap_made w prog 3 (plainElem (H:=Unit) prog 3);go_enter func160,ntmps160;go_wp2_with fail;go_loopw [4,6,7,11] (λtop _ _ i wr=>∃(k:Nat) (D:DataW Unit),k<=l.length/\i = .int .i64 (k:Int)/\top = .int .i64 (J7 (l.take k))/\wr.ownsMap prog 3 (plainElem prog 3) w.heap.size k D/\Below w.heap.size w wr/\Hid (Ways D (l.take k))/\Hid (0<=J7 (l.take k)/\J7 (l.take k)<=24)/\Hid (∀j,j<k->∀y,l[j]? = some y->(!Fo l j y)=false)) (λ_ _ _ i _=>l.length-(intOf i).toNat)
 case atStart=>exact⟨0,.map [],AV _,rfl,rfl,W,U,LH Ways.start,LH (by simp[J7]),LH λj Z=>AA⟩
 clear W U ap;obtain⟨k,D,hk,rfl,rfl,E,B,z,I,G⟩:=hrel;have a4:=E.lt;by_cases ao:k<l.length
 ·obtain⟨b,a6,t,rfl,C,r,q0,q1,q2⟩:=h.get ao;rw[<-B.cell (by exact C)] at q0 q1 q2;have am:=Hb.out t (AM r.out);have ab:l.take (k+1)=l.take k++[t]:=by rw[CX,r.out];rfl
  have s:=LH ab;obtain⟨g1,g2,g3,g4⟩:=am;obtain⟨t1,t2⟩:=I.out;have V:∀o,Below w.heap.size w (wr.alloc o):=λo=>B.alloc B.size o;have v:=LH V;have x:Hid (∀o,(wr.alloc o).ownsMap prog 3 (plainElem prog 3) w.heap.size k D):=LH λo=>E.alloc o;clear V ab E;by_cases m:t.level=0
  ·have d1:(t.level==0)=true:=by rw[BO];exact m
   have p:=LH m;clear m;go_wp2_with fail;go_roundw
   case rel=>exact⟨k+1,D,AA,AF,by rw[s.out,Dz,if_pos p.out],(x.out _).mono AA,v.out _,by rw[s.out];exact LH (z.out.zero p.out),by rw[s.out,Dz,if_pos p.out];exact I,LH (Lr G.out r.out (by simp[Fo,p.out]))⟩
   simp[intOf];omega
  have d1:(t.level==0)=false:=by rw[AQ];exact m
  have p:=LH m;have R:1<=t.level:=AA
  have L:keyOf prog 3 (.int .i64 t.level)=some (.int .i64 t.level):=keyOf_int_mk underlying3 (WalkArith.wf_i64 AA);have aa:=z.out.at_ t.level R;have X:Fo l k t=(decide (Vl (l.take k) t.level=0) || decide (Vl (l.take k) t.level=t.assoc)):=by
   unfold Fo;rw[show decide (t.level=0)=false from by simp[m],Bool.false_or]
  have M:=LH X;generalize Vl (l.take k) t.level=f at *;have N:=LH aa;clear m aa X;by_cases g:f≠0/\f≠t.assoc
  ·have F:Hid (Jh l=false):=LH (by
    have:consOK l=false:=Lp r.out (by rw[M.out];simp[g.1,g.2]);unfold Jh;rw[this];rfl)
   have P:(f != 0)=true:=by rw[BM];exact g.1
   have d3:(f != t.assoc)=true:=by rw[BM];exact g.2
   clear g;go_wp2_with (at_lookup;refine wpList_lookup_own_int _ rfl _ _ 154 rfl 3 3 .i64 law3 underlying154 underlying3 (zero3 _) w.heap.size k _ rfl (x.out _) _ _ rfl L ?_;intro c' d au;rw[N.out] at d;injection d with d;injection d with _ d;subst d);go_ret;exact⟨by rw[F.out];rfl,v.out _⟩
  have ag:Hid ((!Fo l k t)=false):=LH (by
   rw[M.out];by_cases q:f=0
   ·simp[q]
   by_cases u:f=t.assoc
   ·simp[u]
   exact absurd ⟨q,u⟩ g)
  have hw:(f != 0)=false\/((f != 0)=true/\(f != t.assoc)=false):=by
   rw[BQ,BQ,BM];by_cases q:f=0
   ·exact .inl q
   exact .inr ⟨q,by by_cases u:f=t.assoc;exact u;exact absurd ⟨q,u⟩ g⟩
  have O:Hid (J7 (l.take (k+1))=max (J7 (l.take k)) t.level):=LH (by rw[s.out,Dz,if_neg p.out]);have J:=Wg wr 91 #[.string t.name,.int .i64 t.level,.int .i64 t.assoc] 1;simp only[DS,List.getElem?_cons_zero,List.getElem?_cons_succ] at J;have af:=LH J;clear g J;rcases hw with P | ⟨P,d3⟩;all_goals
   go_wp2_with (first
    | (at_lookup;refine wpList_lookup_own_int _ rfl _ _ 154 rfl 3 3 .i64 law3 underlying154 underlying3 (zero3 _) w.heap.size k _ rfl (x.out _) _ _ rfl L ?_;intro c' d au;rw[N.out] at d;injection d with d;injection d with _ d;subst d)
    | (at_mapUpdate;refine wpList_mapUpdate_own _ rfl _ _ _ 154 rfl 3 3 law3 underlying154 _ w.heap.size k _ rfl (x.out _) (by unfold maxLen;omega) _ _ _ rfl rfl L _ [] (plainElem_int underlying3 (WalkArith.wf_i64 AA)) ?_;intro w4 aq Y;have r1:=(DL (a:=⟨wr.heap.size,1,none⟩) (Y.block wr.heap.size AE (by intro S;injection S with S;omega))).trans af.out))
   go_roundw
   case rel=>exact⟨k+1,_,AA,AF,by rw[O.out],aq,(v.out _).grown Y (v.out _).size (λj Z=>by cases Z;exact AJ _),by rw[s.out];exact LH (z.out.more R g2),LH (by rw[O.out];omega),LH (Lr G.out r.out ag.out)⟩
   simp[intOf];omega
 obtain rfl:k=l.length:=AA
 have hL:((l.length:Int)<(l.length:Int))=False:=AE
 have F:Hid (Jh l=(((Maps.size D:Nat):Int)==J7 l)):=LH (by
  have hc:consOK l=true:=Kc λj y hy=>by
   have:=G.out j (AO.1 hy).1 y hy;simpa using this
  have T:=z.out.size_;have h2:=I.out;rw[AR (AJ _)] at T h2;unfold Jh;rw[hc,T,Bool.true_and,BZ,BB,BO])
 go_wp2_with (at_len;refine wpList_len_own _ rfl _ 154 rfl 3 3 underlying154 _ w.heap.size _ _ rfl E ?_);go_ret;exact⟨by rw[F.out];rfl,B⟩
theorem clone_strs(A:Option Addr)(n c:Nat)(d:List ByteArray)(w:World)(h:Js w A n c d)(B:n<=1000):
 Calls prog 97 #[.slice A n c] w λe w'=>∃f g,e = .returned (.slice f n g)/\w'.ownsRow w 9 1 (.slice f n g) n (d.map Value.string)/\Below w w w':=by
 obtain rfl:=h.len;cases A with
 | none =>
   have o:d=[]:=by
    cases d with
    | nil=>rfl
    | cons z d =>
      obtain⟨b,p,e,_⟩:=h.2.2.2 AE;cases e
   subst o;refine (Tryz.slices_Clone_string_nil 0 c w).mono ?_;rintro e w'⟨rfl,rfl⟩;exact⟨none,0,rfl,BJ w' _ _ _,AL _ _⟩
 | some a =>
   by_cases r:d.length=0
   ·have o:=BL r;subst o;refine (Tryz.slices_Clone_string_zero a c w).mono ?_;rintro e w'⟨x,rfl,k,_,l⟩;obtain⟨f,g,rfl⟩:=M3 k;exact⟨f,g,rfl,k,l⟩
   obtain⟨b,p,s,e,l,_,_⟩:=h.get (j:=0) AA;injection e with e;subst e;have t:∀j,j<d.length->w.cell? ⟨b,p+j,none⟩=some (.string (d.getD j ByteArray.empty)):=λj v=>by
    obtain⟨y,C,D,m,_,q,u⟩:=h.get v;injection m with m;injection m with e3 e4;subst e3 e4;rw[u,AP,q];rfl
   refine (Tryz.slices_Clone_string b p d.length c d w (AJ _) AA t).mono ?_;rintro e w'⟨x,rfl,k,_,l⟩;obtain⟨f,g,rfl⟩:=M3 k;rw[AR (AJ _)] at k;exact⟨f,g,rfl,k,l⟩
theorem Tryz.infoStr:(prog.info? 9).map (λi=>(i.zero,i.size,i.bytes))=some (some (.string ByteArray.empty),1,16):=AB
theorem Blk.cell(h:Blk w g t cs)(i:Nat):w.cell? ⟨g,i,none⟩=cs[i]? := by
 unfold Blk at h;simp[World.cell?,h]
theorem Blk.frozen(h:Blk w g t cs)(i:Nat):w.frozen? ⟨g,i,none⟩=false:=by
 unfold Blk at h;simp[World.frozen?,h]
theorem Z8.at(h:Z8 w g N)(hi:i<N.length):w.cell? ⟨g,i,none⟩=some (.bool (N.getD i false)):=by
 rw[Blk.cell h];simp[Qk,hi]
theorem Tryz.infoBool:(prog.info? 4).map (λi=>(i.zero,i.size,i.bytes))=some (some (.bool false),1,1):=AB
end
theorem Yu{P:Program}{a:Func}{p u v:Tmp}{ty:TypeId}(h:a.results=#[.cell p ty,.tmp u,.tmp v])(tmps:Array Value)(w:World)(g:Nat)(t:TypeId)(cs:Array Value)(b:Nat × Nat)(d:TypeDesc)(f:tmps.getD p undef = .pointer (some ⟨g,0,none⟩))(c:w.heap[g]? = some (.cells cs t b))(k:P.underlying ty=some d)(hd:(match d with | .struct _ | .array _ _=>true | _=>false)=true)(hi:(P.info? ty).map (·.size)=some cs.size):
 (results a tmps).run P w = .ok (.tuple #[.agg cs,tmps.getD u undef,tmps.getD v undef]) w:=by
 have j:tmps[p]?.getD undef = .pointer (some ⟨g,0,none⟩):=by simpa using f
 simp[results,h,j,asAddr,run_loadVar_row w g t ty cs b d c k hd hi]
theorem Tryz.infoI64C:(prog.info? 3).map (λi=>(i.zero,i.size,i.bytes))=some (some (.int .i64 0),1,8):=AB
theorem own_cell{k:IntKind}{a:List Nat}(h:Own w g t k a)(hi:a[i]? = some x):w.cell? ⟨g,i,none⟩=some (.int k (x:Int)):=by
 obtain⟨y,b,c⟩:=h.cell (i:=i) (by rcases BC i a.length with h | h;exact h;rw[BE h] at hi;cases hi);have:=b.out;rw[hi] at this;injection this with this;rw[this];exact c
section
open Go.Maps (Keyed IsMap Tidy)
theorem Fy(n:Nat):(zeroCells n).size=n*2:=by
 unfold zeroCells;simp only[List.size_toArray]
 induction n with
 | zero=>rfl
 | succ n a=>rw[DZ,List.flatMap_append,AU,a];simp;omega
theorem Zs3(x:Nat)(ys a:List Nat)(k:Nat):
 val (Vn x ys a k).1+4294967296 ^ k*(Vn x ys a k).2=x*val (ys.take k)+val (a.take k):=by
 induction k with
 | zero=>simp[Vn,val]
 | succ k d =>
   rw[Y5,Y5];simp only[Vn];rw[Wf,M1,Nat.pow_succ];generalize (Vn x ys a k).1=f at *;generalize (Vn x ys a k).2=c at *;generalize ys.getD k 0=y at *;generalize a.getD k 0=z at *;generalize (4294967296:Nat) ^ k=B at *;have e:4294967296*((x*y+z+c) / 4294967296)+(x*y+z+c) % 4294967296=x*y+z+c:=Nat.div_add_mod _ _;have:B*((x*y+z+c) % 4294967296)+B*4294967296*((x*y+z+c) / 4294967296)=B*(x*y)+B*z+B*c:=by
    rw[DU,<-Eb,Eo,e,Eb,Eb]
   rw[Eb];have b:x*(B*y)=B*(x*y):=by rw[<-DU,Ei x B,DU]
   omega
def Us(x:Nat)(ys a:List Nat)(i k:Nat):List Nat:=a.take i++(Vn x ys (a.drop i) k).1++a.drop (i+k)
theorem Zz7(x:Nat)(ys a:List Nat)(i:Nat):Us x ys a i 0=a:=by simp[Us,Vn]
theorem Zwa(x:Nat)(ys a:List Nat)(i k:Nat)(h:i+k<a.length):(Us x ys a i k)[i+k]? = a[i+k]? := by
 unfold Us;have b:(a.take i++(Vn x ys (a.drop i) k).1).length=i+k:=by
  rw[AU,BY,M1];omega
 rw[BW AA,b,Nat.sub_self,DY,DG]
theorem D0(x:Nat)(ys a:List Nat)(i k s:Nat)(h:i+k<a.length):
 (Us x ys a i k).set (i+k) s=a.take i++((Vn x ys (a.drop i) k).1++[s])++a.drop (i+k+1):=by
 unfold Us;have b:(a.take i++(Vn x ys (a.drop i) k).1).length=i+k:=by
  rw[AU,BY,M1];omega
 rw[List.set_append_right _ _ AA,b,Nat.sub_self,DV h,List.set_cons_zero];simp
theorem Zze(x:Nat)(ys a:List Nat)(i k:Nat)(h:i+k<a.length):
 (Us x ys a i k).set (i+k) ((x*ys.getD k 0+a.getD (i+k) 0+(Vn x ys (a.drop i) k).2) % 4294967296)=Us x ys a i (k+1):=by
 rw[D0 _ _ _ _ _ _ h];have:(a.drop i).getD k 0=a.getD (i+k) 0:=by simp[DY]
 simp only[Us,Vn,this,Ea]
theorem Nq(x:Nat)(ys a:List Nat)(i k:Nat)(h:i+k<=a.length):(Us x ys a i k).length=a.length:=by
 unfold Us;rw[AU,AU,BY,DQ,M1];omega
theorem Mn(a:List Nat)(i:Nat)(h:i<=a.length):val a=val (a.take i)+4294967296 ^ i*val (a.drop i):=by
 have:val (a.take i++a.drop i)=val (a.take i)+4294967296 ^ (a.take i).length*val (a.drop i):=Ny _ _;rw[List.take_append_drop,BY,Nat.min_eq_left h] at this;exact this
theorem mul_row(x:Nat)(ys a:List Nat)(i:Nat)(f:i+ys.length<a.length)(b:∀j,i+ys.length<=j->a.getD j 0=0):
 let c:=(Us x ys a i ys.length).set (i+ys.length) (Vn x ys (a.drop i) ys.length).2
 val c=val a+4294967296 ^ i*(x*val ys)/\c.length=a.length/\∀j,i+1+ys.length<=j->c.getD j 0=0:=by
 have g:=Zs3 x ys (a.drop i) ys.length;have m:=Mn a i AA;have n:=Mn (a.drop i) ys.length (by rw[DQ];omega);have h:val ((a.drop i).drop ys.length)=0:=by
  rw[List.drop_drop];exact Ns a _ (λj d=>b j AA)
 have k:val (a.drop (i+ys.length+1))=0:=Ns a _ (λj d=>b j AA);rw[List.take_length] at g;refine⟨?_,?_,?_⟩
 ·rw[D0 _ _ _ _ _ _ f,Ny,Ny,Wf,k,BY,Nat.min_eq_left AA,M1,Nat.mul_zero,DG];rw[m,n,h,Nat.mul_zero,DG,g,Eb];omega
 ·rw[List.length_set,Nq _ _ _ _ _ AA]
 intro j d;rw[D0 _ _ _ _ _ _ f];have l:(a.take i++((Vn x ys (a.drop i) ys.length).1++[(Vn x ys (a.drop i) ys.length).2])).length=i+ys.length+1:=by
  rw[AU,AU,BY,M1];simp;omega
 rw[AP,BW AA,l,DY];have:=b j AA;rw[AP] at this;rw[show i+ys.length+1+(j-(i+ys.length+1))=j from by omega];exact this
theorem mul_row_full(x:Nat)(ys a:List Nat)(i:Nat)(hi:i<=a.length)(f:val a+4294967296 ^ i*(x*val ys)<4294967296 ^ a.length)(d:ys.length<=a.length-i):
 val (Us x ys a i (a.length-i))=val a+4294967296 ^ i*(x*val ys)/\(Us x ys a i (a.length-i)).length=a.length:=by
 have b:=Zs3 x ys (a.drop i) (a.length-i);have g:=Mn a i hi;rw[AR d,AR (by rw[DQ];exact AJ _)] at b;refine⟨?_,Nq _ _ _ _ _ AA⟩;unfold Us;rw[show i+(a.length-i)=a.length from by omega,List.drop_length,DH,Ny,BY,Nat.min_eq_left hi];have e:4294967296 ^ i*val (Vn x ys (a.drop i) (a.length-i)).1+4294967296 ^ a.length*(Vn x ys (a.drop i) (a.length-i)).2=4294967296 ^ i*(x*val ys)+4294967296 ^ i*val (a.drop i):=by
  rw[<-Eb,<-b,Eb];congr 1;rw[<-DU,<-Nat.pow_add,show i+(a.length-i)=a.length from by omega]
 have c:(Vn x ys (a.drop i) (a.length-i)).2=0:=by
  rcases DJ (Vn x ys (a.drop i) (a.length-i)).2 with h0 | h0
  ·exact h0
  have:4294967296 ^ a.length*1<=4294967296 ^ a.length*(Vn x ys (a.drop i) (a.length-i)).2:=El _ h0;omega
 rw[c,Nat.mul_zero,DG] at e;omega
end
def RMulRel2(w:World)(x:Nat)(ys a:List Nat)(i:Nat)(c q:Value)(wr:World):Prop :=
 ∃k:Nat,i+k<=64/\q = .int .i64 (k:Int)/\c = .int .u64 ((Vn x ys (a.drop i) k).2:Int)/\Own wr w.heap.size 49 .u32 (Us x ys a i k)/\Below w.heap.size w wr
theorem val_take_le(xs:List Nat)(k:Nat):val (xs.take k)<=val xs:=by
 by_cases h:k<=xs.length
 ·rw[Mn xs k h];omega
 rw[AR AA];exact AJ _
theorem mul_fits(xs ys:List Nat)(c:Lim xs)(d:Lim ys)(h1:xs.length<=32)(b:ys.length<=32)(k:Nat)(h:k<xs.length):
 val (xs.take k)*val ys+4294967296 ^ k*(xs.getD k 0*val ys)<4294967296 ^ 64:=by
 have e:val (xs.take k)*val ys+4294967296 ^ k*(xs.getD k 0*val ys)=val (xs.take (k+1))*val ys:=by
  rw[Y5,Nat.add_mul,DU]
 rw[e];have a1:=val_take_le xs (k+1);have a2:=Ui xs c;have a3:=Ui ys d;have f:(4294967296:Nat) ^ xs.length<=4294967296 ^ 32:=DA AC h1;have g:(4294967296:Nat) ^ ys.length<=4294967296 ^ 32:=DA AC b;have a:(4294967296:Nat) ^ 64=4294967296 ^ 32*4294967296 ^ 32:=by rw[<-Nat.pow_add]
 rw[a];exact Nat.mul_lt_mul'' AA AA
def MulRel2(w:World)(x:Nat)(ys a:List Nat)(i:Nat)(c q:Value)(wr:World):Prop :=
 ∃k:Nat,k<=ys.length/\q = .int .i64 (k:Int)/\c = .int .u64 ((Vn x ys (a.drop i) k).2:Int)/\Own wr w.heap.size 49 .u32 (Us x ys a i k)/\Below w.heap.size w wr
theorem limb_of(xs:List Nat)(a:Lim xs)(j:Nat):xs.getD j 0=val xs / 4294967296 ^ j % 4294967296:=by
 by_cases h:j<xs.length
 ·have h1:=Mn xs j AA;have b:val (xs.take j)<4294967296 ^ j:=by
   have:=Ui _ (a.take j);rwa [BY,Nat.min_eq_left AA] at this
  rw[h1,Nat.add_mul_div_left _ _ (Nat.pow_pos AC),Nat.div_eq_of_lt b,BH,DV h];simp only[val];have:=a _ (List.getElem_mem h);rw[Nat.add_mul_mod_self_left,Eh this];simp[AN h]
 have h1:xs.getD j 0=0:=by simp[BE (show xs.length<=j by omega)]
 have b:=Ui _ a;have c:(4294967296:Nat) ^ xs.length<=4294967296 ^ j:=DA AC AA;rw[h1,Nat.div_eq_of_lt AA]
theorem bit_of(xs:List Nat)(c:Lim xs)(i:Nat):xs.getD (i / 32) 0 / 2 ^ (i % 32) % 2=val xs / 2 ^ i % 2:=by
 rw[limb_of xs c,show (4294967296:Nat) ^ (i / 32)=2 ^ (32*(i / 32)) from by rw[Nat.pow_mul]];have hi:i=32*(i / 32)+i % 32:=AA
 have b:i % 32<32:=Nat.mod_lt _ AC;generalize i / 32=j at *;generalize i % 32=r at *;subst hi;rw[Nat.pow_add,<-Nat.div_div_eq_div_mul];generalize val xs / 2 ^ (32*j)=v;have h1:=Nat.testBit_mod_two_pow v 32 r;rw[Nat.testBit_eq_decide_div_mod_eq,Nat.testBit_eq_decide_div_mod_eq] at h1;simp only[b,decide_true,Bool.true_and,decide_eq_decide] at h1;have a:(2:Nat) ^ 32=4294967296:=AC
 rw[a] at h1;have d:=Nat.mod_lt (v % 4294967296 / 2 ^ r) (show 0<2 by decide);have f:=Nat.mod_lt (v / 2 ^ r) (show 0<2 by decide);omega
theorem set_bit(a:List Nat)(f:Lim a)(i:Nat)(hi:i / 32<a.length)(q:Nat)(l:val a=q*2 ^ (i+1)):
 a.getD (i / 32) 0 ||| 2 ^ (i % 32)=a.getD (i / 32) 0+2 ^ (i % 32)/\a.getD (i / 32) 0+2 ^ (i % 32)<4294967296 /\
 val (a.set (i / 32) (a.getD (i / 32) 0+2 ^ (i % 32)))=val a+2 ^ i:=by
 have t:=f.getD (i / 32);have d:=bit_of a f i;have n:val a / 2 ^ i % 2=0:=by
  rw[l,Nat.pow_succ,<-DU,Ei q,DU,Nat.mul_div_cancel_left _ (Nat.two_pow_pos i)];omega
 rw[n] at d;have v:i % 32<32:=Nat.mod_lt _ AC;have h:2 ^ i=4294967296 ^ (i / 32)*2 ^ (i % 32):=by
  rw[show (4294967296:Nat) ^ (i / 32)=2 ^ (32*(i / 32)) from by rw[Nat.pow_mul],<-Nat.pow_add,show 32*(i / 32)+i % 32=i from by omega]
 refine⟨?_,?_,by rw[val_set a _ _ hi,h]⟩;all_goals
  generalize a.getD (i / 32) 0=x at *;generalize i % 32=r at *;have s:(2:Nat) ^ (r+1)=2*2 ^ r:=by rw[Nat.pow_succ,Ei]
  have j:x % 2 ^ (r+1)<2 ^ r:=by
   rw[Nat.mod_pow_succ,d,Nat.mul_zero,DG];exact Nat.mod_lt _ (Nat.two_pow_pos r)
  have m:2 ^ (r+1)*(x / 2 ^ (r+1))+x % 2 ^ (r+1)=x:=Nat.div_add_mod _ _;have u:=Nat.two_pow_pos r
 ·have c:(2 ^ (r+1)*(x / 2 ^ (r+1))) % 2 ^ (r+1)=0:=Nat.mul_mod_right _ _;have b:=nat_join (r+1) (2 ^ (r+1)*(x / 2 ^ (r+1))) (x % 2 ^ (r+1)) c AA;have o:=nat_join r (2 ^ r) (x % 2 ^ (r+1)) (Nat.mod_self _) j;have p:=nat_join (r+1) (2 ^ (r+1)*(x / 2 ^ (r+1))) (2 ^ r+x % 2 ^ (r+1)) c AA;rw[m] at b;rw[<-b,Nat.or_assoc,Nat.or_comm (x % 2 ^ (r+1)),o,p,b];omega
 have e:(4294967296:Nat)=2 ^ (r+1)*2 ^ (31-r):=by
  rw[<-Nat.pow_add,show r+1+(31-r)=32 from by omega]
 have k:2 ^ (r+1)*(x / 2 ^ (r+1))<2 ^ (r+1)*2 ^ (31-r):=by rw[<-e];omega
 have h1:x / 2 ^ (r+1)<2 ^ (31-r):=Nat.lt_of_mul_lt_mul_left k;have g:2 ^ (r+1)*(x / 2 ^ (r+1)+1)<=2 ^ (r+1)*2 ^ (31-r):=El _ h1;rw[<-e,Eb,Ep] at g;omega
section
open Go.Maps (Keyed IsMap Tidy)
open Go.Maps (Keyed IsMap Tidy)
theorem Jk{b:Bool}(d:Blk w g t #[.slice A n c,.bool b]):Qf w g:=by
 intro o k z a;rw[d.cell o] at a;rcases o with _ | _ | o <;> cases a
theorem symT_snoc(h:l[q]? = some s):Vr (l.take (q+1))=Vr (l.take q)++[(s+16).toNat]:=by
 rw[Ya h];unfold Vr;rw[DF];rfl
end
section
open Ieee
theorem Less.refl(a:WSt):Less a a:=⟨AJ _,AJ _,AJ _⟩
end
section
open Go.Shelf
open Go.ChangeShapes Go.WideShapes Go.ChangeAt Go.RowKit
open Go.ChangeShapes Go.WideShapes Go.ChangeAt Go.RowKit
theorem Js.of_row{x:Addr}{len cap:Nat}(k:len<=cap)(l:cap<=maxLen)(p:ss.length=cap)(d:∀i,i<ss.length->w.cell? (x.add i)=some (.string (ss.getD i ByteArray.empty))):Js w (some x) len cap (ss.take len):=by
 have c:(ss.take len).length=len:=by rw[BY];omega
 refine⟨by rw[BF,c],k,by simpa [maxLen] using l,λm=>?_⟩;rw[BF,c] at m;obtain⟨b,a,o⟩:=x;have h0:=d 0 AA;have n:o=none:=by simpa [Addr.add] using World.cell?_spot h0
 subst n;have h:w.cell? ⟨b,a,none⟩=some (.string (ss.getD 0 ByteArray.empty)):=by simpa [Addr.add] using h0
 refine⟨b,a,rfl,Zyg h,λj f=>?_⟩;rw[BF,c] at f;have g:=d j AA;have e:(⟨b,a,none⟩:Addr).add j=⟨b,a+j,none⟩:=by
  unfold Addr.add;split
  ·rename_i h0;subst h0;rfl
  rfl
 rw[e] at g;rw[g,By,En,if_pos f,AN AA,AP,AN AA];rfl
end
section
open Go.Shelf
open Go.ChangeShapes Go.WideShapes Go.ChangeAt Go.RowKit
open Go.ChangeShapes Go.WideShapes Go.ChangeAt Go.RowKit
open Go.ChangeShapes Go.WideShapes Go.ChangeAt Go.RowKit Go.Lib Go.Deep
open Go.ChangeShapes Go.WideShapes Go.ChangeAt Go.RowKit Go.Lib Go.Deep
theorem made_vals(n:Nat):madeCells #[Value.slice none 0 0,Value.bool false] (n*2)=zeroCells n:=by
 apply Array.ext_getElem?;intro j;by_cases c:j<n*2
 ·have b:=Cl n (j / 2) AA;have a:(madeCells #[Value.slice none 0 0,Value.bool false] (n*2))[j]? = some (if j % 2=0 then Value.slice none 0 0 else Value.bool false):=by
   simp[madeCells,c];rcases Nat.mod_two_eq_zero_or_one j with h | h <;> simp[h]
  rw[a];rcases Nat.mod_two_eq_zero_or_one j with h | h
  ·rw[if_pos h,<-b.1];congr 1;omega
  rw[if_neg AA,<-b.2];congr 1;omega
 have a:(madeCells #[Value.slice none 0 0,Value.bool false] (n*2)).size=n*2:=by simp[madeCells]
 have d:=Fy n;rw[CW AA,CW AA]
end
