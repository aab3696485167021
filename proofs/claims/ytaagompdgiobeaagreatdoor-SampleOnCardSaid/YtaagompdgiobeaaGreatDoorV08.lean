/- Words for slices that read as strings; a string's bytes appended. -/
import Derived.Test.YtaagompdgiobeaaGreatDoorV04
import Derived.Test.YtaagompdgiobeaaGreatDoorV05
import Derived.Test.YtaagompdgiobeaaGreatDoorV06
import Derived.Test.YtaagompdgiobeaaGreatDoorV07
set_option linter.all false
set_option maxHeartbeats 1500000
set_option maxRecDepth 100000
namespace Go.Proofs.YtaagompdgiobeaaGreatDoor
open Go.RowKit Go.Proofs.Tryz
variable{w w' l W:World}{h:GH}{G:Gr}{args cs:Array Value}{v s:Value}{g c d B n m o i x:Nat}{Ar A j:Option Addr}{t:TypeId}{ts:List Tk}{ss:List ByteArray}{ps:List Prd}{p q xs:List Nat}{N:List Bool}{ops:Array Oper}{Q:Exit->Act->World->Prop}{J:Array Bool->Act->World->Prop}{b:Bool}{row:Option Nat}
theorem Yf.below(g:Yf w h G)(a:Below w w w'):Yf w' h G:=⟨g.terms.below a,g.nons.below a,g.rules.below a,g.wf⟩
theorem Vu.nil(w:World)(a:Nat->Prop):Vu w a [] []:=⟨rfl,λj t h=>by simp at h⟩
theorem Kz.nil(w:World)(a:Nat->Prop):Kz w a [] []:=⟨rfl,λj t h=>by simp at h⟩
theorem Lim.nil:Lim []:=λ_ h=>by cases h
theorem Ga(f:Nat):∀n,n<4294967296 ^ f->val (Ft f n)=n/\Lim (Ft f n):=by
 induction f with
 | zero=>intro n h;simp at h;subst h;exact⟨rfl,Lim.nil⟩
 | succ f b =>
   intro n h;unfold Ft;by_cases h0:n=0
   ·subst h0;simp[val,Lim.nil]
   rw[if_neg h0];have hd:n / 4294967296<4294967296 ^ f:=by
    rw[Nat.pow_succ] at h;exact Nat.div_lt_of_lt_mul (by rw[Ef];exact h)
   obtain⟨h1,a⟩:=b _ hd;refine⟨?_,Lim.mk (Nat.mod_lt _ AC) a⟩;simp only[val,h1];omega
section
open Go.RowKit Go.Shelf
attribute [local go_sem] Oper.semAt_some
theorem values_stops(n:Nat)(H:1<=n)(d k L cap:Nat)(A:Option Addr)(c:List ByteArray)(I:c.length<=1000)(w:World)(y:d<w.heap.size)(S:k<=w.heap.size)(C:w.cell? ⟨d,0,none⟩=some (.slice A L cap))(g:Js w A L cap c)(v:0<L->∀a,A=some a->a.block<k):
 SeqStopsK Fence.wide n prog 193 #[.pointer (some ⟨d,0,none⟩)] (λx:ByteArray=>#[Value.string x]) (Below k) (λys=>ys=c) (λN=>N <+: c) c.length w:=λl J u W o _ _ B m=>by
 have q:=(o.cell (p:=⟨d,0,none⟩) y).trans C;obtain rfl:=g.len;rcases BY c.length with h | h
 ·have M:=BJ h;subst M;exact (values1_none n l d cap A J W q m).mono λe O ⟨F,G⟩=>⟨F,.inl ⟨_,rfl,G⟩⟩
 obtain⟨b,r,s,rfl,R,_,_⟩:=g.get h;have z:=g.below o;have E:∀j s,c[j]? = some s->W.cell? ⟨b,r+j,none⟩=some (.string s):=λj s f=>by
  obtain⟨P,T,U,e,_,t,D⟩:=z.get (AO.1 f).1;injection e with e;injection e with e1 e2;subst e1;subst e2;rw[t] at f;injection f with f;rw[D,f]
 exact values1_in n H l d k b r cap c I (v h _ rfl) J u B W q g.cap E m
theorem appendSeq_in(n:Nat)(hn:3<=n)(f L cap:Nat)(A:Option Addr)(m:List ByteArray)(Y:m.length<=1000)(w:World)(O:f<w.heap.size)(T:w.cell? ⟨f,0,none⟩=some (.slice A L cap))(u:Js w A L cap m):
 CallsIn Fence.wide n prog 214 #[.slice none 0 0,.func (.func 193) #[] #[.pointer (some ⟨f,0,none⟩)]] w λe w' =>
  ∃v,e = .returned v/\w'.ownsRow w 9 1 v m.length (m.map Value.string)/\Below w w w':=by
 have J:1<=n:=AA
 have V:(prog.info? 9).map (λi=>(i.zero,i.size,i.bytes))=some (some (.string ⟨#[]⟩),1,16):=AB
 obtain⟨i0,hi,ab,ad,ae⟩:=info_parts V;refine callsIn_of_wp_marks func214 rfl trivial ?_ rfl;simp only[ntmps214,List.size_toArray,AY,DE,Nat.reduceAdd,Nat.reduceSub,Array.replicate_succ,Array.replicate_zero,List.push_toArray,List.append_toArray,DA,DM]
 gi_wp2
 have E:=Boxed.new w 23 (.slice none 0 0);have t:Below w w (w.alloc (.cells #[.slice none 0 0] 23)):=(AL _ w).alloc (AJ _) _;have M:0<L->∀a,A=some a->a.block<w.heap.size:=λh a R=>by
  obtain⟨b,ao,s,e,S,_⟩:=u.get h;rw[R] at e;injection e with e;rw[e];exact S
 have aa:=values_stops (n-1) AA f w L cap A m Y w O (AJ _) T u M;refine wpIn_rangeFunc_ownG (F:=Fence.wide) (n:=n) rfl J (gf:=193) (lb:=#[.pointer (some ⟨f,0,none⟩)]) rfl trivial (enters_of func193 AB rfl)
  aa belowK_t (belowK_b AE) t (λ_=>rfl)
  (λd W=>(∃v,Boxed W w 23 v/\W.ownsRow w 9 1 v d.length (d.map Value.string)/\True)/\Below w w W)
  (λ_ _ _=>False)
  (OwnFrom.and (Own.from (holdsRow_own w w 23 9 1 (λd:List ByteArray=>d.length) (λd=>d.map Value.string) (λ_ _=>True)) _) (ownFrom_below (AJ _) AE))
  (λ_ _ _ _ _ Z _ _=>Z)
  ⟨⟨_,E,⟨rfl,.inl ⟨rfl,rfl⟩⟩,trivial⟩,t⟩
  (λx=>{ tmps:=#[.slice none 0 0,.func (.func 193) #[] #[.pointer (some ⟨f,0,none⟩)],.pointer (some ⟨w,0,none⟩),undef,.slice none 0 0,.string x,.func (.func 193) #[] #[.pointer (some ⟨f,0,none⟩)],.string x,undef,undef,undef,undef,undef],defers:=[] }) ?assign ?body ?done ?stop
 case assign =>
  intro l x W K j
  gi_wp2
  exact j
 case body =>
  rintro l d x W⟨⟨v,g,k,_⟩,o⟩ al;have y:=g.cell;have U:=g.frozen;have N:=o.size;have an:=g.lt
  gi_wp2_with (gi_at_builtin;refine wpListIn_append_own _ rfl _ _ 23 rfl w 9 i0 (.string ⟨#[]⟩) 1 16 underlying23 hi ab ad ae rfl AC _ _ _ rfl (k.alloc _) ⟨W,0,none⟩ 1 1 [.string x] rfl rfl (cell_one_new _ _ _) (by simp[Value.oneCell']) (by simp[maxLen];omega) AA AG ?_;intro v' w3 q z X;have B:(W.alloc (.cells #[.string x] 9)).grownBy w3 v.ownBlock:=z;obtain⟨g',ah,rfl⟩:=ownsRow_succ q;have p:=g.appended AC k N (AJ _) q B;have aj:=p.1.cell;have ak:=p.1.frozen;have C:=LH p;clear p z B q X k y U;go_frame)
  obtain⟨_,G,H,I,r⟩:=C.out;exact⟨I.from _,r,⟨_,G,by simpa using H,trivial⟩,o.trans r⟩
 case done =>
  rintro D ys W P rfl⟨⟨v,g,k,_⟩,o⟩ j;have y:=g.cell
  gi_wp2
  refine⟨AE,.inl ⟨_,_,rfl,run_takeDeferred j,?_⟩⟩;exact⟨_,results_tmp rfl _ _ _,v,rfl,ownsRow_putObj k _ j rfl,o.trans (belowK_b (w:=w) (AJ _) W D _ _ (by simp at P;omega) j rfl rfl)⟩
 rintro D c d W _ _ h _;exact h.elim
end
section
open Go.RowKit Go.Shelf
attribute [local go_sem] Oper.semAt_some
open Go.RowKit Go.Shelf Go.Sort
theorem collect_s(b L cap:Nat)(A:Option Addr)(a:List ByteArray)(k:a.length<=1000)(w:World)(g:b<w.heap.size)(d:w.cell? ⟨b,0,none⟩=some (.slice A L cap))(c:Js w A L cap a):
 Calls prog 191 #[.func (.func 193) #[] #[.pointer (some ⟨b,0,none⟩)]] w λe w' =>
  ∃v,e = .returned v/\w'.ownsRow w 9 1 v a.length (a.map Value.string)/\Below w w w':=by
 have f:=(callsIn_wide (n:=3)).1 (appendSeq_in 3 AC b L cap A a k w g d c);have H:=LH f;clear f d c;go_enter func191,ntmps191;go_wp2_with (go_at_call 214;refine H.out.mono ?_;rintro e l⟨v,rfl,j,h⟩);go_ret;exact⟨v,rfl,j,h⟩
theorem sorted_s(b L cap:Nat)(A:Option Addr)(a:List ByteArray)(G:a.length<=1000)(w:World)(B:b<w.heap.size)(q:w.cell? ⟨b,0,none⟩=some (.slice A L cap))(p:Js w A L cap a):
 Calls prog 141 #[.func (.func 193) #[] #[.pointer (some ⟨b,0,none⟩)]] w (RetSorted w a):=by
 have H:=LH (collect_s b L cap A a G w B q p);clear q p;go_enter func141,ntmps141;go_wp2_with (go_at_call 191;refine H.out.mono ?_;rintro e W⟨v,rfl,I,g⟩);have s:(byL a).length=a.length:=by simp[byL]
 rcases I.2 with ⟨rfl,J⟩ | ⟨c,m,U,rfl,h,k,O,P,R,S⟩
 ·have M:=BJ J;subst M;have z:=LH (Tryz.slices_Sort_string_none none 0 W);go_wp2_with (go_at_call 192;refine z.out.mono ?_;rintro e w'⟨rfl,rfl⟩);go_ret;exact⟨g,.inl ⟨rfl,rfl⟩⟩
 have r:c<W.heap.size:=(Array.getElem?_eq_some_iff.1 k).1;have o:Holds encStr W c 0 (byL a).toArray:=holds_of_block k (by rw[s,encStr_byL];simpa using S);have d:=Tryz.slices_Sort_string c 0 m (byL a) W o r AA;rw[s] at d;have u:=LH d;clear d o;go_wp2_with (go_at_call 192;refine u.out.mono ?_;rintro e w'⟨rfl,l,os,rfl⟩);go_ret;have t:((byL a).mergeSort λx y=>decide (x<=y)).length=(byL a).length:=AE
 have F:=ownsRow_sorted (n:=l) (os:=os) t h k AA P R;have C:=g.grown (grownBy_sorted (n:=l) (os:=os) ((byL a).mergeSort λx y=>decide (x<=y)).toArray) g.size (λj E=>by cases E;exact h);refine⟨C,.inr ⟨c,m,rfl,h,?_,O,?_⟩⟩
 ·exact AK r (grownBy_sorted (n:=l) (os:=os) _).size
 rcases F.2 with ⟨f,_⟩ | ⟨X,T,V,f,_,D,_,_,_,N⟩
 ·cases f
 injection f with e1 _ _;injection e1 with e1;injection e1 with e1;subst e1;exact holds_of_block D (by rw[t];simpa using N)
theorem Zr(w:World)(x:Ext w):Below w w (bl w x):=x.below
theorem Yt(w:World)(x:Ext w)(b o:Nat)(h:b<w.heap.size):(bl w x).cell? ⟨b,o,none⟩=w.cell? ⟨b,o,none⟩:=x.below.cell (p:=⟨b,o,none⟩) h
theorem Kh(w:World)(x:Ext w)(b o:Nat)(h:b<w.heap.size):(bl w x).frozen? ⟨b,o,none⟩=w.frozen? ⟨b,o,none⟩:=x.below.frozen (p:=⟨b,o,none⟩) h
theorem Lb(w:World)(x:Ext w):w.heap.size<=(bl w x).heap.size:=x.below.size
theorem Ve{P:Program}{f:FuncId}{x:Ext w}(h:Calls P f args (bl w x) λe w'=>e = .returned v/\Below (bl w x).heap.size (bl w x) w'):Calls P f args (bl w x) λe a=>e = .returned v/\∃y,a=bl w y :=
 h.mono λ_ a ⟨c,b⟩=>⟨c,⟨a,Zz (Zr w x) b⟩,rfl⟩
theorem Y1.below{c:Int}(l:Y1 w g h c)(b:Below w w w'):Y1 w' g h c:=by
 obtain⟨a,d,f,j,k⟩:=l;refine⟨AK a b.size,?_,?_,?_,?_⟩
 ·rw[b.cell (p:=⟨g,0,none⟩) a];exact d
 ·rw[b.cell (p:=⟨g,1,none⟩) a];exact f
 ·rw[b.cell (p:=⟨g,2,none⟩) a];exact j
 rw[b.cell (p:=⟨g,3,none⟩) a];exact k
theorem rf_terms(h:GH)(G:Gr)(w:World)(R:Yf w h G):
 Calls prog 53 #[GV h G.start] w λe w'=>e = .returned (.bool G.termsOK)/\Below w w w':=by
 obtain⟨a1,n1,c1,a2,n2,c2,a3,n3,c3⟩:=h;have ht:N8 w a1 n1 c1 G.terms:=R.terms;have hl:G.terms.length=n1:=ht.len;have bw:=ht.cap;have V:Hid (G.termsOK=(decide (n1<=24)&&Cg G.termOK G.terms)):=LH (by unfold Gr.termsOK;rw[hl]);by_cases h1:n1<=24
 case neg =>
  have X:Hid (G.termsOK=false):=LH (by rw[V.out];simp;omega);have d1:decide ((24:Int)<(n1:Int))=true:=AG
  clear R h1;go_enter func53,ntmps53;go_wp2_with fail;go_ret;exact⟨by rw[X.out];rfl,Zy _ _⟩
 have W:Hid (G.termsOK=Cg G.termOK G.terms):=LH (by rw[V.out];simp;omega);have d1:decide ((24:Int)<(n1:Int))=false:=AG
 have Hg:=LH R;clear V R;go_enter func53,ntmps53;have ay:=Y1.new w 26 ⟨a1,n1,c1,a2,n2,c2,a3,n3,c3⟩ G.start;go_wp2_with fail;go_loopw [3,4,5] (λi t n wr=>∃(k:Nat),k<=n1/\i = .int .i64 (k:Int)/\Below w w wr/\Y1 wr w ⟨a1,n1,c1,a2,n2,c2,a3,n3,c3⟩ G.start/\Hid (∀j,j<k->∀y,G.terms[j]? = some y->(!G.termOK j y)=false)) (λi _ _ _=>n1-(intOf i).toNat)
 case atStart=>exact⟨0,AS _,rfl,Zy _ _,ay,LH λj S=>AA⟩
 clear ay;obtain⟨v,rfl⟩:∃v:World,v=wr:=⟨_,rfl⟩;obtain⟨k,hk,rfl,hB,ad,Hk⟩:=hrel;have⟨z5,z0,z1,z2,z3⟩:=ad;simp only[] at z0 z1 z2 z3;by_cases az:k<n1
 ·obtain⟨b,T,t,rfl,hb,Y,q0,q1,q2⟩:=ht.get az;rw[<-hB.cell (by exact hb)] at q0 q1 q2;have J:=hB.alloc (DT z5) (.cells #[.string t.name,.int .i64 t.level,.int .i64 t.assoc] 140);have ai:=ad.below (Zy v (.cells #[.string t.name,.int .i64 t.level,.int .i64 t.assoc] 140));have p0:=Wg v 140 #[.string t.name,.int .i64 t.level,.int .i64 t.assoc] 0;have p1:=Wg v 140 #[.string t.name,.int .i64 t.level,.int .i64 t.assoc] 1;have p2:=Wg v 140 #[.string t.name,.int .i64 t.level,.int .i64 t.assoc] 2;have p5:=Zl v (.cells #[.string t.name,.int .i64 t.level,.int .i64 t.assoc] 140);simp only[DR,List.getElem?_cons_zero,List.getElem?_cons_succ] at p0 p1 p2;go_wp2_with fail;generalize v.alloc (.cells #[.string t.name,.int .i64 t.level,.int .i64 t.assoc] 140)=q at *;have af:=Hg.out.below J;have a0:v.heap.size<q.heap.size:=AA
  clear p5 q0 q1 q2 z0 z1 z2 z3 ad;generalize v.heap.size=gt at *;have⟨z5',z0,z1,z2,z3⟩:=ai;simp only[] at z0 z1 z2 z3;have cN:=Zxg t.name q;have N:=λhh=>C6 ⟨some ⟨b,T,none⟩,n1,c1,a2,n2,c2,a3,n3,c3⟩ G t.name q af hh;have N:=N (by simp only[];omega);have ae:G.termOK k t=(decide (G.term t.name=(k:Int))&&Up t&&Nc G.terms t):=rfl;unfold Up at ae;have an:=LH ae;clear ae;generalize Q7 t.name=s at *;generalize G.term t.name=u at *;have C:=LH cN;have CT:=LH N;clear cN N;have br:(s=false\/(s=true/\u≠k)\/(s=true/\u=k/\t.level<0)\/(s=true/\u=k/\0<=t.level/\24<t.level)\/(s=true/\u=k/\0<=t.level/\t.level<=24/\t.assoc<0)\/(s=true/\u=k/\0<=t.level/\t.level<=24/\0<=t.assoc/\3<t.assoc) \/
   (s=true/\u=k/\0<=t.level/\t.level<=24/\0<=t.assoc/\t.assoc<=3/\t.level=0/\t.assoc≠0)\/(s=true/\u=k/\0<=t.level/\t.level<=24/\0<=t.assoc/\t.assoc<=3/\t.level≠0/\t.assoc=0)) \/
   (s=true/\u=k/\0<=t.level/\t.level<=24/\0<=t.assoc/\t.assoc<=3/\(t.level=0/\t.assoc=0\/t.level≠0/\t.assoc≠0)):=by
   cases s
   ·simp
   simp only[Bool.true_eq_false,false_or,true_and];omega
  rcases br with ax | bq
  ·have A:Hid (G.termsOK=false):=LH (by
    rw[W.out];refine Lp Y.out ?_;rw[an.out];rcases ax with rfl | ⟨rfl,g⟩ | ⟨rfl,g,c⟩ | ⟨rfl,g,c,r⟩ | ⟨rfl,g,c,r,x⟩ | ⟨rfl,g,c,r,x,B⟩ | ⟨rfl,g,c,r,x,B,a,f⟩ | ⟨rfl,g,c,r,x,B,a,f⟩
    ·simp
    ·simp[g]
    ·simp;omega
    ·simp;omega
    ·simp;omega
    ·simp;omega
    ·simp[a,f]
    simp[a,f])
   have E:=LH J;clear J;have D:Hid (Calls prog 114 #[GV ⟨some ⟨b,T,none⟩,n1,c1,a2,n2,c2,a3,n3,c3⟩ G.start,.string t.name] q λe w'=>e = .returned (.int .i64 u)/\(∀b o,b<q.heap.size->w'.cell? ⟨b,o,none⟩=q.cell? ⟨b,o,none⟩)/\Hid (Below w w w')):=CT.out.mono λe w' h=>⟨h.1,(Jd h.2).1,LH (E.out.trans (h.2.mono E.out.size))⟩;clear CT hk az;rcases ax with rfl | ⟨rfl,g⟩ | ⟨rfl,rfl,c⟩ | ⟨rfl,rfl,c,r⟩ | ⟨rfl,rfl,c,r,x⟩ | ⟨rfl,rfl,c,r,x,B⟩ | ⟨rfl,rfl,c,r,x,B,a,f⟩ | ⟨rfl,rfl,c,r,x,B,a,f⟩
   ·go_wp2_with (go_at_call 113;(with_reducible refine C.out.mono ?_);rintro e M⟨rfl,rfl⟩);go_ret;exact⟨by rw[A.out];rfl,E.out⟩
   ·have d:(u != (k:Int))=true:=by rw[BK];exact g
    clear g;go_wp2_with (first
     | (go_at_call 113;(with_reducible refine C.out.mono ?_);rintro e M⟨rfl,rfl⟩)
     | (go_at_call 114;(with_reducible refine D.out.mono ?_);rintro e z⟨rfl,H,p⟩))
    go_ret;exact⟨by rw[A.out];rfl,p.out⟩
   iterate 4
    ·go_wp2_with (first
     | (go_at_call 113;(with_reducible refine C.out.mono ?_);rintro e M⟨rfl,rfl⟩)
     | (go_at_call 114;(with_reducible refine D.out.mono ?_);rintro e z⟨rfl,H,p⟩))
     go_ret;exact⟨by rw[A.out];rfl,p.out⟩
   ·have Z:(t.level==0)=true:=by rw[BW];exact a
    have e2:(t.assoc==0)=false:=by rw[AQ];exact f
    clear a f;go_wp2_with (first
     | (go_at_call 113;(with_reducible refine C.out.mono ?_);rintro e M⟨rfl,rfl⟩)
     | (go_at_call 114;(with_reducible refine D.out.mono ?_);rintro e z⟨rfl,H,p⟩))
    go_ret;exact⟨by rw[A.out];rfl,p.out⟩
   have Z:(t.level==0)=false:=by rw[AQ];exact a
   have e2:(t.assoc==0)=true:=by rw[BW];exact f
   clear a f;go_wp2_with (first
    | (go_at_call 113;(with_reducible refine C.out.mono ?_);rintro e M⟨rfl,rfl⟩)
    | (go_at_call 114;(with_reducible refine D.out.mono ?_);rintro e z⟨rfl,H,p⟩))
   go_ret;exact⟨by rw[A.out];rfl,p.out⟩
  obtain⟨rfl,rfl,c,r,x,B,a⟩:=bq;have E:=LH J;have bv:=LH af;have bd:=LH ai;have D:Hid (Calls prog 114 #[GV ⟨some ⟨b,T,none⟩,n1,c1,a2,n2,c2,a3,n3,c3⟩ G.start,.string t.name] q λe w'=>e = .returned (.int .i64 (k:Int))/\(∀b o,b<q.heap.size->w'.cell? ⟨b,o,none⟩=q.cell? ⟨b,o,none⟩)/\Hid (Below q q w')):=CT.out.mono λe w' h=>⟨h.1,(Jd h.2).1,LH h.2⟩;have ar:Hid (G.termOK k t=Nc G.terms t):=LH (by
   rw[an.out];rcases a with ⟨a,f⟩ | ⟨a,f⟩
   ·simp[a,f]
   have h9:0<=t.level/\t.level<=24/\0<=t.assoc/\t.assoc<=3:=⟨c,r,x,B⟩;simp[a,f,h9])
  have bk:((t.level==0)=true/\(t.assoc==0)=true)\/((t.level==0)=false/\(t.assoc==0)=false):=by
   rw[BW,BW,AQ,AQ];exact a
  clear CT J af ai a;rcases bk with ⟨Z,e2⟩ | ⟨Z,e2⟩;all_goals
   go_wp2_with (first
    | (go_at_call 113;(with_reducible refine C.out.mono ?_);rintro e M⟨rfl,rfl⟩)
    | (go_at_call 114;(with_reducible refine D.out.mono ?_);rintro e z⟨rfl,H,p⟩))
   have aw:=E.out.trans (p.out.mono E.out.size);have a4:=bd.out.below p.out;have r1:z.cell? ⟨gt,1,none⟩=some (.int .i64 t.level):=by rw[H _ _ a0];exact p1
   have bo:gt<z.heap.size:=AK a0 p.out.size;have be:=LH a4;clear H p p0 p1 p2 z0 z1 z2 z3 a4;go_loopw [5] (λn wr=>∃m:Nat,(m:Int)<=t.level/\n = .int .i64 ((m:Int)+1)/\Below z z wr/\Hid (∀j:Nat,j<m->J9 G.terms ((j:Int)+1)=true)) (λn _=>t.level.toNat+1-(intOf n).toNat)
   case atStart=>exact⟨0,c,rfl,AL _ _,LH λj S=>AA⟩
   obtain⟨m,hm,rfl,L,Hm⟩:=hrel;rw[<-L.cell (by exact bo)] at r1;have aj:=be.out.below L;have⟨z5',z0,z1,z2,z3⟩:=aj;simp only[] at z0 z1 z2 z3;have O:=aw.trans (L.mono aw.size);have ag:=Hg.out.below O;have am:=LH O;have bf:=LH aj;have bp:w.heap.size<=wr.heap.size:=O.size;have al:=LH L;clear O aj L;by_cases bz:(m:Int)+1<=t.level
   ·have F:=rf_level ⟨some ⟨b,T,none⟩,n1,c1,a2,n2,c2,a3,n3,c3⟩ G ((m:Int)+1) wr ag (by simp only[];omega);cases I:J9 G.terms ((m:Int)+1)
    ·have A:Hid (G.termsOK=false):=LH (by
      rw[W.out];refine Lp Y.out ?_;rw[ar.out];exact Jy (l:=List.range t.level.toNat) (j:=m) (y:=m) (by rw[List.getElem?_range];omega) I)
     rw[I] at F;have U:=LH F;clear F I ag;go_wp2_with (go_at_call 115;(with_reducible refine U.out.mono ?_);rintro e w6⟨rfl,P⟩);go_ret;exact⟨by rw[A.out];rfl,am.out.trans (P.mono bp)⟩
    rw[I] at F;have U:=LH F;have bb:=LH I;clear F I ag;go_wp2_with (go_at_call 115;(with_reducible refine U.out.mono ?_);rintro e w6⟨rfl,P⟩);have ba:=LH (al.out.trans (P.mono al.out.size));clear P;go_roundw
    case rel=>exact⟨m+1,AA,AF,ba.out,LH λj S=>by
     rcases BD j m with h | h
     ·exact Hm.out j h
     obtain rfl:j=m:=AA
     exact bb.out⟩
    simp[intOf];omega
   have bc:Hid ((!G.termOK k t)=false):=LH (by
    rw[ar.out];have:Nc G.terms t=true:=by
     unfold Nc;rw[BG];intro j S;rw[BQ] at S;exact Hm.out j AA
    rw[this];rfl)
   go_wp2_with fail;go_roundw
   case rel=>exact⟨k+1,AA,AF,am.out,bf.out,LH (Lr Hk.out Y.out bc.out)⟩
   simp[intOf];omega
 obtain rfl:k=n1:=AA
 have X:Hid (G.termsOK=true):=LH (by
  rw[W.out];refine Kc λj y hy=>?_;have:=Hk.out j (by have:=(AO.1 hy).1;omega) y hy;simpa using this)
 go_wp2_with fail;go_ret;exact⟨by rw[X.out];rfl,hB⟩
end
theorem rf_nons(h:GH)(G:Gr)(w:World)(o:Yf w h G)(U:h.n1<=1000):
 Calls prog 54 #[GV h G.start] w λe w'=>e = .returned (.bool G.nonsOK)/\Below w w w':=by
 obtain⟨a1,n1,c1,a2,n2,c2,a3,n3,c3⟩:=h;have A:Js w a2 n2 c2 G.nons:=o.nons;have W:G.nons.length=n2:=A.len;have af:=A.cap;simp only[] at U;have r:Hid (G.nonsOK=(decide (1<=n2/\n2<=16)&&Cg G.nonOK G.nons)):=LH (by unfold Gr.nonsOK;rw[W]);by_cases n:1<=n2/\n2<=16
 case neg =>
  have u:Hid (G.nonsOK=false):=LH (by rw[r];simp only[n,decide_false,Bool.false_and]);have Y:((n2:Int)<1)\/((1:Int)<=(n2:Int)/\(16:Int)<(n2:Int)):=AA
  clear o n;rcases Y with d | ⟨d,d2⟩;all_goals
   go_enter func54,ntmps54;go_wp2_with fail;go_ret;exact⟨by rw[u];rfl,Zy _ _⟩
 have D:Hid (G.nonsOK=Cg G.nonOK G.nons):=LH (by rw[r];simp only[n,and_self,decide_true,Bool.true_and]);obtain⟨ai,aj⟩:=n;have S:=LH o;clear r o;go_enter func54,ntmps54;have N:=Y1.new w 26 ⟨a1,n1,c1,a2,n2,c2,a3,n3,c3⟩ G.start;go_wp2_with fail;go_loopw [3] (λi wr=>∃(k:Nat),k<=n2/\i = .int .i64 (k:Int)/\Below w w wr/\Y1 wr w ⟨a1,n1,c1,a2,n2,c2,a3,n3,c3⟩ G.start/\Hid (∀j,j<k->∀y,G.nons[j]? = some y->(!G.nonOK j y)=false)) (λi _=>n2-(intOf i).toNat)
 case atStart=>exact⟨0,AS _,rfl,Zy _ _,N,LH λj hj=>AA⟩
 clear N;obtain⟨k,hk,rfl,c,v,E⟩:=hrel;have⟨z5,z0,z1,z2,z3⟩:=v;simp only[] at z0 z1 z2 z3;by_cases V:k<n2
 ·obtain⟨b,R,s,rfl,L,F,q0⟩:=A.get V;rw[<-c.cell (by exact L)] at q0;have ae:b<wr.heap.size:=AK L c.size;have z:=S.below c;have H:=λw=>Zx8 s w;have I:=λ(x:Ext wr)=>Zu5 ⟨a1,n1,c1,some ⟨b,R,none⟩,n2,c2,a3,n3,c3⟩ G s (bl wr x) (z.below (Zr wr x)) (by simp only[];omega);have J:=λ(x:Ext wr)=>C6 ⟨a1,n1,c1,some ⟨b,R,none⟩,n2,c2,a3,n3,c3⟩ G s (bl wr x) (z.below (Zr wr x)) (by simp only[];omega);have O:G.nonOK k s=(Xi (Zh s)&&decide (G.non s=(k:Int))&&decide (G.term s<0)):=rfl;have C:=LH O;have X:=(U9 (λt=>decide (t=s)) G.nons).1;have bc:=Yt wr;have Hx:=LH v;have a:=LH c;clear O z v c;generalize Xi (Zh s)=f at *;generalize G.non s=p at *;generalize G.term s=B at *;have l:=LH H;have m:=LH I;have CT:=LH J;clear H I J X;have Z:(f=false\/(f=true/\p≠(k:Int))\/(f=true/\p=(k:Int)/\0<=B))\/(f=true/\p=(k:Int)/\B<0):=by
   cases f
   ·simp
   simp only[Bool.true_eq_false,false_or,true_and];omega
  rcases Z with M | ⟨rfl,rfl,g⟩
  ·have q:Hid (G.nonsOK=false):=LH (by
    rw[D];refine Lp F ?_;rw[C];rcases M with rfl | ⟨rfl,g⟩ | ⟨rfl,rfl,g⟩
    ·simp
    ·simp[g]
    simp;omega)
   rcases M with rfl | ⟨rfl,g⟩ | ⟨rfl,rfl,g⟩
   ·go_wp2_with fail;refine Zs AB AB ?_;repeat (go_big_quiet_step (first
     | (go_at_call 116;exact Qo (l.out _))
     | (go_at_call 74;exact Ve (m.out _))
     | (go_at_call 114;exact Ve (CT.out _))))
    refine BL ?_;rintro _⟨x,rfl⟩;go_wp2_with fail;go_ret;exact⟨by rw[q];rfl,a.trans ((Zr wr x).mono a.size)⟩
   ·have d:(p != (k:Int))=true:=by rw[BK];exact g
    clear g;go_wp2_with fail;refine Zs AB AB ?_;repeat (go_big_quiet_step (first
     | (go_at_call 116;exact Qo (l.out _))
     | (go_at_call 74;exact Ve (m.out _))
     | (go_at_call 114;exact Ve (CT.out _))))
    refine BL ?_;rintro _⟨x,rfl⟩;go_wp2_with fail;go_ret;exact⟨by rw[q];rfl,a.trans ((Zr wr x).mono a.size)⟩
   go_wp2_with fail;refine Zs AB AB ?_;repeat (go_big_quiet_step (first
    | (go_at_call 116;exact Qo (l.out _))
    | (go_at_call 74;exact Ve (m.out _))
    | (go_at_call 114;exact Ve (CT.out _))))
   refine BL ?_;rintro _⟨x,rfl⟩;go_wp2_with fail;go_ret;exact⟨by rw[q];rfl,a.trans ((Zr wr x).mono a.size)⟩
  have T:Hid ((!G.nonOK k s)=false):=LH (by rw[C];simp;omega);have d:decide (0<=B)=false:=AG
  go_wp2_with fail;refine Zs AB AB ?_;repeat (go_big_quiet_step (first
   | (go_at_call 116;exact Qo (l.out _))
   | (go_at_call 74;exact Ve (m.out _))
   | (go_at_call 114;exact Ve (CT.out _))))
  refine BL ?_;rintro _⟨x,rfl⟩;go_wp2_with fail;go_roundw
  case rel=>exact⟨k+1,AA,AF,a.trans ((Zr wr x).mono a.size),Hx.below (Zr wr x),LH (Lr E F T)⟩
  simp[intOf];omega
 obtain rfl:k=n2:=AA
 have u:Hid (G.nonsOK=true):=LH (by
  rw[D];refine Kc λj y P=>?_;have:=E j (by have:=(AO.1 P).1;omega) y P;simpa using this)
 go_wp2_with fail;go_ret;exact⟨by rw[u];rfl,c⟩
theorem Fl.below{left:Int}{cr:Nat}{d:Int}(k:Fl w g left Ar c cr d)(b:Below w w w'):Fl w' g left Ar c cr d:=by
 obtain⟨a,f,h,j⟩:=k;refine⟨AK a b.size,?_,?_,?_⟩
 ·rw[b.cell (p:=⟨g,0,none⟩) a];exact f
 ·rw[b.cell (p:=⟨g,1,none⟩) a];exact h
 rw[b.cell (p:=⟨g,2,none⟩) a];exact j
theorem Zzq(w:World)(t u:TypeId)(h:GH)(a left:Int)(Ar:Option Addr)(b cr:Nat)(c:Int):
 let X:=(w.alloc (.cells #[.slice h.a1 h.n1 h.c1,.slice h.a2 h.n2 h.c2,.slice h.a3 h.n3 h.c3,.int .i64 a] t)).alloc (.cells #[.int .i64 left,.slice Ar b cr,.int .i64 c] u)
 Below w w X/\Y1 X w h a/\Fl X (w.heap.size+1) left Ar b cr c:=by
 intro X;have g:=Y1.new w t h a;have f:=Zl w (.cells #[.slice h.a1 h.n1 h.c1,.slice h.a2 h.n2 h.c2,.slice h.a3 h.n3 h.c3,.int .i64 a] t);refine⟨(Zy w _).alloc (by rw[f];omega) _,g.below (Zy _ _),?_⟩;have d:=Fl.new (w.alloc (.cells #[.slice h.a1 h.n1 h.c1,.slice h.a2 h.n2 h.c2,.slice h.a3 h.n3 h.c3,.int .i64 a] t)) u left Ar b cr c;rw[f] at d;exact d
theorem rf_rule(h:GH)(G:Gr)(r:Rul)(Ar:Option Addr)(cr:Nat)(w:World)(p:Yf w h G)(B:Za .i64 w Ar r.right.length cr r.right)(U:∀s∈r.right,U3 s)(J:h.n1<=1000)(L:h.n2<=1000):
 Calls prog 55 #[GV h G.start,.agg #[.int .i64 r.left,.slice Ar r.right.length cr,.int .i64 r.prec]] w λe w'=>e = .returned (.bool (G.ruleOK r))/\Below w w w':=by
 obtain⟨a1,n1,c1,a2,n2,c2,a3,n3,c3⟩:=h;have o:G.terms.length=n1:=p.terms.len;have ag:=B.cap;simp only[] at J L;have t:Hid (G.ruleOK r=(decide (r.right.length<=6)&&decide (-1<=r.prec/\r.prec<(n1:Int))&&r.right.all (G.symOK r.prec))):=LH (by unfold Gr.ruleOK;rw[o]);clear o;have C:(6<(r.right.length:Int)\/((r.right.length:Int)<=6/\r.prec < -1)\/((r.right.length:Int)<=6/\-1<=r.prec/\(n1:Int)<=r.prec))\/((r.right.length:Int)<=6/\-1<=r.prec/\r.prec<(n1:Int)):=AA
 rcases C with R | ⟨g1,a,I⟩
 ·have v:Hid (G.ruleOK r=false):=LH (by
   rw[t];rcases R with g | ⟨g,a⟩ | ⟨g,a,I⟩
   ·have:decide (r.right.length<=6)=false:=AG
    rw[this];rfl
   ·have:decide (-1<=r.prec/\r.prec<(n1:Int))=false:=AG
    rw[this];simp
   have:decide (-1<=r.prec/\r.prec<(n1:Int))=false:=AG
   rw[this];simp)
  clear p;rcases R with g | ⟨g,a⟩ | ⟨g,a,I⟩;all_goals
   go_enter func55,ntmps55;go_wp2_with fail;go_ret;exact⟨by rw[v];rfl,(Zzq w _ _ ⟨a1,n1,c1,a2,n2,c2,a3,n3,c3⟩ _ _ _ _ _ _).1⟩
 have u:Hid (G.ruleOK r=r.right.all (G.symOK r.prec)):=LH (by
  rw[t];have o:decide (r.right.length<=6)=true:=AG
  have Z:decide (-1<=r.prec/\r.prec<(n1:Int))=true:=AG
  rw[o,Z];rfl)
 have V:=LH p;have W:=LH B;have X:=LH U;clear t p B U;go_enter func55,ntmps55;obtain⟨M,O,P⟩:=Zzq w 26 60 ⟨a1,n1,c1,a2,n2,c2,a3,n3,c3⟩ G.start r.left Ar r.right.length cr r.prec;go_wp2_with fail;go_loopw [5] (λi wr=>∃(k:Nat),k<=r.right.length/\i = .int .i64 (k:Int)/\Below w w wr/\Y1 wr w ⟨a1,n1,c1,a2,n2,c2,a3,n3,c3⟩ G.start/\Fl wr (w.heap.size+1) r.left Ar r.right.length cr r.prec/\Hid (∀j,j<k->∀y,r.right[j]? = some y->(!G.symOK r.prec y)=false)) (λi _=>r.right.length-(intOf i).toNat)
 case atStart=>exact⟨0,AS _,rfl,M,O,P,LH λj hj=>AA⟩
 clear M O P;obtain⟨k,hk,rfl,d,D,f,z⟩:=hrel;have⟨z5,z0,z1,z2,z3⟩:=D;have⟨y5,y0,y1,y2⟩:=f;simp only[] at z0 z1 z2 z3;by_cases aa:k<r.right.length
 ·obtain⟨b,aj,s,rfl,N,l,q0⟩:=W.get aa;rw[<-d.cell (by exact N)] at q0;have af:b<wr.heap.size:=AK N d.size;have T:=V.below d;have F:=λ(x:Ext wr)=>rf_has ⟨a1,n1,c1,a2,n2,c2,a3,n3,c3⟩ G s (bl wr x) (T.below (Zr wr x)) (X s (AN l)) J L;have S:G.symOK r.prec s=(G.has s&&!(decide (0<=s)&&decide (r.prec=-1))):=rfl;have n:=LH S;have bc:=Yt wr;have Hx:=LH D;have E:=LH f;have c:=LH d;clear S T D f d;generalize G.has s=m at *;have CH:=LH F;clear F;have C:(m=false\/(m=true/\0<=s/\r.prec=-1))\/(m=true/\0<=s/\r.prec ≠ -1)\/(m=true/\s<0):=by
   cases m
   ·simp
   simp only[Bool.true_eq_false,false_or,true_and];omega
  rcases C with (rfl | ⟨rfl,g,a⟩) | ⟨rfl,g,a⟩ | ⟨rfl,g⟩
  ·have q:Hid (G.ruleOK r=false):=LH (by rw[u];exact Jy l (by rw[n];rfl));go_wp2_with fail;refine Zs AB AB ?_;repeat (go_big_quiet_step ((go_at_call 60;exact Ve (CH.out _))))
   refine BL ?_;rintro _⟨x,rfl⟩;go_wp2_with fail;go_ret;exact⟨by rw[q];rfl,c.trans ((Zr wr x).mono c.size)⟩
  ·have q:Hid (G.ruleOK r=false):=LH (by rw[u];exact Jy l (by rw[n];simp[g,a]));have H:decide (0<=s)=true:=AG
   have Y:(r.prec == -1)=true:=by rw[BW];exact a
   clear a;go_wp2_with fail;refine Zs AB AB ?_;repeat (go_big_quiet_step ((go_at_call 60;exact Ve (CH.out _))))
   refine BL ?_;rintro _⟨x,rfl⟩;go_wp2_with fail;go_ret;exact⟨by rw[q];rfl,c.trans ((Zr wr x).mono c.size)⟩
  ·have A:Hid ((!G.symOK r.prec s)=false):=LH (by rw[n];simp[a]);have H:decide (0<=s)=true:=AG
   have Y:(r.prec == -1)=false:=by rw[AQ];exact a
   clear a;go_wp2_with fail;refine Zs AB AB ?_;repeat (go_big_quiet_step ((go_at_call 60;exact Ve (CH.out _))))
   refine BL ?_;rintro _⟨x,rfl⟩;go_wp2_with fail;go_roundw
   case rel=>exact⟨k+1,AA,AF,c.trans ((Zr wr x).mono c.size),Hx.below (Zr wr x),E.below (Zr wr x),LH (Vz z l A)⟩
   simp[intOf];omega
  have A:Hid ((!G.symOK r.prec s)=false):=LH (by rw[n];simp;omega);have H:decide (0<=s)=false:=AG
  go_wp2_with fail;refine Zs AB AB ?_;repeat (go_big_quiet_step ((go_at_call 60;exact Ve (CH.out _))))
  refine BL ?_;rintro _⟨x,rfl⟩;go_wp2_with fail;go_roundw
  case rel=>exact⟨k+1,AA,AF,c.trans ((Zr wr x).mono c.size),Hx.below (Zr wr x),E.below (Zr wr x),LH (Vz z l A)⟩
  simp[intOf];omega
 obtain rfl:k=r.right.length:=AA
 have v:Hid (G.ruleOK r=true):=LH (by
  rw[u];refine Cv λj y f=>?_;have:=z j (AO.1 f).1 y f;simpa using this)
 go_wp2_with fail;go_ret;exact⟨by rw[v];rfl,d⟩
theorem Jr(h:GH)(G:Gr)(w:World)(x:Yf w h G)(M:h.n1<=1000)(h2:h.n2<=1000)(h3:h.n3<=1000):
 Calls prog 26 #[GV h G.start] w λe w'=>e = .returned (.bool G.right)/\Below w.heap.size w w':=by
 have cT:=λW (p:Yf W h G)=>rf_terms h G W p;have cN:=λW (p:Yf W h G)=>rf_nons h G W p M;have af:=λW r Ar cr (p:Yf W h G) O hw=>rf_rule h G r Ar cr W p O hw M h2;obtain⟨a1,n1,c1,a2,n2,c2,a3,n3,c3⟩:=h;have C:G.nons.length=n2:=x.nons.len;have e3:G.rules.length=n3:=x.rules.len;have ht:Dv w a3 n3 c3 G.rules:=x.rules;have bf:=ht.cap;simp only[] at M h2 h3;have z:Hid (G.right=(G.termsOK&&G.nonsOK&&decide (1<=n3/\n3<=40)&&decide (0<=G.start/\G.start<(n2:Int))&&decide (G.leftsGo G.rules (-1)=some ((n2:Int)-1)))):=LH (by unfold Gr.right;rw[C,e3]);clear C;generalize a0:G.start=c at *;clear a0;generalize G.termsOK=l at *;generalize G.nonsOK=n at *;have P:(l=false\/(l=true/\n=false)\/(l=true/\n=true/\(n3:Int)<1)\/(l=true/\n=true/\1<=(n3:Int)/\40<(n3:Int))\/(l=true/\n=true/\1<=(n3:Int)/\(n3:Int)<=40/\c<0)\/(l=true/\n=true/\1<=(n3:Int)/\(n3:Int)<=40/\0<=c/\(n2:Int)<=c)) \/
  (l=true/\n=true/\1<=(n3:Int)/\(n3:Int)<=40/\0<=c/\c<(n2:Int)):=by
  cases l
  ·simp
  cases n
  ·simp
  simp only[Bool.true_eq_false,false_or,true_and];omega
 have j:=LH x;have CT:=LH cT;have S:=LH cN;have an:=LH af;clear x cT cN af;have F:=Y1.new w 26 ⟨a1,n1,c1,a2,n2,c2,a3,n3,c3⟩ c;have m:=Zy w (.cells #[.slice a1 n1 c1,.slice a2 n2 c2,.slice a3 n3 c3,.int .i64 c] 26);rcases P with v | ⟨rfl,rfl,g1,s,E,g4⟩
 ·have A:Hid (G.right=false):=LH (by
   rw[z.out];rcases v with rfl | ⟨rfl,rfl⟩ | ⟨rfl,rfl,g⟩ | ⟨rfl,rfl,g,s⟩ | ⟨rfl,rfl,g,s,E⟩ | ⟨rfl,rfl,g,s,E,g4⟩
   ·simp
   ·simp
   ·have:decide (1<=n3/\n3<=40)=false:=AG
    rw[this];simp
   ·have:decide (1<=n3/\n3<=40)=false:=AG
    rw[this];simp
   ·have:decide (0<=c/\c<(n2:Int))=false:=AG
    rw[this];simp
   have:decide (0<=c/\c<(n2:Int))=false:=AG
   rw[this];simp)
  clear z;rcases v with rfl | ⟨rfl,rfl⟩ | ⟨rfl,rfl,g⟩ | ⟨rfl,rfl,g,s⟩ | ⟨rfl,rfl,g,s,E⟩ | ⟨rfl,rfl,g,s,E,g4⟩
  ·go_enter func26,ntmps26;go_wp2_with fail;(with_reducible refine (CT.out _ (j.out.below m)).mono ?_);rintro e w1⟨rfl,d⟩;go_wp2_with fail;go_ret;exact⟨by rw[A.out];rfl,Zz m d⟩
  all_goals
   go_enter func26,ntmps26;go_wp2_with fail;(with_reducible refine (CT.out _ (j.out.below m)).mono ?_);rintro e w1⟨rfl,d⟩;have a:=Zz m d;have⟨z5,z0,z1,z2,z3⟩:=F.below d;simp only[] at z0 z1 z2 z3;clear d;go_wp2_with fail;(with_reducible refine (S.out _ (j.out.below a)).mono ?_);rintro e w2⟨rfl,o⟩;obtain⟨be,_⟩:=Jd o;have ao:=LH (Zz a o);clear o a m F;go_wp2_with fail;go_ret;exact⟨by rw[A.out];rfl,ao.out⟩
 have V:Hid (G.right=decide (G.leftsGo G.rules (-1)=some ((n2:Int)-1))):=LH (by
  rw[z.out];have e1:decide (1<=n3/\n3<=40)=true:=AG
  have C:decide (0<=c/\c<(n2:Int))=true:=AG
  rw[e1,C];rfl)
 clear z;go_enter func26,ntmps26;go_wp2_with fail;(with_reducible refine (CT.out _ (j.out.below m)).mono ?_);rintro e w1⟨rfl,d⟩;have a:=Zz m d;have f:=F.below d;have⟨z5,z0,z1,z2,z3⟩:=f;simp only[] at z0 z1 z2 z3;clear d;go_wp2_with fail;(with_reducible refine (S.out _ (j.out.below a)).mono ?_);rintro e w2⟨rfl,o⟩;have aj:=Zz a o;have R:=f.below o;clear z0 z1 z2 z3 z5;have⟨z5,z0,z1,z2,z3⟩:=R;simp only[] at z0 z1 z2 z3;clear o a m F f;go_wp2_with fail;clear z0 z1 z2 z3 z5;go_loopw [3,4,5] (λtp i t wr=>∃(k:Nat) (top:Int),k<=n3/\i = .int .i64 (k:Int)/\tp = .int .i64 top/\-1<=top/\top<=(k:Int)/\Below w.heap.size w wr/\Y1 wr w.heap.size ⟨a1,n1,c1,a2,n2,c2,a3,n3,c3⟩ c/\Hid (G.leftsGo (G.rules.take k) (-1)=some top)) (λ_ i _ _=>n3-(intOf i).toNat)
 case atStart=>exact⟨0,-1,AS _,rfl,rfl,AA,AA,aj,R,LH rfl⟩
 clear aj R;obtain⟨k,top,hk,rfl,rfl,bi,bj,N,hx,X⟩:=hrel;have⟨z5,z0,z1,z2,z3⟩:=hx;simp only[] at z0 z1 z2 z3;by_cases ay:k<n3
 ·obtain⟨b,bk,r,Ar,cr,rfl,hb,Hr,q0,q1,q2,hi⟩:=ht.get ay;rw[<-N.cell (by exact hb)] at q0 q1 q2;have ak:=lefts_next X.out Hr.out;have a:=N.alloc (DT z5) (.cells #[.int .i64 r.left,.slice Ar r.right.length cr,.int .i64 r.prec] 60);have f:=hx.below (Zy wr (.cells #[.int .i64 r.left,.slice Ar r.right.length cr,.int .i64 r.prec] 60));have y:=Fl.new wr 60 r.left Ar r.right.length cr r.prec;have cR:=λW p O=>an.out W r Ar cr p O (j.out.wf r (AN Hr.out));generalize G.ruleOK r=B at *;have T:=LH cR;have Z:=LH ak;clear cR ak;have P:(r.left<0\/(0<=r.left/\top+1<r.left)\/(0<=r.left/\r.left<=top+1/\B=false))\/(0<=r.left/\r.left<=top+1/\B=true/\top<r.left)\/(0<=r.left/\r.left<=top+1/\B=true/\r.left<=top):=by
   cases B
   ·simp only[Bool.false_eq_true,and_false,false_and,or_false,and_true];omega
   simp only[Bool.true_eq_false,and_false,or_false,true_and,and_true];omega
  rcases P with v | az
  ·have I:Hid (G.right=false):=LH (by
    rw[V.out];have:G.leftsGo G.rules (-1)=none:=by
     refine lefts_bad (k:=k+1) ?_;rw[Z.out,if_neg];intro⟨h5,h6,h7⟩;rcases v with g | ⟨g,q⟩ | ⟨g,q,D⟩
     ·omega
     ·omega
     rw[h7] at D;cases D
    rw[this];rfl)
   rcases v with g | ⟨g,q⟩ | ⟨g,q,rfl⟩
   ·clear f y;go_wp2_with fail;go_ret;exact⟨by rw[I.out];rfl,a⟩
   ·clear f y;go_wp2_with fail;go_ret;exact⟨by rw[I.out];rfl,a⟩
   have H:=LH a;have J:=LH (j.out.below a);have L:=LH (hi.below a);clear a f y;go_wp2_with fail;(with_reducible refine (T.out _ J.out L.out).mono ?_);rintro e w6⟨rfl,u⟩;go_wp2_with fail;go_ret;exact⟨by rw[I.out];rfl,Zz H.out u⟩
  have H:=LH a;have J:=LH (j.out.below a);have L:=LH (hi.below a);have ap:=LH f;have aq:=LH y;clear a f y;rcases az with ⟨g,q,rfl,D⟩ | ⟨g,q,rfl,D⟩;all_goals
   have Y:Hid (G.leftsGo (G.rules.take (k+1)) (-1)=some (max top r.left)):=LH (by rw[Z.out,if_pos ⟨g,q,rfl⟩]);go_wp2_with fail;(with_reducible refine (T.out _ J.out L.out).mono ?_);rintro e w6⟨rfl,u⟩;have⟨y5,y0,y1,y2⟩:=aq.out.below u;have ab:=LH (ap.out.below u);have U:=LH (Zz H.out u);clear u z0 z1 z2 z3 y1 y2;go_wp2_with fail;go_roundw
   case rel=>first
    | exact⟨k+1,r.left,AA,AF,rfl,AA,AA,U.out,ab.out,LH (by rw[Y.out,Int.max_eq_right AA])⟩
    | exact⟨k+1,top,AA,AF,rfl,AA,AA,U.out,ab.out,LH (by rw[Y.out,Int.max_eq_left AA])⟩
   simp[intOf];omega
 obtain rfl:k=n3:=AA
 have A:Hid (G.right=(top==(n2:Int)-1)):=LH (by
  rw[V.out];have:=X.out;rw[AR AA] at this;rw[this,Cs];simp)
 have bg:IntKind.i64.wrap ((n2:Int)-1)=(n2:Int)-1:=Cc _ AA;go_wp2_with fail;go_ret;exact⟨by rw[A.out];rfl,N⟩
theorem cf_has(h:GH)(G:Gr)(s:Int)(w:World)(a:Yf w h G)(b:U3 s)(o:h.n1<=1000)(p:h.n2<=1000):
 Calls prog 96 #[GV h G.start,.int .i64 s] w λe w'=>e = .returned (.bool (G.has s))/\Below w w w':=by
 obtain⟨a1,n1,c1,a2,n2,c2,a3,n3,c3⟩:=h;have g:G.terms.length=n1:=a.terms.len;have j:G.nons.length=n2:=a.nons.len;have m:G.has s=if 0<=s then decide (s<(n1:Int)) else decide (-1-s<(n2:Int)):=by unfold Gr.has;rw[g,j]
 rw[m];simp only[] at o p;clear m g j a;by_cases k:0<=s
 ·rw[if_pos k];obtain⟨r,t⟩:=b;go_enter func96,ntmps96;go_wp2_with fail;go_ret;exact⟨AE,Zy _ _⟩
 rw[if_neg k];have f:=λw=>cf_non s w b AA;obtain⟨r,t⟩:=b;have d:decide (s<0)=true:=AG
 go_enter func96,ntmps96;have q:=Y1.new w 26 ⟨a1,n1,c1,a2,n2,c2,a3,n3,c3⟩ G.start;have l:=Zy w (.cells #[.slice a1 n1 c1,.slice a2 n2 c2,.slice a3 n3 c3,.int .i64 G.start] 26);have n:=LH f;clear f;go_wp2_with fail;generalize w.alloc (.cells #[.slice a1 n1 c1,.slice a2 n2 c2,.slice a3 n3 c3,.int .i64 G.start] 26)=c at *;obtain⟨B,u,v,y,z⟩:=q;simp only[] at u v y z;have A:=Yt c;refine Zs AB AB ?_;repeat (go_big_quiet_step ((go_at_call 154;exact Qo (n.out _))))
 refine BL ?_;rintro _⟨x,rfl⟩;go_wp2_with fail;go_ret;exact⟨AE,l.trans ((Zr c x).mono l.size)⟩
theorem cf_rule1(h:GH)(G:Gr)(m p:Nat)(s left:Int)(Ar:Option Addr)(A cr:Nat)(a:Int)(w:World)(o:Yf w h G)(v:U3 s)(r:h.n1<=1000)(t:h.n2<=1000)(y:Y1 w m h G.start)(z:Fl w p left Ar A cr a):
 Calls prog 147 #[.int .i64 s,.pointer (some ⟨m,0,none⟩),.pointer (some ⟨p,0,none⟩)] w λe w'=>e = .returned (.bool (!G.symOK a s))/\Below w.heap.size w w':=by
 have l:=cf_has h G s w o v r t;obtain⟨a1,n1,c1,a2,n2,c2,a3,n3,c3⟩:=h;have n:G.symOK a s=(G.has s&&!(decide (0<=s)&&decide (a=-1))):=rfl;rw[n];obtain⟨L,B,C,D,E⟩:=y;obtain⟨J,F,H,I⟩:=z;simp only[] at B C D E;generalize G.has s=b at *;have CH:=LH l;clear l o n;have x:(b=false)\/(b=true/\s<0)\/(b=true/\0<=s/\a=-1)\/(b=true/\0<=s/\a ≠ -1):=by
  cases b
  ·simp
  simp only[Bool.true_eq_false,false_or,true_and];omega
 rcases x with rfl | ⟨rfl,g⟩ | ⟨rfl,g,f⟩ | ⟨rfl,g,f⟩
 ·go_enter func147,ntmps147;go_wp2_with (go_at_call 96;(with_reducible refine CH.out.mono ?_);rintro e k⟨rfl,c⟩);go_ret;exact⟨rfl,c⟩
 ·have d:decide (0<=s)=false:=AG
  go_enter func147,ntmps147;go_wp2_with (go_at_call 96;(with_reducible refine CH.out.mono ?_);rintro e k⟨rfl,c⟩);go_ret;exact⟨by simp[d],c⟩
 ·have d:decide (0<=s)=true:=AG
  have q:(a == -1)=true:=by rw[BW];exact f
  have j:Hid (decide (a=-1)=true):=LH (by simp[f]);clear f;go_enter func147,ntmps147;go_wp2_with (go_at_call 96;(with_reducible refine CH.out.mono ?_);rintro e k⟨rfl,c⟩;have u:=(Jd c).1);go_ret;exact⟨by rw[d,j.out];rfl,c⟩
 have d:decide (0<=s)=true:=AG
 have q:(a == -1)=false:=by rw[AQ];exact f
 have j:Hid (decide (a=-1)=false):=LH (by simp[f]);clear f;go_enter func147,ntmps147;go_wp2_with (go_at_call 96;(with_reducible refine CH.out.mono ?_);rintro e k⟨rfl,c⟩;have u:=(Jd c).1);go_ret;exact⟨by rw[d,j.out];rfl,c⟩
theorem cf_rule(h:GH)(G:Gr)(r:Rul)(Ar:Option Addr)(cr:Nat)(w:World)(n:Yf w h G)(o:Za .i64 w Ar r.right.length cr r.right)(z:∀s∈r.right,U3 s)(x:h.n1<=1000)(y:h.n2<=1000):
 Calls prog 87 #[GV h G.start,.agg #[.int .i64 r.left,.slice Ar r.right.length cr,.int .i64 r.prec]] w λe w'=>e = .returned (.bool (G.ruleOK r))/\Below w w w':=by
 have c1:=λF R (s:Int) w' (L:Yf w' h G) p O P=>cf_rule1 h G F R s r.left Ar r.right.length cr r.prec w' L p x y O P;obtain⟨a1,n1,u,a2,n2,c2,a3,n3,c3⟩:=h;have v:G.terms.length=n1:=n.terms.len;have T:=o.cap;simp only[] at x y;have d:Hid (G.ruleOK r=(decide (r.right.length<=6)&&decide (-1<=r.prec/\r.prec<(n1:Int))&&r.right.all (G.symOK r.prec))):=LH (by unfold Gr.ruleOK;rw[v]);clear v;have j:=λw=>Jx r.prec (-1) ((n1:Int)-1) w;have A:Yb r.prec (-1) ((n1:Int)-1)=decide (-1<=r.prec/\r.prec<(n1:Int)):=by
  unfold Yb;rw[Cs,BA,BA];omega
 rw[A] at j;clear A;generalize decide (-1<=r.prec/\r.prec<(n1:Int))=f at *;have q:=LH j;have B:=LH c1;have C:=LH n;have D:=LH o;have E:=LH z;clear j c1 n o z;obtain⟨a,l,m⟩:=Zzq w 26 60 ⟨a1,n1,u,a2,n2,c2,a3,n3,c3⟩ G.start r.left Ar r.right.length cr r.prec;have U:IntKind.i64.wrap ((n1:Int)-1)=(n1:Int)-1:=Cc _ AA;have N:(6<(r.right.length:Int))\/((r.right.length:Int)<=6/\f=false)\/((r.right.length:Int)<=6/\f=true):=by
  cases f <;> simp <;> omega
 rcases N with g | ⟨g,rfl⟩ | ⟨g,rfl⟩
 ·have b:Hid (G.ruleOK r=false):=LH (by
   rw[d];have:decide (r.right.length<=6)=false:=AG
   rw[this];rfl)
  clear l m;have c:=LH a;clear a;go_enter func87,ntmps87;go_wp2_with fail;go_ret;exact⟨by rw[b];rfl,c⟩
 ·have b:Hid (G.ruleOK r=false):=LH (by rw[d];simp);clear l m;have c:=LH a;clear a;go_enter func87,ntmps87;go_wp2_with fail;refine (q.out _).mono ?_;rintro e S⟨rfl,rfl⟩;go_wp2_with fail;go_ret;exact⟨by rw[b];rfl,c⟩
 have b:Hid (G.ruleOK r=r.right.all (G.symOK r.prec)):=LH (by
  rw[d];have:decide (r.right.length<=6)=true:=AG
  rw[this];rfl)
 go_enter func87,ntmps87;go_wp2_with fail;refine (q.out _).mono ?_;rintro e S⟨rfl,rfl⟩;go_wp2_with fail;generalize (w.alloc (.cells #[.slice a1 n1 u,.slice a2 n2 c2,.slice a3 n3 c3,.int .i64 G.start] 26)).alloc (.cells #[.int .i64 r.left,.slice Ar r.right.length cr,.int .i64 r.prec] 60)=t at *;have H:Zyw 147 #[.pointer (some ⟨w,0,none⟩),.pointer (some ⟨w+1,0,none⟩)] (Value.int .i64) t r.right (λs=>!G.symOK r.prec s):=λs p w' k =>
  B w (w.heap.size+1) s w' ((C.below a).below k) (E s p) (l.below k) (m.below k)
 have J:=U1 Ar r.right.length cr r.right _ _ _ t enters_rule1 (D.below a) H;refine J.mono ?_;rintro e V⟨rfl,I⟩;go_wp2_with fail;go_ret;have M:(!r.right.any λs=>!G.symOK r.prec s)=r.right.all (G.symOK r.prec):=by
  rw[List.all_eq_not_any_not]
 exact⟨by rw[b,<-M];rfl,Zz a I⟩
section
open Go.RowKit Go.Shelf Go.Sort
theorem cf_alone(A:Option Addr)(n c:Nat)(a:List ByteArray)(w:World)(h:Js w A n c a)(J:n<=1000):
 Calls prog 83 #[.slice A n c] w λe w'=>e = .returned (.bool (decide a.Nodup))/\Below w w w':=by
 obtain rfl:=h.len;have O:=h.cap;have p:=values_in A a.length c w;have r:=Zy w (.cells #[.slice A a.length c] 23);have l:=Wg w 23 #[.slice A a.length c] 0;simp only[DR,List.getElem?_cons_zero] at l;have o:=sorted_s w a.length c A a J (w.alloc (.cells #[.slice A a.length c] 23)) AE l (h.below r);have S:=Zl w (.cells #[.slice A a.length c] 23);have B:=LH p;have z:=LH o;clear p o l;go_enter func83,ntmps83;go_wp2_with fail;refine B.out.mono ?_;rintro e w1⟨rfl,rfl⟩;go_wp2_with fail;refine z.out.mono ?_;rintro e b⟨H,L⟩;have k:=Zz r H;rcases L with ⟨rfl,rfl⟩ | ⟨g,cap,rfl,N,R,P,s⟩
 ·have D:=LH (Tryz.slices_Compact_string_empty none 0 b);go_wp2_with fail;refine D.out.mono ?_;rintro e M⟨rfl,rfl⟩;go_wp2_with fail;go_ret;exact⟨AE,k⟩
 have u:((byL a).mergeSort λx y=>decide (x<=y)).length=a.length:=by simp[byL]
 have f:=Tryz.slices_Compact_string g 0 cap ((byL a).mergeSort λx y=>decide (x<=y)) b s AA AA;rw[u] at f;have t:decide a.Nodup=decide ((Lib.compact ((byL a).mergeSort λx y=>decide (x<=y))).length=a.length):=by
  have:=sorted_len (byL a);rw[byL_nodup,show (byL a).length=a.length by simp[byL]] at this;rw[Cs,BA,BA];exact this.symm
 have E:=LH t;have C:Hid (∀q d,Below w w (putRow encStr (Sort.ahead b q) g 0 d)):=LH λq d=>by
  have:=k.grown (grownBy_sorted (n:=q) (os:=#[]) (g:=g) d) k.size (λj I=>by cases I;omega);rwa [grow_none] at this
 generalize (Lib.compact ((byL a).mergeSort λx y=>decide (x<=y))).length=m at *;have v:=LH f;clear f s t u;go_wp2_with fail;refine v.out.mono ?_;rintro e M⟨rfl,q,rfl⟩;have G:=LH (C q (Lib.compact ((byL a).mergeSort λx y=>decide (x<=y))++List.replicate (a.length-m) []).toArray);generalize putRow encStr (Sort.ahead b q) g 0 (Lib.compact ((byL a).mergeSort λx y=>decide (x<=y))++List.replicate (a.length-m) []).toArray=T at *;have F:Hid (((m:Int)==(a.length:Int))=decide (m=a.length)):=LH (by rw[Cs];simp;omega);go_wp2_with fail;go_ret;exact⟨by rw[E,<-F];rfl,G⟩
end
section
open Go.RowKit Go.Maps
theorem Blk.below(h:Blk w g t cs)(a:Below B w w')(b:g<B):Blk w' g t cs:=(a.block g b).trans h
theorem Blk.ext(h:Blk w g t cs)(a:Below w w w'):Blk w' g t cs:=h.below a h.lt
theorem made_bools(n:Nat):madeCells #[Value.bool false] n=(Qk (List.replicate n false)).toArray:=by
 apply Array.ext
 ·simp[madeCells,Qk]
 intro j a b;simp[madeCells,Qk,Nat.mod_one]
theorem Nt(n:Nat)(h:n<=1000)(w:World):
 (Instr.makeSlice 103 (.int .i64 (n:Int)) (.int .i64 (n:Int))).run prog w = .ok (.slice (some ⟨w,0,none⟩) n n) (w.alloc (.cells (Qk (List.replicate n false)).toArray 4)):=by
 obtain⟨i,d,g,f,c⟩:=info_parts Tryz.infoBool;have b:(i.bytes:Int)*(n:Int)<=281474976710656:=by rw[c];omega
 have a:=run_make (P:=prog) w 103 4 i (.bool false) underlying103 d g .i64 .i64 n n AA AA b AA;simp only[DC] at a;rw[a,f,Ej];simp only[Value.cells,made_bools]
end
theorem Kq.below(h:Kq w B A n c ts)(a:Below w w w'):Kq w' B A n c ts:=h.keep a.size λk _ b=>a.block k b
theorem Rfs.below(h:Rfs w A n c ss)(a:Below w w w'):Rfs w' A n c ss:=h.keep a.size λb _ _ d=>a.block b d
theorem Prds.below(h:Prds w A n c ps)(a:Below w w w'):Prds w' A n c ps:=by
 refine⟨h.1,h.2.1,h.2.2.1,λs=>?_⟩;obtain⟨b,f,e,d,r⟩:=h.2.2.2 s;refine⟨b,f,e,AK d a.size,λj p t=>?_⟩;rw[a.cell (p:=⟨b,f+j*5,none⟩) d,a.cell (p:=⟨b,f+j*5+1,none⟩) d,a.cell (p:=⟨b,f+j*5+2,none⟩) d,a.cell (p:=⟨b,f+j*5+3,none⟩) d,a.cell (p:=⟨b,f+j*5+4,none⟩) d];obtain⟨Ar,cr,x,y,u,v,g,k,l,m,o,q⟩:=r j p t;exact⟨Ar,cr,x,y,u,v,g,k,l,m,o,q.below a⟩
theorem Wk.below{p:Nat}(k:Wk w p B h G)(a:Below w w w'):Wk w' p B h G:=by
 obtain⟨cs,d,g⟩:=k.r3;exact⟨k.blk.ext a,Yq k.r1 λb _ _ c=>a.block b c,Yq k.r2 λb _ _ c=>a.block b c,
  ⟨cs,Yq d λb _ _ c=>a.block b c,g.keep a.size λk j f=>⟨a.block k j,f⟩⟩,k.d12,k.d13,k.d23,k.st,k.wf,k.b1,k.b2,k.b3⟩
theorem V6.below{p:Nat}{c:GH}(t:V6 w w' p h c)(k:Wk w p B h G):Below p w w':=by
 refine⟨t.os,t.tape,t.output,t.size,λb f=>t.keep b (Nat.lt_trans f k.lt) ?_⟩;rintro (a | a | a | a)
 ·omega
 ·have:=(k.r1.lt b a).1;omega
 ·have:=(k.r2.lt b a).1;omega
 obtain⟨cs,d,_⟩:=k.r3;have:=(d.lt b a).1;omega
theorem Wc.below{p:Nat}(h:Wc w p ts)(a:Below w w w'):Wc w' p ts:=by
 obtain⟨d,A,c,x,y,g,j,b,f⟩:=h;exact⟨d,A,c,x,y,g,j,b.ext a,f.below a⟩
theorem Blk.hidden(h:Blk w g t cs)(a:Hid (Below w w w')):Blk w' g t cs:=h.ext a
theorem Red2.below{g:Option Addr}(r:Red2 l c d n s G w g m j o p q)(a:Below w w w'):Red2 l c d n s G w' g m j o p q :=
 ⟨r.off.trans (Off.of_below (S:=λk=>k=d\/k=c) a) λ_ _ h=>h,Blk.ext r.tos a,Blk.ext r.out a,Wv r.kept λb _ f=>a.block b f,Wv r.nons λb _ f=>a.block b f⟩
theorem Zyu.below{f:World}{j l:Value}{d:Option Addr}{c3:Nat}{g:List Rul}(r:Zyu f c j l w d c3 g)(a:Below w w w'):Zyu f c j l w' d c3 g:=by
 obtain⟨cs,h1,m⟩:=r.rules;exact⟨r.off.trans (Off.of_below (S:=λk=>k=c) a) λ_ _ h=>h,Blk.ext r.out a,cs,Wv h1 λb _ p=>a.block b p,m.keep a.size λk o n=>⟨a.block k o,n⟩⟩
theorem Zwl.ext{a:Nat}(h:Zwl w a g n N)(d:a<w.heap.size)(c:g<w.heap.size)(b:Below w w W):Zwl W a g n N :=
 ⟨(b.cell (p:=⟨a,0,none⟩) d).trans h.1,λi hi=>(b.cell (p:=⟨g,i,none⟩) c).trans (h.2 i hi)⟩
theorem pred_bare{a:Nat}(h:Zwl w a g n N)(f:a<w.heap.size)(c:g<w.heap.size)(d:n<=1000):
 PredAt prog 199 #[.pointer (some ⟨a,0,none⟩)] (encB n) (λs=>Xg N s.1) w :=
 λW x b=>Zsz a g n N x.1 W (h.ext f c b) d x.2.1 x.2.2
section
variable {P:Program}
theorem Xw.nil:Xw P ops Q J i []:=trivial
theorem Xc.nil:Xc P J i []:=trivial
end
section
open Go.Maps (Keyed IsMap Tidy)
theorem Dm.below{q:Value}{g:Option Addr}{o:List Nat}(r:Dm l d c q G w g m j n o p)(a:Below w w w'):Dm l d c q G w' g m j n o p :=
 ⟨r.off.trans (Off.of_below (S:=λk=>k=c\/k=d) a) λ_ _ h=>h,r.num.block (a.block c r.num.lt),Blk.ext r.out a,Wv r.kept λb _ f=>a.block b f,Wv r.nons λb _ f=>a.block b f⟩
theorem Zvs.below{m:World}{g:Option Addr}{l:Nat}(r:Zvs m d c s G w g n j o p q l)(a:Below w w w'):Zvs m d c s G w' g n j o p q l :=
 ⟨r.off.trans (Off.of_below (S:=λk=>k=c\/k=d) a) λ_ _ h=>h,r.num.block (a.block c r.num.lt),Blk.ext r.out a,Wv r.kept λb _ f=>a.block b f,Wv r.nons λb _ f=>a.block b f⟩
theorem Z1.kept(h:Z1 w A n c b x)(a:Zf w w'):Z1 w' A n c b x:=⟨h.1,h.2.kept a⟩
theorem Z1.below(h:Z1 w A n c b x)(a:Below w w w'):Z1 w' A n c b x:=⟨h.1,h.2.below a⟩
theorem Vp.kept(h:Vp w g t xs)(m:Zf w w')(l:w'.heap[g]? = w.heap[g]?):Vp w' g t xs:=by
 obtain⟨cs,f,o,k⟩:=h;refine⟨cs,l.trans f,o,λj x p=>?_⟩;obtain⟨A,n,c,b,h1,a,d⟩:=k j x p;exact⟨A,n,c,b,h1,a,d.kept m⟩
theorem Vp.put(h:Vp w g t xs){j:Nat}(u:j<xs.length)(C:Z1 w A n c b x):
 Vp ((w.setCell ⟨g,j*2,none⟩ (.slice A n c)).setCell ⟨g,j*2+1,none⟩ (.bool b)) g t (xs.set j x)/\Zf w ((w.setCell ⟨g,j*2,none⟩ (.slice A n c)).setCell ⟨g,j*2+1,none⟩ (.bool b)):=by
 have v:=h.noInt;have d:Zf w ((w.setCell ⟨g,j*2,none⟩ (.slice A n c)).setCell ⟨g,j*2+1,none⟩ (.bool b)) :=
  Zf.of_off ((Off.of_set w g (j*2) (.slice A n c)).trans (Off.of_set _ g (j*2+1) (.bool b)) λ_ _ h=>h) λq z=>by rw[z];exact v
 refine⟨?_,d⟩;obtain⟨cs,r,B,s⟩:=h;refine⟨(cs.setIfInBounds (j*2) (.slice A n c)).setIfInBounds (j*2+1) (.bool b),(r.set _ _).set _ _,by simp[B],λi y a=>?_⟩;have hi:i<xs.length:=by have:=(AO.1 a).1;simpa using this
 by_cases f:i=j
 ·subst f;rw[List.getElem?_set_self u] at a;obtain rfl:x=y:=by simpa using a
  refine⟨A,n,c,b,?_,?_,C.kept d⟩
  ·rw[Array.getElem?_setIfInBounds_ne AA,Array.getElem?_setIfInBounds_self_of_lt AA]
  rw[Array.getElem?_setIfInBounds_self_of_lt AG]
 rw[List.getElem?_set_ne (λe=>f e.symm)] at a;obtain⟨k,D,m,l,h1,o,p⟩:=s i y a;refine⟨k,D,m,l,?_,?_,p.kept d⟩
 ·rw[Array.getElem?_setIfInBounds_ne AA,Array.getElem?_setIfInBounds_ne AA];exact h1
 rw[Array.getElem?_setIfInBounds_ne AA,Array.getElem?_setIfInBounds_ne AA];exact o
def ptrR:Value->Option (DataW Unit × List MemPlace)
 | .pointer none=>some (.nil,[])
 | .pointer (some ⟨b,0,none⟩)=>some (.lit (.int .i64 (b:Int)),[])
 | _=>none
end
section
open Go.Maps (Keyed IsMap Tidy)
variable {P:Program} {k:TypeId}
def Np(P:Program)(k:TypeId):List (Value × Nat)->DataW Unit
 | [] => .map []
 | p::r=>(Np P k r).put (litK P k p.1) (.lit (.int .i64 (p.2:Int)))
theorem D3:∀r:List (Value × Nat),IsMap (Np P k r)
 | []=>Maps.isMap_empty
 | p::r=>(D3 r).put _ _
theorem Zsc(K:Keyed P k)(b:U4 P k v):∀r:List (Value × Nat),(∀p∈r,U4 P k p.1)->(Maps.has (Np P k r) (litK P k v)=true↔v∈r.map (·.1))
 | [],_=>by
   unfold Np;simp[Maps.has_eq]
 | p::r,hg=>by
   have a:=hg p (By ..);have d:=Zsc K b r (λq c=>hg q (BO _ c));unfold Np;rw[CU,BZ];by_cases e:v=p.1
   ·rw[e,Maps.has_put_same (D3 r) (K.key a.lit)];simp
   rw[Maps.has_put_other (Ztc K b a e),d];simp[e]
theorem Zut(K:Keyed P k):∀r:List (Value × Nat),(∀p∈r,U4 P k p.1)->Tidy (Np P k r)
 | [],_=>Maps.tidy_empty
 | p::r,hg=>(Zut K r (λq a=>hg q (BO _ a))).put (K.key (hg p (By ..)).lit) _
theorem F1(K:Keyed P k):∀r:List (Value × Nat),(∀p∈r,U4 P k p.1)->∃L:List Value,L.Nodup/\(∀v∈L,v∈r.map (·.1))/\Maps.size (Np P k r)=L.length
 | [],_=>⟨[],List.nodup_nil,λv h=>(by cases h),rfl⟩
 | p::r,hg=>by
   have f:∀q∈r,U4 P k q.1:=λq l=>hg q (BO _ l);obtain⟨L,h1,c,g⟩:=F1 K r f;have b:=Maps.size_put (k:=litK P k p.1) (Zut K r f) (.lit (.int .i64 (p.2:Int)));have j:=Zsc K (hg p (By ..)) r f;by_cases d:p.1∈r.map (·.1)
   ·rw[if_pos (j.2 d)] at b;exact⟨L,h1,λv a=>by rw[CU];exact BO _ (c v a),b.trans g⟩
   rw[if_neg (λh=>d (j.1 h))] at b;refine⟨p.1::L,List.nodup_cons.2 ⟨λh=>d (c _ h),h1⟩,λv a=>?_,by rw[AY,<-g];exact b⟩;rw[CU];rcases BZ.1 a with e | a
   ·rw[e];exact By ..
   exact BO _ (c v a)
structure Vv (P:Program) (k:TypeId) (w:World) (g:Nat) (r:List (Value × Nat)):Prop where
 own:w.ownsMap P k ptrR g (Maps.size (Np P k r)) (Np P k r)
 good:∀p∈r,U4 P k p.1
end
section
open Go.Maps (Keyed IsMap Tidy)
open Go.Maps (Keyed IsMap Tidy)
theorem H8.kept{b:Nat}(h:H8 w b x)(g:Zf w w')(f:w'.heap[b]? = w.heap[b]?):H8 w' b x:=by
 obtain⟨A,n,c,d,h1,a⟩:=h;exact⟨A,n,c,d,f.trans h1,a.kept g⟩
end
section
open Ieee
open Go.Maps (Keyed IsMap Tidy)
theorem Fx.kept{b:Nat}(h:Fx w b x)(g:Zf w w')(f:w'.heap[b]? = w.heap[b]?):Fx w' b x:=by
 obtain⟨A,n,c,d,h1,a⟩:=h;exact⟨A,n,c,d,f.trans h1,a.kept g⟩
end
section
open Go.RowKit Go.Shelf
attribute [local go_sem] Oper.semAt_some
open Go.RowKit Go.Shelf
theorem Boxed.far{b:Nat}(h:Boxed W B t v)(a:B≠b)(u:Value):Boxed (W.setCell ⟨b,0,none⟩ u) B t v:=Boxed.kept h (grownBy_setCell' W b u) (by simpa using a)
theorem Zr9(h:Zqy w W v)(a b c:Value):
 Boxed (((W.setCell ⟨w+1,0,none⟩ a).setCell ⟨w+1+1,0,none⟩ b).setCell ⟨w+1+1+1,0,none⟩ c) (w.heap.size+1) 44 a /\
 Boxed (((W.setCell ⟨w+1,0,none⟩ a).setCell ⟨w+1+1,0,none⟩ b).setCell ⟨w+1+1+1,0,none⟩ c) (w.heap.size+1+1) 3 b /\
 Boxed (((W.setCell ⟨w+1,0,none⟩ a).setCell ⟨w+1+1,0,none⟩ b).setCell ⟨w+1+1+1,0,none⟩ c) (w.heap.size+1+1+1) 31 c:=by
 refine⟨?_,?_,?_⟩
 ·exact Boxed.far (Boxed.far (Boxed.set a h.r0) AA _) AA _
 ·exact Boxed.far (Boxed.set b (Boxed.far h.r1 AA _)) AA _
 exact Boxed.set c (Boxed.far (Boxed.far h.r2 AA _) AA _)
end
section
open Go.RowKit Go.Shelf
attribute [local go_sem] Oper.semAt_some
open Go.RowKit Go.Shelf
open Go.RowKit Go.Shelf
attribute [local go_sem] Oper.semAt_some
theorem Zry{a:World}(h:Boxed W B t v)(d:W.grownBy a row)(f:∀r,row=some r->∃o:Obj,W.heap[r]? = some o/\o.isCells=false):Boxed a B t v:=by
 refine Boxed.kept h d λe=>?_;obtain⟨o,b,c⟩:=f B e.symm;rw[show W.heap[B]? = _ from h] at b;cases b;cases c
theorem Zqp{d:World}(h:Zqy w W v)(a:W.grownBy d row)(c:∀r,row=some r->∃o:Obj,W.heap[r]? = some o/\o.isCells=false):Zqy w d v :=
 ⟨Zry h.b a c,Zry h.r0 a c,Zry h.r1 a c,Zry h.r2 a c⟩
theorem Zqa(h:Zqy w W v){b:Nat}(a:w.heap.size+1+1+1<b)(u:Value):Zqy w (W.setCell ⟨b,0,none⟩ u) v :=
 ⟨Boxed.far h.b AA u,Boxed.far h.r0 AA u,Boxed.far h.r1 AA u,Boxed.far h.r2 AA u⟩
theorem nums_sets(h:Zqy w W v)(g:Zq .u32 W A n d xs)(a b c:Value):
 Zq .u32 (((W.setCell ⟨w+1,0,none⟩ a).setCell ⟨w+1+1,0,none⟩ b).setCell ⟨w+1+1+1,0,none⟩ c) A n d xs:=by
 have h1:=Zrd g h.r0 (λ_ e=>by cases e) a;have f:=Zrd h1 (Boxed.far h.r1 AA a) (λ_ e=>by cases e) b;exact Zrd f (Boxed.far (Boxed.far h.r2 AA a) AA b) (λ_ e=>by cases e) c
end
