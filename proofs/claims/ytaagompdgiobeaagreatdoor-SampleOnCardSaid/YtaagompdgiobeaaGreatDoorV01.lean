/- Words for slices that read as lists: no program in sight. -/
import Derived.Test.YtaagompdgiobeaaGreatDoorV00
import Derived.Test.YtaagompdgiobeaaGreatDoorUQGrShelf
set_option linter.all false
set_option maxHeartbeats 1500000
set_option maxRecDepth 100000
namespace Go.Proofs.YtaagompdgiobeaaGreatDoor
open Go.RowKit Go.Proofs.Tryz
variable{w' W:World}{A:Option Addr}{xs a l o:List Nat}{n c j g i B base e:Nat}{t:TypeId}{d f:List Int}{ss:List ByteArray}{α:Type}{cs:List Value}{r:Option Nat}{s:Nat->Prop}{Q:Exit->Act->World->Prop}{args:Array Value}{v:Value}{R:Value->Option (DataW Unit × List MemPlace)}{D:DataW Unit}
def Arr(w:World)(A:Option Addr)(xs:List Value):Prop :=
 0<xs.length->∃b a,A=some ⟨b,a,none⟩/\b<w.heap.size/\∀j,j<xs.length->w.cell? ⟨b,a+j,none⟩=xs[j]?
def Sl(w:World)(A:Option Addr)(n c:Nat)(xs:List Value):Prop :=
 xs.length=n/\n<=c/\c<=9223372036854775807/\Arr w A xs
theorem Arr.nil(w:World)(A:Option Addr):Arr w A []:=λh=>absurd h AE
theorem Arr.keep{w:World}{xs:List Value}(h:Arr w A xs)(l:w.heap.size<=w'.heap.size)(g:∀b a,b<w.heap.size->w'.cell? ⟨b,a,none⟩=w.cell? ⟨b,a,none⟩):Arr w' A xs:=λk=>by
 obtain⟨b,a,e,c,d⟩:=h k;exact⟨b,a,e,AA,λj f=>(g b _ c).trans (d j f)⟩
theorem Arr.below{w:World}{xs:List Value}(h:Arr w A xs)(a:Below w w w'):Arr w' A xs :=
 h.keep a.size λ_ _ b=>a.cell b
theorem Sl.below{w:World}{xs:List Value}(h:Sl w A n c xs)(a:Below w w w'):Sl w' A n c xs :=
 ⟨h.1,h.2.1,h.2.2.1,h.2.2.2.below a⟩
theorem Sl.nil(w:World)(A:Option Addr)(c:Nat)(h:c<=9223372036854775807):Sl w A 0 c []:=⟨rfl,AS _,h,Arr.nil _ _⟩
def nums(k:IntKind)(xs:List Nat):List Value:=xs.map λ(x:Nat)=>Value.int k ((x:Int))
theorem Vw(k:IntKind)(xs:List Nat):(nums k xs).length=xs.length:=by simp[nums]
def Zq(k:IntKind)(w:World)(A:Option Addr)(n c:Nat)(xs:List Nat):Prop:=Sl w A n c (nums k xs)
theorem Zq.len{k:IntKind}{w:World}(h:Zq k w A n c xs):xs.length=n:=by
 have:=h.1;rwa [Vw] at this
theorem Zq.cap{k:IntKind}{w:World}(h:Zq k w A n c xs):n<=c/\c<=9223372036854775807:=⟨h.2.1,h.2.2.1⟩
theorem Zq.at_{k:IntKind}{w:World}(h:Zq k w A n c xs)(m:0<n):
 ∃b a,A=some ⟨b,a,none⟩/\b<w.heap.size/\∀j,j<n->w.cell? ⟨b,a+j,none⟩=some (.int k ((xs.getD j 0:Nat):Int)):=by
 have d:=h.len;obtain⟨b,a,e,f,g⟩:=h.2.2.2 (by rw[Vw,d];exact m);refine⟨b,a,e,f,λj l=>?_⟩;rw[g j (by rw[Vw,d];exact l)];simp only[nums,BB];rw[AM AA];simp[AM (show j<xs.length by omega)]
theorem Zq.below{k:IntKind}{w:World}(h:Zq k w A n c xs)(a:Below w w w'):Zq k w' A n c xs:=Sl.below h a
theorem Zq.nil(k:IntKind)(w:World)(A:Option Addr)(c:Nat)(h:c<=9223372036854775807):Zq k w A 0 c []:=Sl.nil w A c h
theorem Zq.get{k:IntKind}{w:World}(h:Zq k w A n c xs)(g:j<n):
 ∃b a x,A=some ⟨b,a,none⟩/\b<w.heap.size/\Hid (xs[j]? = some x)/\w.cell? ⟨b,a+j,none⟩=some (.int k ((x:Int))):=by
 obtain⟨b,a,e,d,f⟩:=h.at_ AA;have l:=h.len;exact⟨b,a,xs[j]' AA,e,d,LH (AM AA),by rw[f j g];simp[AM (show j<xs.length by omega)]⟩
theorem Zq.take{k:IntKind}{w:World}(h:Zq k w A n c xs)(m a:Nat)(s:m<=n)(f:m<=a)(g:a<=9223372036854775807):
 Zq k w A m a (xs.take m):=by
 have r:=h.len;refine⟨by simp[nums];omega,f,g,λp=>?_⟩;simp[nums] at p;obtain⟨b,q,e,d,l⟩:=h.2.2.2 (by rw[Vw];omega);refine⟨b,q,e,d,λj o=>?_⟩;simp[nums] at o;rw[l j (by rw[Vw];omega)];simp[nums,El];intro;omega
def Own(w:World)(g:Nat)(t:TypeId)(k:IntKind)(a:List Nat):Prop:=w.heap[g]? = some (.cells (nums k a).toArray t (0,0))
theorem Own.lt{w:World}{k:IntKind}{c:List Nat}(h:Own w g t k c):g<w.heap.size:=by
 rcases BD g w with b | a
 ·exact b
 unfold Own at h;rw[CZ a] at h;cases h
theorem Own.cell{w:World}{k:IntKind}(h:Own w g t k a)(hi:i<a.length):
 ∃x,Hid (a[i]? = some x)/\w.cell? ⟨g,i,none⟩=some (.int k (x:Int)):=by
 refine⟨a[i],LH (AM hi),?_⟩;unfold Own at h;simp[World.cell?,h,nums,AM hi]
theorem Own.frozen{w:World}{k:IntKind}(h:Own w g t k a)(i:Nat):w.frozen? ⟨g,i,none⟩=false:=by
 unfold Own at h;simp[World.frozen?,h]
theorem Own.drewN{w:World}{k:IntKind}(h:Own w g t k a)(n:Nat):Own (w.drewN n) g t k a:=h
theorem Own.set_{w:World}{k:IntKind}(h:Own w g t k a)(i x:Nat):
 Own (w.setCell ⟨g,i,none⟩ (.int k (x:Int))) g t k (a.set i x):=by
 unfold Own at h ⊢;simp[World.setCell,Array.getElem?_modify,h,nums,List.map_set]
theorem Own.nums{w:World}{k:IntKind}(h:Own w g t k a)(l:a.length=n)(b:n<=c)(d:c<=9223372036854775807):
 Zq k w (some ⟨g,0,none⟩) n c a:=by
 refine⟨by rw[Vw];exact l,b,d,λ_=>⟨g,0,rfl,h.lt,λj f=>?_⟩⟩;unfold Own at h;rw[Vw] at f;simp[World.cell?,h,Go.Proofs.YtaagompdgiobeaaGreatDoor.nums]
theorem Own.new(w:World)(t:TypeId)(k:IntKind)(a:List Nat):Own (w.alloc (.cells (Go.Proofs.YtaagompdgiobeaaGreatDoor.nums k a).toArray t)) w t k a:=heap_alloc_new w _
theorem Zq.drewN{k:IntKind}{w:World}(h:Zq k w A n c xs)(m:Nat):Zq k (w.drewN m) A n c xs:=h
theorem Zui(k:IntKind)(n:Nat):madeCells #[Value.int k 0] n=(nums k (List.replicate n 0)).toArray:=by
 apply Array.ext
 ·simp[madeCells,nums]
 intro j a b;simp[madeCells,nums,Nat.mod_one]
theorem Wm{P:Program}(t e:TypeId)(k:IntKind)(bytes:Nat)(g:P.underlying t=some (.slice e))(hi:(P.info? e).map (λi=>(i.zero,i.size,i.bytes))=some (some (.int k 0),1,bytes))(n:Nat)(l:bytes*n<=281474976710656)(m:n<=9223372036854775807)(w:World):
 (Instr.makeSlice t (.int .i64 (n:Int)) (.int .i64 (n:Int))).run P w = .ok (.slice (some ⟨w,0,none⟩) n n) (w.alloc (.cells (nums k (List.replicate n 0)).toArray e)):=by
 obtain⟨i,d,j,f,c⟩:=info_parts hi;have b:(i.bytes:Int)*(n:Int)<=281474976710656:=by
  rw[c];have h:((bytes*n:Nat):Int)<=281474976710656:=AA
  rwa [Int.natCast_mul] at h
 have a:=run_make (P:=P) w t e i (.int k 0) g d j .i64 .i64 n n AA AA b AA;simp only[DC] at a;rw[a,f,Ej];simp only[Value.cells,Zui]
theorem Fp{a w:World}(h:Below B a w)(n:Nat):Below B a (w.drewN n):=⟨h.os,h.tape,h.output,h.size,h.block⟩
def Uz(w w':World):Prop:=∃m,w'=w.drewN m
theorem Uz.refl(w:World):Uz w w:=⟨0,rfl⟩
theorem Uz.drewN{a w:World}(h:Uz a w)(n:Nat):Uz a (w.drewN n):=by
 obtain⟨m,rfl⟩:=h;exact⟨m+n,by rw[World.drewN_drewN]⟩
theorem Uz.below{w:World}(h:Uz w w')(B:Nat):Below B w w':=by
 obtain⟨m,rfl⟩:=h;exact Fp (AL _ _) m
theorem Uz.size{w w':World}(h:Uz w w'):w'.heap.size=w.heap.size:=by
 obtain⟨m,rfl⟩:=h;rfl
theorem Zq.same{k:IntKind}{w:World}(h:Zq k w A n c xs)(a:Uz w w'):Zq k w' A n c xs:=h.below (a.below _)
theorem X6{w wr:World}{xs:List Value}(a:Below base w wr)(d:wr.grownBy w' (Value.slice A n c).ownBlock)(g:wr.ownsRow base e 1 (.slice A n c) n xs)(b:base<=wr.heap.size):Below base w w' :=
 a.grown d b λk f=>(g.lt k f).1
theorem Mi(k:IntKind)(xs:List Nat)(x:Nat):nums k (xs++[x])=nums k xs++[.int k (x:Int)]:=by simp[nums]
def ints(k:IntKind)(a:List Int):List Value:=a.map (Value.int k)
theorem Y9(k:IntKind)(a:List Int):(ints k a).length=a.length:=by simp[ints]
def Za(k:IntKind)(w:World)(A:Option Addr)(n c:Nat)(a:List Int):Prop:=Sl w A n c (ints k a)
theorem Za.len{k:IntKind}{w:World}{a:List Int}(h:Za k w A n c a):a.length=n:=by
 have:=h.1;rwa [Y9] at this
theorem Za.cap{k:IntKind}{w:World}{a:List Int}(h:Za k w A n c a):n<=c/\c<=9223372036854775807:=⟨h.2.1,h.2.2.1⟩
theorem Za.below{k:IntKind}{w:World}{a:List Int}(h:Za k w A n c a)(b:Below w w w'):Za k w' A n c a:=Sl.below h b
theorem Za.nil(k:IntKind)(w:World)(A:Option Addr)(c:Nat)(h:c<=9223372036854775807):Za k w A 0 c []:=Sl.nil w A c h
theorem Za.get{k:IntKind}{w:World}(h:Za k w A n c d)(l:j<n):
 ∃b a x,A=some ⟨b,a,none⟩/\b<w.heap.size/\Hid (d[j]? = some x)/\w.cell? ⟨b,a+j,none⟩=some (.int k x):=by
 have m:=h.len;obtain⟨b,a,e,f,g⟩:=h.2.2.2 (by rw[Y9];omega);refine⟨b,a,d[j]' AA,e,f,LH (AM AA),?_⟩;rw[g j (by rw[Y9];omega)];simp[ints,AM (show j<d.length by omega)]
theorem Za.part{k:IntKind}{w:World}{b d:Nat}(h:Za k w (some ⟨b,d,none⟩) n c f)(i m a:Nat)(u:i+m<=n)(l:m<=a)(o:a<=9223372036854775807):
 Za k w (some ⟨b,d+i,none⟩) m a ((f.drop i).take m):=by
 have t:=h.len;refine⟨by simp[ints];omega,l,o,λr=>?_⟩;simp[ints] at r;obtain⟨s,v,e,g,p⟩:=h.2.2.2 (by rw[Y9];omega);injection e with e;injection e with e1 e2;subst e1;subst e2;refine⟨b,d+i,rfl,g,λj q=>?_⟩;simp[ints] at q;rw[DZ,p (i+j) (by rw[Y9];omega)];simp[ints,El,DY];intro;omega
theorem Za.take{k:IntKind}{w:World}(h:Za k w A n c d)(m a:Nat)(t:m<=n)(g:m<=a)(l:a<=9223372036854775807):
 Za k w A m a (d.take m):=by
 have s:=h.len;refine⟨by simp[ints];omega,g,l,λq=>?_⟩;simp[ints] at q;obtain⟨b,r,e,f,o⟩:=h.2.2.2 (by rw[Y9];omega);refine⟨b,r,e,f,λj p=>?_⟩;simp[ints] at p;rw[o j (by rw[Y9];omega)];simp[ints,El];intro;omega
theorem Gj(k:IntKind)(xs ys:List Int):ints k (xs++ys)=ints k xs++ints k ys:=by simp[ints]
theorem Tryz.infoInt:(prog.info? 3).map (λi=>(i.zero,i.size,i.bytes))=some (some (.int .i64 0),1,8):=AB
theorem Tryz.infoU32:(prog.info? 41).map (λi=>(i.zero,i.size,i.bytes))=some (some (.int .u32 0),1,4):=AB
def Js(w:World)(A:Option Addr)(n c:Nat)(ss:List ByteArray):Prop:=Sl w A n c (ss.map Value.string)
theorem Js.len{w:World}(h:Js w A n c ss):ss.length=n:=by have:=h.1;simpa using this
theorem Js.cap{w:World}(h:Js w A n c ss):n<=c/\c<=9223372036854775807:=⟨h.2.1,h.2.2.1⟩
theorem Js.get{w:World}(h:Js w A n c ss)(g:j<n):
 ∃b a s,A=some ⟨b,a,none⟩/\b<w.heap.size/\Hid (ss[j]? = some s)/\w.cell? ⟨b,a+j,none⟩=some (.string s):=by
 have k:=h.len;obtain⟨b,a,e,d,f⟩:=h.2.2.2 (by rw[BI];omega);refine⟨b,a,ss[j]' AA,e,d,LH (AM AA),?_⟩;rw[f j (by rw[BI];omega)];simp[AM (show j<ss.length by omega)]
structure Trm where
 name:ByteArray
 level:Int
 assoc:Int
structure Rul where
 left:Int
 right:List Int
 prec:Int
structure Gr where
 terms:List Trm
 nons:List ByteArray
 rules:List Rul
 start:Int
def N8(w:World)(A:Option Addr)(n c:Nat)(ts:List Trm):Prop :=
 ts.length=n/\n<=c/\c<=9223372036854775807/\(0<n->∃b a,A=some ⟨b,a,none⟩/\b<w.heap.size/\∀j t,ts[j]? = some t->
  w.cell? ⟨b,a+j*3,none⟩=some (.string t.name)/\w.cell? ⟨b,a+j*3+1,none⟩=some (.int .i64 t.level)/\w.cell? ⟨b,a+j*3+2,none⟩=some (.int .i64 t.assoc))
def Dv(w:World)(A:Option Addr)(n c:Nat)(d:List Rul):Prop :=
 d.length=n/\n<=c/\c<=9223372036854775807/\(0<n->∃b a,A=some ⟨b,a,none⟩/\b<w.heap.size/\∀j r,d[j]? = some r->
  ∃Ar cr,w.cell? ⟨b,a+j*3,none⟩=some (.int .i64 r.left)/\w.cell? ⟨b,a+j*3+1,none⟩=some (.slice Ar r.right.length cr)/\w.cell? ⟨b,a+j*3+2,none⟩=some (.int .i64 r.prec)/\Za .i64 w Ar r.right.length cr r.right)
theorem N8.len{w:World}{ts:List Trm}(h:N8 w A n c ts):ts.length=n:=h.1
theorem N8.cap{w:World}{ts:List Trm}(h:N8 w A n c ts):n<=c/\c<=9223372036854775807:=⟨h.2.1,h.2.2.1⟩
theorem N8.get{w:World}{ts:List Trm}(h:N8 w A n c ts)(o:j<n):
 ∃b a t,A=some ⟨b,a,none⟩/\b<w.heap.size/\Hid (ts[j]? = some t)/\w.cell? ⟨b,a+j*3,none⟩=some (.string t.name)/\w.cell? ⟨b,a+j*3+1,none⟩=some (.int .i64 t.level)/\w.cell? ⟨b,a+j*3+2,none⟩=some (.int .i64 t.assoc):=by
 obtain⟨b,a,e,m,l⟩:=h.2.2.2 AA;have p:=h.1;have d:ts[j]? = some (ts[j]' AA):=AM AA;obtain⟨f,g,k⟩:=l j _ d;exact⟨b,a,_,e,m,LH d,f,g,k⟩
theorem Dv.len{w:World}{a:List Rul}(h:Dv w A n c a):a.length=n:=h.1
theorem Dv.cap{w:World}{a:List Rul}(h:Dv w A n c a):n<=c/\c<=9223372036854775807:=⟨h.2.1,h.2.2.1⟩
theorem Dv.get{w:World}{d:List Rul}(h:Dv w A n c d)(q:j<n):
 ∃b a r Ar cr,A=some ⟨b,a,none⟩/\b<w.heap.size/\Hid (d[j]? = some r)/\w.cell? ⟨b,a+j*3,none⟩=some (.int .i64 r.left)/\w.cell? ⟨b,a+j*3+1,none⟩=some (.slice Ar r.right.length cr)/\w.cell? ⟨b,a+j*3+2,none⟩=some (.int .i64 r.prec)/\Za .i64 w Ar r.right.length cr r.right:=by
 obtain⟨b,a,e,p,o⟩:=h.2.2.2 AA;have s:=h.1;have f:d[j]? = some (d[j]' AA):=AM AA;obtain⟨Ar,cr,g,k,l,m⟩:=o j _ f;exact⟨b,a,_,Ar,cr,e,p,LH f,g,k,l,m⟩
theorem Zy(w:World)(o:Obj):Below w w (w.alloc o):=(AL _ _).alloc (AJ _) _
def Xf(c:Nat):Bool:=decide (97<=c/\c<=122) || decide (65<=c/\c<=90) || decide (c=95)
def Wa(c:Nat):Bool:=Xf c || decide (48<=c/\c<=57) || decide (c=46)
theorem letter_fact:∀c:Nat,c<256->Xf c=(decide (c=95) || (decide (97<=c ||| 32)&&decide (c ||| 32<=122))):=by decide +kernel
def Mt(c:Nat):Bool:=decide (32<=c/\c<=126/\c≠39/\c≠92)
def Q1(c:Nat):Bool:=decide (c=110\/c=116\/c=92\/c=39)
theorem bytesWorld_below(w:World)(e:TypeId)(s:ByteArray):Below w w (Lib.bytesWorld w e s):=by
 refine⟨rfl,rfl,rfl,?_,λk a=>Lib.bytesWorld_at_old w e s k a⟩;rw[Lib.bytesWorld_size];omega
def Xi(l:List Nat):Bool:=!(l.length==0)&&decide (l.length<=20)&&Xf (l.getD 0 0)&&l.all Wa
theorem Zsv(k:Nat)(h:k<l.length)(hd:Wa (l.getD k 0)=false):Xi l=false:=by
 have:l.all Wa=false:=by
  rw[List.all_eq_false];refine⟨l[k],List.getElem_mem h,?_⟩;simpa [AM h] using hd
 simp[Xi,this]
theorem Zuu(b:l.length≠0)(d:l.length<=20)(f:Xf (l.getD 0 0)=true)(hd:∀j,j<l.length->Wa (l.getD j 0)=true):Xi l=true:=by
 have:l.all Wa=true:=by
  rw[BG];intro c g;obtain⟨j,a,rfl⟩:=List.getElem_of_mem g;simpa [AM a] using hd j a
 unfold Xi;rw[this,f];simp[b,d]
def litN(l:List Nat):Nat × Nat :=
 if l.length<2 then (0,4)
 else if Mt (l.getD 1 0) then (if l.length<=2 then (0,4) else if l.getD 2 0=39 then (3,0) else (0,3))
 else if l.getD 1 0≠92 then (0,3)
 else if l.length<3 then (0,4)
 else if !Q1 (l.getD 2 0) then (0,3)
 else if l.length<=3 then (0,4) else if l.getD 3 0=39 then (4,0) else (0,3)
def H5(l:List Nat):Bool :=
 (decide (l.length=3)&&decide (l.getD 0 0=39)&&decide (l.getD 2 0=39)&&Mt (l.getD 1 0)) ||
 (decide (l.length=4)&&decide (l.getD 0 0=39)&&decide (l.getD 3 0=39)&&decide (l.getD 1 0=92)&&Q1 (l.getD 2 0))
theorem plain92:Mt 92=false:=AC
theorem litB_lit(l:List Nat):H5 l=(decide (l.getD 0 0=39)&&(decide ((litN l).2=0)&&decide ((litN l).1=l.length))):=by
 unfold H5 litN;generalize l.getD 0 0=f;generalize d:l.getD 1 0=a;generalize l.getD 2 0=c;generalize l.getD 3 0=g;generalize l.length=n;by_cases b:a=92
 ·subst b;rw[plain92];cases Q1 c <;> grind
 cases Mt a <;> grind
def Y8{α:Type}(p:α->Bool)(l:List α):Int:=match l.findIdx? p with | some i=>(i:Int) | none=>-1
theorem Q4{p:α->Bool}{l:List α}{k:Nat}{x:α}(a:l[k]? = some x)(d:p x=true)(h:∀j,j<k->∀y,l[j]? = some y->p y=false):Y8 p l=(k:Int):=by
 have b:k<l.length:=(AO.1 a).1;have:l.findIdx? p=some k:=by
  rw[List.findIdx?_eq_some_iff_getElem];refine⟨b,?_,λj c=>?_⟩
  ·have:l[k]=x:=by rw[AM b] at a;injection a
   rw[this];exact d
  have:=h j c l[j] (AM AA);simp[this]
 unfold Y8;rw[this]
theorem Jq{p:α->Bool}{l:List α}(h:∀(j:Nat) y,l[j]? = some y->p y=false):Y8 p l=-1:=by
 have:l.findIdx? p=none:=by
  rw[List.findIdx?_eq_none_iff];intro x b;obtain⟨j,a⟩:=BU b;exact h j x a
 unfold Y8;rw[this]
theorem U9(p:α->Bool)(l:List α):-1<=Y8 p l/\Y8 p l<l.length:=by
 unfold Y8;split
 ·rename_i i h;have:=(List.findIdx?_eq_some_iff_getElem.1 h).1;omega
 omega
theorem Ac{p:α->Bool}{l:List α}(h:Y8 p l<0):∀(j:Nat) y,l[j]? = some y->p y=false:=by
 intro j y b;unfold Y8 at h;split at h
 ·omega
 rename_i a;rw[List.findIdx?_eq_none_iff] at a;exact a y (AN b)
theorem Fb{p:α->Bool}{l:List α}{k:Nat}(h:Y8 p l=(k:Int)):∃x,l[k]? = some x/\p x=true/\∀j,j<k->∀y,l[j]? = some y->p y=false:=by
 unfold Y8 at h;split at h
 ·rename_i i hi;have:i=k:=AA
  subst this;obtain⟨b,c,d⟩:=List.findIdx?_eq_some_iff_getElem.1 hi;refine⟨_,AM b,c,λj f y a=>?_⟩;have:=d j f;rw[AM AA] at a;injection a with a;subst a;simpa using this
 omega
def Cg{α:Type}(p:Nat->α->Bool)(l:List α):Bool:=(List.range l.length).all λj=>match l[j]? with | some y=>p j y | none=>true
theorem Kc{p:Nat->α->Bool}{l:List α}(h:∀(j:Nat) y,l[j]? = some y->p j y=true):Cg p l=true:=by
 unfold Cg;rw[BG];intro j _;cases a:l[j]? with
 | none=>rfl
 | some y=>exact h j y a
theorem Bj{p:Nat->α->Bool}{l:List α}(h:Cg p l=true){y:α}(a:l[j]? = some y):p j y=true:=by
 unfold Cg at h;rw[BG] at h;have:=h j (by rw[BQ];exact (AO.1 a).1);rw[a] at this;exact this
theorem Lp{p:Nat->α->Bool}{l:List α}{y:α}(b:l[j]? = some y)(h:p j y=false):Cg p l=false:=by
 cases a:Cg p l
 ·rfl
 rw[Bj a b] at h;cases h
def Gr.has(G:Gr)(s:Int):Bool:=if 0<=s then decide (s<(G.terms.length:Int)) else decide (-1-s<(G.nons.length:Int))
def Gr.term(G:Gr)(s:ByteArray):Int:=Y8 (λt=>decide (t.name=s)) G.terms
def Gr.non(G:Gr)(s:ByteArray):Int:=Y8 (λt=>decide (t=s)) G.nons
def Qs(n:Int):List Trm->Int->Bool
 | [],way=>decide (way≠0)
 | t::ts,way=>if t.level=n then (if way≠0/\way≠t.assoc then false else Qs n ts t.assoc) else Qs n ts way
def J9(l:List Trm)(n:Int):Bool:=Qs n l 0
def Nc(l:List Trm)(t:Trm):Bool:=(List.range t.level.toNat).all λn=>J9 l ((n:Int)+1)
def Gr.symOK(G:Gr)(a:Int)(s:Int):Bool:=G.has s&&!(decide (0<=s)&&decide (a=-1))
def Gr.ruleOK(G:Gr)(r:Rul):Bool:=decide (r.right.length<=6)&&decide (-1<=r.prec/\r.prec<(G.terms.length:Int))&&r.right.all (G.symOK r.prec)
def Gr.leftsGo(G:Gr):List Rul->Int->Option Int
 | [],top=>some top
 | r::rs,top=>if 0<=r.left/\r.left<=top+1/\G.ruleOK r=true then G.leftsGo rs (max top r.left) else none
theorem Gr.leftsGo_snoc(G:Gr):∀(a:List Rul) (r:Rul) (top:Int),G.leftsGo (a++[r]) top=(G.leftsGo a top).bind λt=>if 0<=r.left/\r.left<=t+1/\G.ruleOK r=true then some (max t r.left) else none
 | [],r,top=>by simp[Gr.leftsGo]
 | q::a,r,top=>by
   rw[DM,Gr.leftsGo,Gr.leftsGo];split
   ·exact Gr.leftsGo_snoc G a r _
   rfl
theorem Gr.leftsGo_none(G:Gr)(a d:List Rul)(top:Int)(h:G.leftsGo a top=none):G.leftsGo (a++d) top=none:=by
 induction a generalizing top with
 | nil=>simp[Gr.leftsGo] at h
 | cons r a c =>
   rw[DM,Gr.leftsGo];rw[Gr.leftsGo] at h;split
   ·rename_i b;rw[if_pos b] at h;exact c _ h
   rfl
theorem Gr.leftsGo_bd(G:Gr):∀(a:List Rul) (top t:Int),-1<=top->G.leftsGo a top=some t->top<=t/\t<=top+a.length
 | [],top,t,h0,h=>by simp[Gr.leftsGo] at h;subst h;simp
 | r::a,top,t,h0,h=>by
   rw[Gr.leftsGo] at h;split at h
   ·rename_i b;have:=Gr.leftsGo_bd G a _ t AA h;simp only[AY];omega
   cases h
def Vl(l:List Trm)(L:Int):Int:=l.foldl (λa t=>if t.level=L then t.assoc else a) 0
theorem Nx(l:List Trm)(t:Trm)(L:Int):Vl (l++[t]) L=if t.level=L then t.assoc else Vl l L:=by simp[Vl]
def Dt(l:List Trm)(L:Int):Bool:=l.any λt=>decide (t.level=L)
theorem Kf(l:List Trm)(t:Trm)(L:Int):Dt (l++[t]) L=(Dt l L || decide (t.level=L)):=by simp[Dt]
def Zzt(l:List Trm):Nat:=(List.range 25).countP λ(n:Nat)=>decide (1<=n)&&Dt l (n:Int)
def J7(l:List Trm):Int:=l.foldl (λa t=>if t.level=0 then a else max a t.level) 0
theorem Dz(l:List Trm)(t:Trm):J7 (l++[t])=if t.level=0 then J7 l else max (J7 l) t.level:=by simp[J7]
def Fo(l:List Trm)(k:Nat)(t:Trm):Bool:=decide (t.level=0) || decide (Vl (l.take k) t.level=0) || decide (Vl (l.take k) t.level=t.assoc)
def consOK(l:List Trm):Bool:=Cg (Fo l) l
def Jh(l:List Trm):Bool:=consOK l&&decide ((Zzt l:Int)=J7 l)
theorem cntL_zero(l:List Trm)(t:Trm)(h:t.level=0):Zzt (l++[t])=Zzt l:=by
 unfold Zzt;congr 1;funext n;rw[Kf,h];by_cases a:1<=n
 ·have:decide ((0:Int)=(n:Int))=false:=AG
  rw[this];simp
 have:decide (1<=n)=false:=AG
 rw[this];simp
theorem topL_spec(l:List Trm)(j:∀t∈l,0<=t.level):(∀t∈l,t.level<=J7 l)/\0<=J7 l/\(J7 l=0\/∃t∈l,t.level=J7 l):=by
 have key:∀n (p:List Trm),p=l.take n->(∀t∈p,t.level<=J7 p)/\0<=J7 p/\(J7 p=0\/∃t∈p,t.level=J7 p):=by
  intro n
  induction n with
  | zero=>intro p c;rw[c];simp[J7]
  | succ n g =>
    intro p c;rw[c,Du];cases k:l[n]? with
    | none=>simpa using g _ rfl
    | some t =>
      obtain⟨f,m,b⟩:=g _ rfl;have q:=j t (AN k);simp only[Option.toList_some];rw[Dz];by_cases h:t.level=0
      ·rw[if_pos h];refine⟨λu a=>?_,m,?_⟩
       ·rw[DD,BP] at a;rcases a with a | rfl
        ·exact f u a
        omega
       rcases b with b | ⟨u,a,d⟩
       ·exact .inl b
       exact .inr ⟨u,List.mem_append_left _ a,d⟩
      rw[if_neg h];refine⟨λu a=>?_,AA,?_⟩
      ·rw[DD,BP] at a;rcases a with a | rfl
       ·have:=f u a;omega
       omega
      right;by_cases o:J7 (l.take n)<=t.level
      ·exact⟨t,AE,AA⟩
      rcases b with b | ⟨u,a,d⟩
      ·omega
      exact⟨u,List.mem_append_left _ a,AA⟩
 have:=key l.length l (by rw[AR (AJ _)]);exact this
theorem Zvl(l:List Trm)(L:Int)(b:∀t∈l,t.level=L->t.assoc≠0):Vl l L≠0↔Dt l L=true:=by
 have key:∀n,(Vl (l.take n) L≠0↔Dt (l.take n) L=true):=by
  intro n
  induction n with
  | zero=>simp[Vl,Dt]
  | succ n a =>
    rw[Du];cases c:l[n]? with
    | none=>simpa using a
    | some t =>
      simp only[Option.toList_some];rw[Nx,Kf];by_cases h:t.level=L
      ·rw[if_pos h];simp[h,b t (AN c) h]
      rw[if_neg h];simp only[h,decide_false,Bool.or_false];exact a
 have:=key l.length;rwa [AR (AJ _)] at this
theorem Ls(n:Int):∀(l p:List Trm),Qs n l (Vl p n)=true ↔
 (∀(k:Nat) t,l[k]? = some t->t.level=n->Vl (p++l.take k) n=0\/Vl (p++l.take k) n=t.assoc)/\Vl (p++l) n≠0
 | [],p=>by simp[Qs]
 | t::l,p=>by
   rw[Qs];by_cases h:t.level=n
   ·rw[if_pos h];have e:Vl (p++[t]) n=t.assoc:=by rw[Nx,if_pos h]
    by_cases g:Vl p n≠0/\Vl p n≠t.assoc
    ·rw[if_pos g];constructor
     ·intro h;cases h
     rintro⟨b,_⟩;have:=b 0 t rfl h;simp only[List.take_zero,DK] at this;rcases this with f | f
     ·exact absurd f g.1
     exact absurd f g.2
    rw[if_neg g,<-e,Ls n l (p++[t])];simp only[DX,DM,DA];constructor
    ·rintro⟨b,d⟩;refine⟨λk u a c=>?_,d⟩;cases k with
     | zero =>
       simp only[List.getElem?_cons_zero,BX] at a;subst a;simp only[List.take_zero,DK];by_cases j:Vl p n=0
       ·exact .inl j
       ·right;by_cases f:Vl p n=t.assoc
        ·exact f
        ·exact absurd ⟨j,f⟩ g
     | succ k =>
       rw[List.getElem?_cons_succ] at a;exact b k u a c
    rintro⟨b,d⟩;exact⟨λk u a c=>b (k+1) u (by rw[List.getElem?_cons_succ];exact a) c,d⟩
   rw[if_neg h];have e:Vl (p++[t]) n=Vl p n:=by rw[Nx,if_neg h]
   rw[<-e,Ls n l (p++[t])];simp only[DX,DM,DA];constructor
   ·rintro⟨b,d⟩;refine⟨λk u a c=>?_,d⟩;cases k with
    | zero =>
      simp only[List.getElem?_cons_zero,BX] at a;subst a;exact absurd c h
    | succ k =>
      rw[List.getElem?_cons_succ] at a;exact b k u a c
   rintro⟨b,d⟩;exact⟨λk u a c=>b (k+1) u (by rw[List.getElem?_cons_succ];exact a) c,d⟩
theorem Gf(l:List Trm)(n:Int):J9 l n=true↔(∀(k:Nat) t,l[k]? = some t->t.level=n->Vl (l.take k) n=0\/Vl (l.take k) n=t.assoc)/\Vl l n≠0:=by
 have:=Ls n l [];simpa [Vl,J9] using this
theorem Gr.lefts_all(G:Gr):∀(a:List Rul) (top t:Int),G.leftsGo a top=some t->top<=t/\∀r∈a,0<=r.left/\r.left<=t/\G.ruleOK r=true
 | [],top,t,h=>by simp[Gr.leftsGo] at h;subst h;simp
 | q::a,top,t,h=>by
   rw[Gr.leftsGo] at h;split at h
   ·rename_i c;obtain⟨f,d⟩:=Gr.lefts_all G a _ t h;refine⟨AA,λr b=>?_⟩;rcases BZ.1 b with rfl | b
    ·exact⟨c.1,AA,c.2.2⟩
    exact d r b
   cases h
def Qa(p:Rul->List Bool->Bool)(r:Rul)(N:List Bool):List Bool:=if p r N then N.set r.left.toNat true else N
def Xs(p:Rul->List Bool->Bool)(a:List Rul)(N:List Bool):List Bool:=a.foldl (λN r=>Qa p r N) N
theorem passN_snoc(p:Rul->List Bool->Bool)(a:List Rul)(r:Rul)(N:List Bool):Xs p (a++[r]) N=Qa p r (Xs p a N):=by simp[Xs]
def Fl(w:World)(g:Nat)(left:Int)(Ar:Option Addr)(a cr:Nat)(b:Int):Prop :=
 g<w.heap.size/\w.cell? ⟨g,0,none⟩=some (.int .i64 left)/\w.cell? ⟨g,1,none⟩=some (.slice Ar a cr)/\w.cell? ⟨g,2,none⟩=some (.int .i64 b)
def Zyw{α:Type}(g:FuncId)(a:Array Value)(enc:α->Value)(w:World)(xs:List α)(p:α->Bool):Prop :=
 ∀s∈xs,∀w',Below w.heap.size w w'->Calls Tryz.prog g (#[enc s]++a) w' λe b=>e = .returned (.bool (p s))/\Below w'.heap.size w' b
theorem Zvt(p:α->Bool)(l:List α):decide (0<=Y8 p l)=l.any p:=by
 rw[Cs,BA,Ep];constructor
 ·intro h;obtain⟨k,d⟩:∃k:Nat,Y8 p l=(k:Int):=⟨(Y8 p l).toNat,AA⟩;obtain⟨x,b,a,_⟩:=Fb d;exact⟨x,AN b,a⟩
 rintro⟨x,b,a⟩;have f:=(U9 p l).1;by_cases h:Y8 p l<0
 ·obtain⟨j,c⟩:=BU b;rw[Ac h j x c] at a;cases a
 omega
theorem Ya{l:List α}{k:Nat}{x:α}(h:l[k]? = some x):l.take (k+1)=l.take k++[x]:=by rw[Du,h];rfl
theorem Zq.part{k:IntKind}{w:World}{b d:Nat}(h:Zq k w (some ⟨b,d,none⟩) n c xs)(i m a:Nat)(t:i+m<=n)(g:m<=a)(l:a<=9223372036854775807):
 Zq k w (some ⟨b,d+i,none⟩) m a ((xs.drop i).take m):=by
 have s:=h.len;refine⟨by simp[nums];omega,g,l,λq=>?_⟩;simp[nums] at q;obtain⟨r,u,e,f,o⟩:=h.2.2.2 (by rw[Vw];omega);injection e with e;injection e with e1 e2;subst e1;subst e2;refine⟨b,d+i,rfl,f,λj p=>?_⟩;simp[nums] at p;rw[DZ,o (i+j) (by rw[Vw];omega)];simp[nums,El,DY];intro;omega
def Kk(xs:List Nat)(i:Nat):Nat:=i+1+((xs.drop (i+1)).takeWhile Wa).length
abbrev Tk:=Int × ByteArray
def Qy:List Tk->Int
 | []=>0
 | t::_=>t.1
def Zzj(G:Gr)(s:ByteArray):Option (Int × Gr) :=
 if 0<=G.term s then some (G.term s,G)
 else if G.terms.length=24 then none
 else some ((G.terms.length:Int),{ G with terms:=G.terms++[⟨s,0,0⟩] })
def Dp(cs:List Value)(ts:List Tk):Prop:=cs.length=ts.length*3/\∀(j:Nat) (t:Tk),ts[j]? = some t->cs[j*3+0]? = some (.int .i64 t.1)/\cs[j*3+1]? = some (.string t.2)/\∃x y,cs[j*3+2]? = some (.complex .f64 x y)
theorem Dp.nil:Dp [] []:=⟨rfl,λj t h=>by simp at h⟩
def Kq(w:World)(B:Nat)(A:Option Addr)(n c:Nat)(ts:List Tk):Prop :=
 ts.length=n/\n<=c/\c<=9223372036854775807/\(0<n->∃b a,A=some ⟨b,a,none⟩/\b<B/\b<w.heap.size/\∀(j:Nat) (t:Tk),ts[j]? = some t->
  w.cell? ⟨b,a+j*3,none⟩=some (.int .i64 t.1)/\w.cell? ⟨b,a+j*3+1,none⟩=some (.string t.2)/\∃x y,w.cell? ⟨b,a+j*3+2,none⟩=some (.complex .f64 x y))
theorem Kq.keep{w:World}{ts:List Tk}(h:Kq w B A n c ts)(q:w.heap.size<=w'.heap.size)(g:∀k,k<B->k<w.heap.size->w'.heap[k]? = w.heap[k]?):Kq w' B A n c ts:=by
 refine⟨h.1,h.2.1,h.2.2.1,λo=>?_⟩;obtain⟨b,f,e,d,l,m⟩:=h.2.2.2 o;refine⟨b,f,e,d,AA,λj t p=>?_⟩;rw[DH (a:=⟨b,f+j*3,none⟩) (g b d l),DH (a:=⟨b,f+j*3+1,none⟩) (g b d l),DH (a:=⟨b,f+j*3+2,none⟩) (g b d l)];exact m j t p
theorem Kq.wide{w:World}{a:Nat}{ts:List Tk}(h:Kq w B A n c ts)(l:w.heap.size<=a):Kq w a A n c ts:=by
 refine⟨h.1,h.2.1,h.2.2.1,λg=>?_⟩;obtain⟨b,j,e,k,f,d⟩:=h.2.2.2 g;exact⟨b,j,e,AA,f,d⟩
theorem Kq.head{w:World}{t:Tk}{ts:List Tk}(h:Kq w B A n c (t::ts)):
 ∃b a x y,A=some ⟨b,a,none⟩/\b<B/\b<w.heap.size/\w.cell? ⟨b,a,none⟩=some (.int .i64 t.1)/\w.cell? ⟨b,a+1,none⟩=some (.string t.2)/\w.cell? ⟨b,a+2,none⟩=some (.complex .f64 x y):=by
 have l:=h.1;simp only[AY] at l;obtain⟨b,a,e,j,m,k⟩:=h.2.2.2 AA;obtain⟨d,f,x,y,g⟩:=k 0 t rfl;simp only[Nat.zero_mul,DO] at d f g;exact⟨b,a,x,y,e,j,m,d,f,g⟩
theorem Kq.tail{w:World}{b a:Nat}{t:Tk}{ts:List Tk}(h:Kq w B (some ⟨b,a,none⟩) n c (t::ts)):
 Kq w B (if c=1 then some ⟨b,a,none⟩ else some ⟨b,a+3,none⟩) (n-1) (c-1) ts:=by
 have g:=h.1;have o:=h.2.1;have p:=h.2.2.1;simp only[AY] at g;refine⟨AA,AA,AA,λq=>?_⟩;obtain⟨m,r,e,d,k,f⟩:=h.2.2.2 AA;injection e with e;injection e with e1 e2;subst e1;subst e2;refine⟨b,a+3,by rw[if_neg AA],d,k,λj u l=>?_⟩;have:=f (j+1) u (by simpa using l);rw[show a+(j+1)*3=a+3+j*3 by omega] at this;exact this
theorem own_toks{w:World}{ts:List Tk}(h:w.ownsRow base e 3 (.slice A n c) n cs)(m:Dp cs ts):Kq w w A n c ts:=by
 have k:ts.length=n:=by have:=h.1;have:=m.1;omega
 rcases h.2 with ⟨l,rfl⟩ | ⟨g,cap,u,l,v,o,s,q,z,D⟩
 ·injection l with a f h3;subst a;subst h3;exact⟨k,AJ _,AA,λd=>absurd d AA⟩
 injection l with a f h3;subst a;subst h3;have b:g<w.heap.size:=by
  rcases BD g w with b | r
  ·exact b
  rw[CZ r] at o;cases o
 refine⟨k,s,by simpa [maxLen] using q,λC=>⟨g,0,rfl,b,b,λj t p=>?_⟩⟩;have B:j<n:=by rw[<-k];exact (AO.1 p).1
 obtain⟨d,a,x,y,f⟩:=m.2 j t p;refine⟨?_,?_,x,y,?_⟩
 ·rw[BF,h.cellAt (j*3) AA];exact d
 ·rw[BF,h.cellAt (j*3+1) AA];exact a
 rw[BF,h.cellAt (j*3+2) AA];exact f
def Rfs(w:World)(A:Option Addr)(n c:Nat)(ss:List ByteArray):Prop :=
 ss.length=n/\n<=c/\c<=9223372036854775807/\(0<n->∃b a,A=some ⟨b,a,none⟩/\b<w.heap.size/\∀(j:Nat) (s:ByteArray),ss[j]? = some s->
  w.cell? ⟨b,a+j*2,none⟩=some (.string s)/\∃x y,w.cell? ⟨b,a+j*2+1,none⟩=some (.complex .f64 x y))
theorem Rfs.keep{w:World}(h:Rfs w A n c ss)(o:w.heap.size<=w'.heap.size)(f:∀b d,A=some ⟨b,d,none⟩->b<w.heap.size->w'.heap[b]? = w.heap[b]?):Rfs w' A n c ss:=by
 refine⟨h.1,h.2.1,h.2.2.1,λl=>?_⟩;obtain⟨b,d,e,g,k⟩:=h.2.2.2 l;refine⟨b,d,e,AA,λj t m=>?_⟩;rw[DH (a:=⟨b,d+j*2,none⟩) (f b d e g),DH (a:=⟨b,d+j*2+1,none⟩) (f b d e g)];exact k j t m
theorem Wv{w:World}{size:Nat}{xs:List Value}(h:w.ownsRow base e size (.slice A n c) n xs)(m:∀b,(Value.slice A n c).ownBlock=some b->b<w.heap.size->w'.heap[b]? = w.heap[b]?):w'.ownsRow base e size (.slice A n c) n xs:=by
 refine⟨h.1,?_⟩;rcases h.2 with o | ⟨g,cap,j,f,k,a,rest⟩
 ·exact .inl o
 refine .inr ⟨g,cap,j,f,k,?_,rest⟩;have d:g<w.heap.size:=by
  rcases BD g w with d | l
  ·exact d
  rw[CZ l] at a;cases a
 rw[m g (by rw[f];rfl) d];exact a
def V8(ts:List Trm):List Value:=ts.flatMap λt=>[.string t.name,.int .i64 t.level,.int .i64 t.assoc]
theorem trmCs_snoc(ts:List Trm)(t:Trm):V8 (ts++[t])=V8 ts++[.string t.name,.int .i64 t.level,.int .i64 t.assoc]:=by simp[V8]
theorem Ff(ts:List Trm):(V8 ts).length=ts.length*3:=by
 induction ts with
 | nil=>rfl
 | cons t ts a=>rw[show V8 (t::ts)=[.string t.name,.int .i64 t.level,.int .i64 t.assoc]++V8 ts from rfl,AV,a];simp;omega
theorem ints_keep{k:IntKind}{w:World}(h:Za k w A n c f)(q:w.heap.size<=w'.heap.size)(o:∀b d,A=some ⟨b,d,none⟩->b<w.heap.size->w'.heap[b]? = w.heap[b]?):Za k w' A n c f:=by
 refine⟨h.1,h.2.1,h.2.2.1,λp=>?_⟩;obtain⟨b,d,e,g,l⟩:=h.2.2.2 p;refine⟨b,d,e,AA,λj m=>?_⟩;rw[DH (a:=⟨b,d+j,none⟩) (o b d e g)];exact l j m
def isP(a b:Int):List Tk->Bool
 | []=>false
 | t::_=>decide (t.1=a) || decide (t.1=b)
theorem M5{w:World}{size:Nat}{xs:List Value}(h:w.ownsRow base e size (.slice A n c) n xs)(a:Below w w w'):w'.ownsRow base e size (.slice A n c) n xs:=Wv h λb _ d=>a.block b d
theorem Lf{ts:List Tk}{k:Int}(h:Qy ts=k)(b:k≠0):∃u a,ts=u::a/\u.1=k:=by
 cases ts with
 | nil=>exact absurd h.symm b
 | cons u a=>exact⟨u,a,rfl,h⟩
def toI(o:List Nat)(i:Nat):Int:=Y8 (λx=>decide (x=i)) o
theorem Fw(h:i∉o):toI o i=-1:=by
 unfold toI;refine Jq λj y a=>?_;rw[AZ];rintro rfl;exact h (AN a)
theorem Bx:toI o i<0↔i∉o:=by
 constructor
 ·intro h hi;obtain⟨k,a⟩:=BU hi;have:=Ac (p:=λx=>decide (x=i)) h k i a;simp at this
 intro h;rw[Fw h];decide
theorem Df(o:List Nat)(i:Nat):-1<=toI o i/\toI o i<o.length:=U9 _ o
theorem Zx2(o:List Nat)(l:j≠i):toI (o++[i]) j=toI o j:=by
 by_cases a:j∈o
 ·unfold toI;obtain⟨k,b⟩:∃k:Nat,Y8 (λx=>decide (x=j)) o=(k:Int):=by
   have h1:=Df o j;have f:¬toI o j<0:=λh=>Bx.1 h a;unfold toI at h1 f;exact⟨(Y8 (λx=>decide (x=j)) o).toNat,AA⟩
  obtain⟨x,c,n,g⟩:=Fb b;rw[b];have m:=(AO.1 c).1;refine Q4 (x:=x) (by rw[DB m];exact c) n λq p y d=>?_;rw[DB AA] at d;exact g q p y d
 rw[Fw a,Fw];rw[DD,BP];rintro (h | h)
 ·exact a h
 exact l h
def Ws(G:Gr)(i:Nat):ByteArray:=(G.nons[i]?).getD ByteArray.empty
structure Off (S:Nat->Prop) (w w':World):Prop where
 os:w'.os=w.os
 tape:w'.tape=w.tape
 output:w'.output=w.output
 size:w.heap.size<=w'.heap.size
 keep:∀k,k<w.heap.size->¬S k->w'.heap[k]? = w.heap[k]?
theorem Off.of_grown{w:World}(h:w.grownBy w' r):Off (λk=>r=some k) w w':=⟨h.os,h.tape,h.output,h.size,λk a b=>h.block k a λe=>b e.symm⟩
theorem Off.of_set(w:World)(g i:Nat)(v:Value):Off (λk=>k=g) w (w.setCell ⟨g,i,none⟩ v):=⟨rfl,rfl,rfl,AE,λk _ a=>Eb w ⟨g,i,none⟩ v k a⟩
def toL(n:Nat)(o:List Nat):List Int:=(List.range n).map λi=>toI o i
theorem Cd(n:Nat)(o:List Nat):(toL n o).length=n:=by simp[toL]
theorem Ji(hi:i<n):(toL n o)[i]? = some (toI o i):=by simp[toL,hi]
theorem Zsp(h:i∉o):toI (o++[i]) i=(o.length:Int):=by
 unfold toI;refine Q4 (x:=i) AE AE λj b y a=>?_;rw[DB b] at a;rw[AZ];rintro rfl;exact h (AN a)
theorem toL_nil(n:Nat):toL n []=List.replicate n (-1):=by
 refine List.ext_getElem? λj=>?_;rw[List.getElem?_replicate];by_cases a:j<n
 ·rw[Ji a,if_pos a,Fw AE]
 rw[BE (by rw[Cd];omega),if_neg a]
theorem Zuz(ts:List Trm):∀u∈V8 ts,u.oneCell'=true:=by
 intro u a;unfold V8 at a;rw[List.mem_flatMap] at a;obtain⟨t,_,b⟩:=a;simp only[BZ,Ea,or_false] at b;rcases b with rfl | rfl | rfl <;> rfl
open Classical in
noncomputable def eqG(A B:Gr):Bool:=decide (A=B)
theorem Ztp{A B:Gr}:eqG A B=true↔A=B:=by unfold eqG;simp
theorem eqG_no{A B:Gr}(h:A≠B):eqG A B=false:=by
 cases a:eqG A B
 ·rfl
 exact absurd (Ztp.1 a) h
theorem H7{G:Gr}{s:Int}(h:G.has s=true):-(G.nons.length:Int)<=s/\s<(G.terms.length:Int)\/(0<=s/\s<(G.terms.length:Int))\/(s<0/\-(G.nons.length:Int)<=s):=by
 unfold Gr.has at h;split at h
 ·rename_i h0;exact .inr (.inl ⟨h0,DI h⟩)
 have:=DI h;exact .inr (.inr ⟨AA,AA⟩)
def g0:Gr:=⟨[],[],[],0⟩
def Xt:Gr:=⟨[⟨⟨#[39,97,39]⟩,0,0⟩],[⟨#[115]⟩],[⟨0,[-1,-1],-1⟩,⟨0,[0],0⟩],0⟩
theorem Bs(j:Nat)(h:j<Lib.len8tab.size):(Lib.len8tab[j]'h).toNat=Lib.bitLen j:=by
 have a:j<256:=by rw[<-Lib.len8tab_size];exact h
 have:=Lib.len8_of (j:Int) AA AA;unfold Lib.len8 at this;simp only[DC] at this;rw[getElem?_pos Lib.len8tab j h,Option.getD_some] at this;omega
theorem Zrz(k:IntKind)(xs:List Nat)(j:Nat)(u:Value)(h:(nums k xs)[j]? = some u):∃x,xs[j]? = some x/\u = .int k (x:Int):=by
 simp only[nums,BB,Option.map_eq_some_iff] at h;obtain⟨x,a,rfl⟩:=h;exact⟨x,a,rfl⟩
theorem Zq2(k:IntKind)(xs:List Nat):∀u∈nums k xs,u.oneCell'=true:=by
 intro u a;simp only[nums,CW] at a;obtain⟨x,_,rfl⟩:=a;rfl
def RetOwn(w:World)(a:List Nat)(e:Ending)(w':World):Prop :=
 ∃A c,e = .returned (.slice A a.length c)/\w'.ownsRow w.heap.size 41 1 (.slice A a.length c) a.length (nums .u32 a)/\Below w.heap.size w w'
theorem Zq.sl{k:IntKind}{w:World}(h:Zq k w A n c xs):Sl w A n c (nums k xs):=h
@[irreducible] def RetNew (w:World) (a:List Nat) (e:Ending) (w':World):Prop :=
  ∃A c,e = .returned (.slice A a.length c)/\Zq .u32 w' A a.length c a/\Below w.heap.size w w'/\(∀b d,A=some ⟨b,d,none⟩->w.heap.size<=b)
@[irreducible] def RetQuo (w:World) (p:List Nat × List Nat × Nat) (e:Ending) (w':World):Prop :=
  ∃A c a b,e = .returned (.tuple #[.slice A p.1.length c,.slice a p.2.1.length b,.int .i64 (p.2.2:Int)])/\Zq .u32 w' A p.1.length c p.1/\Zq .u32 w' a p.2.1.length b p.2.1/\Below w.heap.size w w'
@[irreducible] def RetDraw (w:World) (p:List Nat × Nat × Nat) (e:Ending) (w':World):Prop :=
  ∃A c,e = .returned (.tuple #[.slice A p.1.length c,.int .i64 (p.2.1:Int),.int .i64 (p.2.2:Int)])/\Zq .u32 w' A p.1.length c p.1/\Below w.heap.size w w'
section
variable {P:Program} {w:World}
theorem Yl{xs:List Value}(h:w.ownsRow base e 1 (.slice A n c) n xs):Sl w A n c xs:=by
 have d:xs.length=n:=by simpa using h.1
 rcases h.2 with ⟨a,rfl⟩ | ⟨g,cap,o,a,p,b,m,f,q,t⟩
 ·simp at a;obtain⟨rfl,rfl⟩:=a;obtain rfl:=BJ d;exact Sl.nil _ _ _ AE
 injection a with h1 h2 h3;subst h1;subst h3;refine⟨d,m,by simpa [maxLen] using f,λs=>⟨g,0,rfl,?_,λj r=>?_⟩⟩
 ·rcases BD g w with l | k
  ·exact l
  rw[CZ k] at b;cases b
 have:=h.cellAt (e:=e) (size:=1) j AA;simpa using this
theorem Gh{xs:List Value}(h:w.ownsRow base e 1 (.slice A n c) n xs)(o:j<n):
 ∃g u,A=some ⟨g,0,none⟩/\base<=g/\g<w.heap.size/\Hid (xs[j]? = some u)/\w.cell? ⟨g,j,none⟩=some u/\w.frozen? ⟨g,j,none⟩=false:=by
 have p:xs.length=n:=by simpa using h.1
 rcases h.2 with ⟨b,rfl⟩ | ⟨g,cap,m,b,f,a,_⟩
 ·omega
 injection b with h1 h2 h3;subst h1;subst h3;have d:xs[j]? = some (xs[j]' AA):=AM AA;refine⟨g,xs[j]' AA,rfl,f,?_,LH d,?_,h.frozenAt j⟩
 ·rcases BD g w with l | k
  ·exact l
  rw[CZ k] at a;cases a
 rw[h.cellAt j AA,d]
theorem B7{xs:List Value}(h:w.ownsRow base e 1 (.slice A n c) n xs)(f:Below w w w'):
 w'.ownsRow base e 1 (.slice A n c) n xs:=by
 refine⟨h.1,?_⟩;rcases h.2 with l | ⟨g,cap,d,m,j,a,rest⟩
 ·exact .inl l
 refine .inr ⟨g,cap,d,m,j,?_,rest⟩;have b:g<w.heap.size:=by
  rcases BD g w with b | k
  ·exact b
  rw[CZ k] at a;cases a
 exact (f.block g b).trans a
theorem Zt0(w:World)(e:TypeId)(n:Nat)(xs:List Value)(a:xs.length=n)(b:n<=9223372036854775807):
 (w.alloc (.cells xs.toArray e)).ownsRow w e 1 (.slice (some ⟨w,0,none⟩) n n) n xs:=by
 have:=World.ownsRow_lit (base:=w.heap.size) (e:=e) (size:=1) w xs.toArray n (AJ _) (by simpa [maxLen] using b) (by simp[a]);simpa using this
end
theorem N6(w:World)(t:TypeId)(a:List Value)(n:Nat)(arr:Array Value)(h:arr=a.toArray)(b:a.length=n)(c:n<=1000000):Sl (w.alloc (.cells arr t)) (some ⟨w,0,none⟩) n n a:=by
 subst h;have:=World.ownsRow_lit (base:=w.heap.size) (e:=t) (size:=1) w a.toArray n (AJ _) (by simp[maxLen];omega) (by simp[b]);simpa using Yl this
theorem Ztd(w:World)(t:TypeId)(x:Int):Za .i64 (w.alloc (.cells #[.int .i64 x] t)) (some ⟨w,0,none⟩) 1 1 [x]:=by
 have:=Yl (Zt0 w t 1 [.int .i64 x] rfl AA);exact this
section
open Go.ChangeShapes Go.WideShapes Go.ChangeAt Go.RowKit
open Ieee
def Zh(s:ByteArray):List Nat:=s.data.toList.map UInt8.toNat
theorem Qh(s:ByteArray):(Zh s).length=s.size:=by simp[Zh]
theorem J0(s:ByteArray)(k:Nat)(h:k<s.size):(Zh s)[k]? = some s[k].toNat:=by
 simp only[Zh,BB];rw[AM (by simpa using h)];rfl
theorem bytesOf_lt(s:ByteArray):∀c∈Zh s,c<256:=by
 intro c a;simp only[Zh,CW] at a;obtain⟨b,_,rfl⟩:=a;exact b.toNat_lt
theorem Zz8(s:ByteArray)(h:0<s.size):s.toList.isEmpty=false/\¬s.toList=[]:=by
 have e:s.toList=s.data.toList:=ByteArray.toList_eq s;have a:s.data.toList.length=s.size:=AE
 constructor
 ·rw[e,List.isEmpty_eq_false_iff];intro b;rw[b] at a;simp at a;omega
 rw[e];intro b;rw[b] at a;simp at a;omega
theorem Cp(s:ByteArray)(h:s.size=0):s.toList=[]:=by
 have e:s.toList=s.data.toList:=ByteArray.toList_eq s;have a:s.data.toList.length=s.size:=AE
 rw[e];exact BJ AA
end
theorem bytesWorld_nums(w:World)(e:TypeId)(s:ByteArray)(d:s.size<=maxLen):
 Zq .u8 (Lib.bytesWorld w e s) (some ⟨w,0,none⟩) s.size (grownCap w s.size 0 e) (Zh s):=by
 refine⟨by simp[nums,Qh],grownCap_ge w _ _ _,by simpa [maxLen] using grownCap_le_maxLen w s.size 0 e d,λ_=>⟨_,_,rfl,by rw[Lib.bytesWorld_size];omega,λj c=>?_⟩⟩;have a:j<s.size:=by simpa [nums,Qh] using c
 rw[BF,Lib.bytesWorld_cell w e s j a];have b:=J0 s j a;simp only[nums,BB,b,Ek];congr 2;rw[AP,AM (by simpa using a)];rfl
def Q7(s:ByteArray):Bool:=Xi (Zh s) || H5 (Zh s)
def Up(t:Trm):Bool:=Q7 t.name&&decide (0<=t.level/\t.level<=24)&&decide (0<=t.assoc/\t.assoc<=3)&&(decide (t.level=0)==decide (t.assoc=0))
def Gr.termOK(G:Gr)(i:Nat)(t:Trm):Bool:=decide (G.term t.name=(i:Int))&&Up t&&Nc G.terms t
def Gr.termsOK(G:Gr):Bool:=decide (G.terms.length<=24)&&Cg G.termOK G.terms
def Gr.nonOK(G:Gr)(i:Nat)(s:ByteArray):Bool:=Xi (Zh s)&&decide (G.non s=(i:Int))&&decide (G.term s<0)
def Gr.nonsOK(G:Gr):Bool:=decide (1<=G.nons.length/\G.nons.length<=16)&&Cg G.nonOK G.nons
def Gr.right(G:Gr):Bool :=
 G.termsOK&&G.nonsOK&&decide (1<=G.rules.length/\G.rules.length<=40)&&decide (0<=G.start/\G.start<(G.nons.length:Int))&&decide (G.leftsGo G.rules (-1)=some ((G.nons.length:Int)-1))
def Gr.great(G:Gr):Bool:=decide (40<G.terms.length) || decide (40<G.nons.length) || decide (60<G.rules.length) || G.rules.any λr=>decide (20<r.right.length)
theorem Kp{t:Trm}(h:Up t=true):Q7 t.name=true/\0<=t.level/\t.level<=24/\0<=t.assoc/\t.assoc<=3/\(t.level=0↔t.assoc=0):=by
 simp[Up] at h;obtain⟨⟨⟨a,b,c⟩,d,f⟩,k⟩:=h;refine⟨a,b,c,d,f,?_⟩;by_cases g:t.level=0 <;> by_cases j:t.assoc=0 <;> simp_all
structure Gr.Fits (G:Gr):Prop where
 n1:G.terms.length<=24
 n2:1<=G.nons.length/\G.nons.length<=16
 n3:1<=G.rules.length/\G.rules.length<=40
 st:0<=G.start/\G.start<(G.nons.length:Int)
 left:∀r∈G.rules,0<=r.left/\r.left<(G.nons.length:Int)
 len:∀r∈G.rules,r.right.length<=6
 sym:∀r∈G.rules,∀s∈r.right,-(G.nons.length:Int)<=s/\s<(G.terms.length:Int)
theorem Gr.fits{G:Gr}(h:G.right=true):G.Fits:=by
 unfold Gr.right Gr.termsOK Gr.nonsOK at h;simp only[AU,decide_eq_true_eq] at h;obtain⟨⟨⟨⟨⟨c,_⟩,d,_⟩,f⟩,g⟩,j⟩:=h;obtain⟨_,b⟩:=G.lefts_all _ _ _ j;refine⟨c,d,f,g,λr a=>⟨(b r a).1,by have:=(b r a).2.1;omega⟩,λr a=>?_,λr a s k=>?_⟩
 ·have:=(b r a).2.2;unfold Gr.ruleOK at this;simp at this;exact this.1.1
 have:=(b r a).2.2;unfold Gr.ruleOK at this;simp only[AU,BG] at this;have:=this.2 s k;unfold Gr.symOK Gr.has at this;rw[AU] at this;have:=this.1;split at this <;> simp at this <;> omega
theorem Gr.Fits.symB{G:Gr}(F:G.Fits){r:Rul}(a:r∈G.rules):∀s∈r.right,-(G.nons.length:Int)<=s/\s<=1000:=λs b=>by
 have:=F.sym r a s b;have:=F.n1;omega
def Kz(w:World)(c:Nat->Prop)(cs:List Value)(a:List Rul):Prop:=cs.length=a.length*3/\∀(j:Nat) (r:Rul),a[j]? = some r->∃Ar cr,
 cs[j*3+0]? = some (.int .i64 r.left)/\cs[j*3+1]? = some (.slice Ar r.right.length cr)/\cs[j*3+2]? = some (.int .i64 r.prec)/\Za .i64 w Ar r.right.length cr r.right/\∀b d,Ar=some ⟨b,d,none⟩->b<w.heap.size/\c b
theorem Cn{w:World}{o:List Rul}(h:w.ownsRow base e 3 (.slice A n c) n cs)(p:Kz w s cs o):Dv w A n c o:=by
 have k:o.length=n:=by have:=h.1;have:=p.1;omega
 rcases h.2 with ⟨m,rfl⟩ | ⟨g,cap,y,m,z,q,x,u,B,E⟩
 ·injection m with a f b;subst a;subst b;exact⟨k,AJ _,AA,λd=>absurd d AA⟩
 injection m with a f b;subst a;subst b;have l:g<w.heap.size:=by
  rcases BD g w with l | v
  ·exact l
  rw[CZ v] at q;cases q
 refine⟨k,x,by simpa [maxLen] using u,λD=>⟨g,0,rfl,l,λj t r=>?_⟩⟩;have C:j<n:=by rw[<-k];exact (AO.1 r).1
 obtain⟨Ar,cr,d,a,f,b,_⟩:=p.2 j t r;refine⟨Ar,cr,?_,?_,?_,b⟩
 ·rw[BF,h.cellAt (j*3) AA];exact d
 ·rw[BF,h.cellAt (j*3+1) AA];exact a
 rw[BF,h.cellAt (j*3+2) AA];exact f
theorem terms_same{G H:Gr}(h:H.terms=G.terms):H.termsOK=G.termsOK:=by
 unfold Gr.termsOK;have:H.termOK=G.termOK:=by
  funext i t;unfold Gr.termOK Gr.term;rw[h]
 rw[this,h]
def rulB(a b:Rul):Bool:=(a.left==b.left)&&((a.prec==b.prec)&&(a.right==b.right))
theorem Zwu{a b:Rul}:rulB a b=true↔a=b:=by
 obtain⟨x,y,z⟩:=a;obtain⟨f,g,z'⟩:=b;unfold rulB;rw[AU,AU,BW,BW,BW];constructor
 ·rintro⟨h1,c,d⟩;simp only at h1 c d;rw[h1,c,d]
 intro h;injection h with h1 c d;exact⟨h1,d,c⟩
theorem Zxf:Xt.right=true:=AB
section
open Go.RowKit Go.Shelf
attribute [local go_sem] Oper.semAt_some
theorem take_snocB(a:List ByteArray)(k:Nat)(s:ByteArray)(h:a[k]? = some s):a.take (k+1)=a.take k++[s]:=by
 rw[Du,h];rfl
theorem values1_in(n:Nat)(O:1<=n)(l o m b f cap:Nat)(a:List ByteArray)(P:a.length<=1000)(D:b<m)(J r:List ByteArray->World->Prop)(C:∀c x W,J c W->c.length<a.length->YieldAt Fence.wide (n-1) prog l #[.string x] W λe d =>
   (e = .returned (.bool true)/\J (c++[x]) d/\Below m W d)\/(e = .returned (.bool false)/\r (c++[x]) d))(W:World)(I:W.cell? ⟨o,0,none⟩=some (.slice (some ⟨b,f,none⟩) a.length cap))(L:a.length<=cap/\cap<=9223372036854775807)(t:∀j s,a[j]? = some s->W.cell? ⟨b,f+j,none⟩=some (.string s))(y:J [] W):
 CallsIn Fence.wide n prog 193 #[.func (.yield l) #[] #[],.pointer (some ⟨o,0,none⟩)] W λe d=>(∃v,e = .returned v) /\
  ((∃ys,ys=a/\J ys d)\/(∃c,c <+: a/\r c d)):=by
 refine callsIn_of_wp func193 rfl trivial ?_ rfl;simp only[ntmps193,List.size_toArray,AY,DE,Nat.reduceAdd,Nat.reduceSub,Array.replicate_succ,Array.replicate_zero,List.push_toArray,List.append_toArray,DA,DM]
 gi_wp2
 gi_loopw [4,7] (λ_ i wr=>∃k:Nat,k<=a.length/\i = .int .i64 k/\J (a.take k) wr/\Below m W wr)
  (λ_ i _=>a.length-(intOf i).toNat)
 case atStart=>exact⟨0,AS _,rfl,by simpa using y,AL _ _⟩
 obtain⟨k,N,rfl,g,u⟩:=hrel;by_cases G:k<a.length
 ·obtain⟨s,h⟩:∃s,a[k]? = some s:=⟨_,AM G⟩;have M:wr.cell? ⟨b,f+k,none⟩=some (.string s):=(u.cell (p:=⟨b,f+k,none⟩) D).trans (t k s h);have F:(a.take k).length=k:=by rw[BS];omega
  obtain⟨H,tmps,assign,body,R,B⟩:=C _ s wr g AA;have q:=LH (take_snocB a k s h);clear t h F
  gi_wp2
  refine B.mono ?_;rintro e W3 (⟨rfl,z,E⟩ | ⟨rfl,A⟩)
  ·gi_wp2
   go_roundw
   case rel=>exact⟨k+1,AA,AE,by rw[q];exact z,u.trans E⟩
   simp[intOf];omega
  gi_wp2
  refine AW (results_none rfl _ _ _) rfl ?_;exact⟨⟨_,rfl⟩,.inr ⟨_,by rw[<-q];exact List.take_prefix _ _,A⟩⟩
 obtain rfl:k=a.length:=AA
 gi_wp2
 go_end0
 exact⟨⟨_,rfl⟩,.inl ⟨_,rfl,by rw[AR (AJ _)] at g;exact g⟩⟩
theorem values_in(A:Option Addr)(L cap:Nat)(w:World):
 Calls prog 142 #[.slice A L cap] w λe w' =>
  e = .returned (.func (.func 193) #[] #[.pointer (some ⟨w,0,none⟩)]) /\
  w'=w.alloc (.cells #[.slice A L cap] 23):=by
 go_enter func142,ntmps142;go_wp2;go_ret;exact⟨rfl,rfl⟩
theorem drewN_grownBy(w:World)(m:Nat):w.grownBy (w.drewN m) none:=⟨rfl,rfl,rfl,AJ _,λ_ _ _=>rfl⟩
end
section
open Go.RowKit Go.Shelf
attribute [local go_sem] Oper.semAt_some
open Go.RowKit Go.Shelf Go.Sort
structure Ext (w:World) where
 tw:World
 below:Below w.heap.size w tw
instance instExt (w:World):Inhabited (Ext w):=⟨⟨w,Below.refl _ _⟩⟩
def bl(w:World)(x:Ext w):World:=x.tw
theorem Zs{P:Program}{id:Nat}{Q:Exit->Act->World->Prop}{a:Act}{w:World}{l:List Oper}(d:P.follows .mixedOrders=true)(c:Region.lexB .any l.toArray=true)
 (h:wpQuiet P l.toArray (λw'=>∃x,w'=bl w x) (λb=>∀w',(∃x,w'=bl w x)->Q .normal b w') l a):(Code.region id l.toArray true).wp P Q a w :=
 wp_region_quiet (C:=λw'=>∃x,w'=bl w x) d c ⟨⟨_,(Below.refl w.heap.size w).drew⟩,rfl⟩ (by simpa using h)
theorem Qo{P:Program}{f:FuncId}{w:World}{x:Ext w}(h:Calls P f args (bl w x) λe w'=>e = .returned v/\bl w x=w'):Calls P f args (bl w x) λe a=>e = .returned v/\∃y,a=bl w y :=
 h.mono λ_ a ⟨c,b⟩=>⟨c,x,b.symm⟩
theorem Wg(w:World)(t:TypeId)(cs:Array Value)(j:Nat):(w.alloc (.cells cs t)).cell? ⟨w,j,none⟩=cs[j]? := by
 rw[World.cell?_alloc_mark]
theorem Zl(w:World)(o:Obj):(w.alloc o).heap.size=w.heap.size+1:=AE
theorem Jd{w1:World}(a:Below W W w1):(∀b o,b<W.heap.size->w1.cell? ⟨b,o,none⟩=W.cell? ⟨b,o,none⟩)/\(∀b o,b<W.heap.size->w1.frozen? ⟨b,o,none⟩=W.frozen? ⟨b,o,none⟩) :=
 ⟨λb o h=>a.cell (p:=⟨b,o,none⟩) h,λb o h=>a.frozen (p:=⟨b,o,none⟩) h⟩
end
section
open Go.RowKit Go.Maps
structure Ways (D:DataW Unit) (p:List Trm):Prop where
 tidy:Tidy D
 at_:∀L:Int,1<=L->D.atKey (.int .i64 L) (.lit (.int .i64 0)) = .lit (.int .i64 (Vl p L))
 has_:∀L:Int,1<=L->has D (.int .i64 L)=Dt p L
 size_:Maps.size D=Zzt p
theorem Ways.start:Ways (.map []) []:=⟨tidy_empty,λL _=>rfl,λL _=>rfl,rfl⟩
def H0(l:List Trm):Bool:=l.all Up&&(decide (l.length<=24)&&Jh l)
theorem Zwh{β:Type}(f:β->ByteArray)(l:List β):(l.map f).Nodup↔∀(i:Nat) x,l[i]? = some x->Y8 (λy=>decide (f y=f x)) l=(i:Int):=by
 constructor
 ·intro p i x b;refine Q4 b AE λj a y g=>?_;rw[AZ];intro c;have:=List.pairwise_iff_getElem.1 p j i (by rw[BI];exact (AO.1 g).1) (by rw[BI];exact (AO.1 b).1) a;rw[List.getElem_map,List.getElem_map] at this;obtain⟨d,k⟩:=AO.1 g;obtain⟨q,m⟩:=AO.1 b;rw[k,m] at this;exact this c
 intro h;refine List.pairwise_iff_getElem.2 λi j hi a n=>?_;rw[BI] at hi a;rw[List.getElem_map,List.getElem_map];intro c;have d:=h j l[j] (AM a);obtain⟨x,b,r,o⟩:=Fb d;have:=o i n l[i] (AM hi);simp[c] at this
theorem Zs2{p:α->Bool}{l:List α}:Y8 p l<0↔∀x∈l,p x=false:=by
 constructor
 ·intro h x b;obtain⟨j,a⟩:=BU b;exact Ac h j x a
 intro h;rw[Jq λj y c=>h y (AN c)];omega
theorem allI_iff{p:Nat->α->Bool}{l:List α}:Cg p l=true↔∀(j:Nat) y,l[j]? = some y->p j y=true:=⟨λh j y a=>Bj h a,Kc⟩
def Gr.names(G:Gr):List ByteArray:=G.nons++G.terms.map Trm.name
theorem names_nodup(G:Gr):G.names.Nodup↔(∀(i:Nat) s,G.nons[i]? = some s->G.non s=(i:Int)/\G.term s<0)/\∀(i:Nat) t,G.terms[i]? = some t->G.term t.name=(i:Int):=by
 unfold Gr.names;rw[List.nodup_append];have g:=Zwh id G.nons;have h:=Zwh Trm.name G.terms;rw[List.map_id] at g;rw[g,h];constructor
 ·rintro⟨b,c,j⟩;refine⟨λi s a=>⟨b i s a,Zs2.2 λt f=>?_⟩,c⟩;rw[AZ];intro d;exact j s (AN a) t.name (List.mem_map_of_mem f) d.symm
 rintro⟨b,c⟩;refine⟨λi s a=>(b i s a).1,c,λs a n k d=>?_⟩;obtain⟨t,f,rfl⟩:=CW.1 k;obtain⟨i,hi⟩:=BU a;have:=Zs2.1 (b i s hi).2 t f;simp[d] at this
theorem names_take(G:Gr){k:Nat}{t:Trm}(a:G.terms[k]? = some t):(G.nons++(G.terms.take (k+1)).map Trm.name).map Value.string=(G.nons++(G.terms.take k).map Trm.name).map Value.string++[.string t.name]:=by
 rw[Du,a];simp
theorem Zc{a b c:World}(h:a.grownBy b r)(k:b.grownBy c r):a.grownBy c r :=
 ⟨k.os.trans h.os,k.tape.trans h.tape,k.output.trans h.output,BC h.size k.size,λi hi d=>(k.block i (AK hi h.size) d).trans (h.block i hi d)⟩
theorem Xz{w:World}(r:Option Nat)(h:Below w w w'):w.grownBy w' r:=⟨h.os,h.tape,h.output,h.size,λk a _=>h.block k a⟩
theorem Zn{w:World}(h:w.grownBy w' (some g))(b:B<=w.heap.size)(c:B<=g):Below B w w' :=
 ⟨h.os,h.tape,h.output,h.size,λk d=>h.block k AA (by intro a;injection a with a;omega)⟩
theorem Zrj{w:World}(h:w.grownBy w' (some g)){b o:Nat}(d:b<w.heap.size)(f:b≠g):w'.cell? ⟨b,o,none⟩=w.cell? ⟨b,o,none⟩ :=
 DH (a:=⟨b,o,none⟩) (h.block b d (by intro c;injection c with c;exact f c))
theorem Zo{w:World}(h:Below w w w')(o:Obj):Below w w (w'.alloc o):=h.alloc h.size o
theorem Zvx(n:Nat)(a:n<=1000)(w:World):
 (Instr.makeSlice 27 (.int .i64 (n:Int)) (.int .i64 (n:Int))).run prog w = .ok (.slice (some ⟨w,0,none⟩) n n) (w.alloc (.cells (nums .u32 (List.replicate n 0)).toArray 41)) :=
 Wm (P:=prog) 27 41 .u32 4 underlying27 Tryz.infoU32 n AA AA w
end
section
open Go.Maps (Keyed IsMap Tidy)
def Zf(w w':World):Prop:=w.heap.size<=w'.heap.size/\∀b,b<w.heap.size->(∃o k z,w.cell? ⟨b,o,none⟩=some (Value.int k z))->w'.heap[b]? = w.heap[b]?
def Xr(w:World)(p:List Nat × Nat)(e:Ending)(w':World):Prop :=
 ∃A c,e = .returned (.tuple #[.slice A p.1.length c,.int .i64 (p.2:Int)])/\Zq .u32 w' A p.1.length c p.1/\Below w.heap.size w w'
def Bq(w:World)(a:List Nat)(e:Ending)(w':World):Prop :=
 ∃A c,e = .returned (.slice A a.length c)/\Zq .u32 w' A a.length c a/\Below w.heap.size w w'
def Quiet(w:World)(v:Value)(e:Ending)(w':World):Prop:=e = .returned v/\Uz w w'
theorem Tryz.rowKT:(257:TypeId)<prog.types.size:=DI AB
theorem Tryz.rowKF:(261:TypeId)<prog.types.size:=DI AB
theorem Zy5{P:Program}{t:Nat}(h:t<P.types.size)(a:1<=t):∃m,P.types.size=m+2:=⟨P.types.size-2,AA⟩
end
section
open Go.Maps (Keyed IsMap Tidy)
variable {P:Program} {k:TypeId}
theorem own_tight{w:World}{b:Nat}(h:w.ownsMap P k R b n D):w.ownsMap P k R b (Maps.size D) D:=by
 obtain⟨c,clock,d,F,_,a⟩:=h;refine⟨c,clock,d,F,?_,a⟩;rw[a];simp[Maps.size,length_sorted]
end
section
open Ieee
open Go.Maps (Keyed IsMap Tidy)
theorem Tryz.rowKB:(220:TypeId)<prog.types.size:=DI AB
end
section
open Go.RowKit Go.Shelf
attribute [local go_sem] Oper.semAt_some
open Go.RowKit Go.Shelf
structure Zqy (w W:World) (v:Value):Prop where
 b:Boxed W w.heap.size 44 v
 r0:Boxed W (w.heap.size+1) 44 (.slice none 0 0)
 r1:Boxed W (w.heap.size+1+1) 3 (.int .i64 0)
 r2:Boxed W (w.heap.size+1+1+1) 31 (.int .i64 0)
end
section
open Go.RowKit Go.Shelf
attribute [local go_sem] Oper.semAt_some
open Go.RowKit Go.Shelf
open Go.RowKit Go.Shelf
attribute [local go_sem] Oper.semAt_some
theorem Zrd(h:Zq .u32 W A n c xs)(l:Boxed W B t v)(s:∀x,v ≠ .int .u32 x)(u:Value):
 Zq .u32 (W.setCell ⟨B,0,none⟩ u) A n c xs:=by
 refine⟨h.1,h.2.1,h.2.2.1,λq=>?_⟩;obtain⟨b,k,e,p,o⟩:=h.2.2.2 q;refine⟨b,k,e,by simpa [World.setCell] using p,λj f=>?_⟩;have d:=o j f;have r:b≠B:=by
  rintro rfl;have m:W.heap[b]? = _:=l;have g:∃x,(nums .u32 xs)[j]? = some (.int .u32 x):=by
   simp only[nums,BI] at f;exact⟨((xs[j]:Nat):Int),by simp[nums,AM f]⟩
  obtain⟨x,g⟩:=g;rw[g] at d;simp only[World.cell?,m] at d;rcases BY (k+j) with h0 | h0
  ·rw[h0] at d;simp at d;exact s x d
  rw[CZ AG] at d;cases d
 rw[<-d];exact DH (a:=⟨b,k+j,none⟩) (Eb W ⟨B,0,none⟩ u b r)
end
