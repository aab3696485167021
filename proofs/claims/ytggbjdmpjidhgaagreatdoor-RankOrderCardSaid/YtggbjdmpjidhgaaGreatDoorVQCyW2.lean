/- reachable: the reference's, walked. -/
import Derived.Test.YtggbjdmpjidhgaaGreatDoorVQGrN1
import Derived.Test.YtggbjdmpjidhgaaGreatDoorVQGrP2
set_option linter.unusedVariables false
set_option linter.unusedSimpArgs false
set_option maxHeartbeats 8000000
set_option maxRecDepth 100000
namespace Go.Proofs.YtggbjdmpjidhgaaGreatDoor
open Go.RowKit
def nonsI (ss:List Int):List Int:=(ss.filter fun s=>decide (s < 0)).map fun s=>-1 - s
theorem nonsI_take {ss:List Int} {k:Nat} {s:Int} (h:ss[k]? = some s):nonsI (ss.take (k+1))=if s < 0 then nonsI (ss.take k)++[-1 - s] else nonsI (ss.take k):=by
 unfold nonsI
 rw [List.take_add_one,h]
 by_cases a:s < 0
 · simp [a,List.filter_append]
 · simp [a,List.filter_append]
def goesP (P:List Bool) (r:Rul) (N:List Bool):Bool:=N.getD r.left.toNat false && allP true P r.right
def reachI (P:List Bool) (r:Rul) (N:List Bool):List Int:=if goesP P r N then nonsI r.right else []
def startN (G:Gr):List Bool:=(List.replicate G.nons.length false).set G.start.toNat true
def reachN (G:Gr):List Bool:=iter (passI (reachI (prodN G)) G.rules) G.nons.length (startN G)
theorem grownN_len (b:Bool) (G:Gr):(grownN b G).length=G.nons.length:=by unfold grownN;rw [iterN_len];simp
theorem prodN_len (G:Gr):(prodN G).length=G.nons.length:=grownN_len true G
theorem getD_set_true {N:List Bool} {i j:Nat} (h:N.getD i false=true):(N.set j true).getD i false=true:=by
 rw [List.getD_eq_getElem?_getD] at h ⊢
 cases a:N[i]? with
 | none=>rw [a] at h;simp at h
 | some x =>
   rw [a] at h
   simp at h
   subst h
   have:=(LeB.set N j).2 i a
   rw [this]
   rfl
theorem setI_getD {N:List Bool} (l:List Int) {i:Nat} (h:N.getD i false=true):(setI N l).getD i false=true:=by
 induction l generalizing N with
 | nil=>exact h
 | cons s l a=>exact a (getD_set_true h)
def nulB (N:List Bool) (s:Int):Bool:=decide (s < 0) && N.getD (nonI s) false
def bareL (N:List Bool) (ss:List Int):List Int:=ss.filter fun s=>!nulB N s
def aloneP (N:List Bool) (ss:List Int) (k:Nat):Bool:=(ss.take k).all (nulB N) && (ss.drop (k+1)).all (nulB N)
def standsR (N P:List Bool) (ss:List Int) (k:Nat) (s:Int):Bool:=decide (s < 0) && aloneP N ss k && allP true P ss
def standsP (N P:List Bool) (ss:List Int) (s:Int):Bool:=(decide (s < 0) && P.getD (nonI s) false) && (decide ((bareL N ss).length=0) || (decide ((bareL N ss).length=1) && decide ((bareL N ss)[0]? = some s)))
theorem bareL_nil {N:List Bool} {ss:List Int}:bareL N ss=[] ↔ ss.all (nulB N)=true:=by
 unfold bareL
 rw [List.filter_eq_nil_iff,List.all_eq_true]
 constructor
 · intro h s a
   have:=h s a
   simpa using this
 · intro h s a
   simp [h s a]
theorem allP_split {P:List Bool} {ss:List Int} {k:Nat} {s:Int} (a:ss[k]? = some s):allP true P ss=(allP true P (ss.take k) && (allP true P [s] && allP true P (ss.drop (k+1)))):=by
 have e:ss=ss.take k++([s]++ss.drop (k+1)):=by
  have c:=(List.getElem?_eq_some_iff.1 a).1
  have b:ss.drop k=s::ss.drop (k+1):=by
   rw [List.drop_eq_getElem_cons c]
   congr 1
   exact (List.getElem?_eq_some_iff.1 a).2
  rw [List.singleton_append,← b,List.take_append_drop]
 conv=>lhs;rw [e]
 unfold allP
 rw [List.all_append,List.all_append]
theorem null_made {N P:List Bool} (a:∀ i,N.getD i false=true→P.getD i false=true) {ss:List Int} (h:ss.all (nulB N)=true):allP true P ss=true:=by
 unfold allP
 rw [List.all_eq_true] at h ⊢
 intro s b
 have:=h s b
 unfold nulB at this
 rw [Bool.and_eq_true] at this
 split
 · rfl
 · exact a _ this.2
theorem stands_eq {N P:List Bool} (o:∀ i,N.getD i false=true→P.getD i false=true) {ss:List Int} {k:Nat} {s:Int} (j:ss[k]? = some s):standsP N P ss s=standsR N P ss k s:=by
 by_cases n:s < 0
 case neg=>unfold standsP standsR;simp [n]
 have e:bareL N ss=bareL N (ss.take k)++(bareL N [s]++bareL N (ss.drop (k+1))):=by
  have r:=(List.getElem?_eq_some_iff.1 j).1
  have b:ss.drop k=s::ss.drop (k+1):=by
   rw [List.drop_eq_getElem_cons r]
   congr 1
   exact (List.getElem?_eq_some_iff.1 j).2
  have e:ss=ss.take k++([s]++ss.drop (k+1)):=by rw [List.singleton_append,← b,List.take_append_drop]
  conv=>lhs;rw [e]
  unfold bareL
  rw [List.filter_append,List.filter_append]
 have t:allP true P [s]=P.getD (nonI s) false:=by unfold allP;simp <;> omega
 rw [Bool.eq_iff_iff]
 unfold standsP standsR aloneP
 rw [allP_split j,t]
 simp only [Bool.and_eq_true,Bool.or_eq_true,decide_eq_true_eq,n,true_and]
 have g:=fun l=>@bareL_nil N l
 constructor
 · rintro ⟨m,a⟩
   have q:bareL N (ss.take k)=[]∧bareL N (ss.drop (k+1))=[]:=by
    rw [e] at a
    by_cases d:nulB N s=true
    · have h:bareL N [s]=[]:=by unfold bareL;simp [d]
      rw [h,List.nil_append] at a
      rcases a with a | ⟨a,p⟩
      · rw [List.length_eq_zero_iff,List.append_eq_nil_iff] at a
        exact a
      · exfalso
        have c:=List.mem_of_getElem? p
        rcases List.mem_append.1 c with c | c
        all_goals
         unfold bareL at c
         rw [List.mem_filter] at c
         simp [d] at c
    · have h:bareL N [s]=[s]:=by unfold bareL;simp [d]
      rw [h] at a
      simp only [List.length_append,List.length_cons,List.length_nil] at a
      rcases a with a | ⟨a,p⟩
      · omega
      · exact ⟨List.length_eq_zero_iff.1 (by omega),List.length_eq_zero_iff.1 (by omega)⟩
   have b:=(g _).1 q.1
   have f:=(g _).1 q.2
   exact ⟨⟨b,f⟩,null_made o b,m,null_made o f⟩
 · rintro ⟨⟨b,f⟩,u,m,v⟩
   refine ⟨m,?_⟩
   rw [e,(g _).2 b,(g _).2 f,List.nil_append,List.append_nil]
   by_cases d:nulB N s=true
   · left
     unfold bareL
     simp [d]
   · right
     unfold bareL
     simp [d]
theorem allP_mono {N M:List Bool} (h:∀ i,N.getD i false=true→M.getD i false=true) {ss:List Int} (a:allP false N ss=true):allP true M ss=true:=by
 unfold allP at a ⊢
 rw [List.all_eq_true] at a ⊢
 intro s c
 have:=a s c
 split
 · rfl
 · rename_i b
   rw [if_neg b] at this
   exact h _ this
def Le' (N M:List Bool):Prop:=N.length=M.length∧∀ i,N.getD i false=true→M.getD i false=true
theorem set_getD (N:List Bool) (j i:Nat):(N.set j true).getD i false=true ↔ (N.getD i false=true∨(i=j∧j < N.length)):=by
 rw [List.getD_eq_getElem?_getD,List.getD_eq_getElem?_getD,List.getElem?_set]
 by_cases a:j=i
 · subst a
   by_cases b:j < N.length
   · simp [b]
   · simp [b,List.getElem?_eq_none (show N.length≤j by omega)]
 · rw [if_neg a]
   constructor
   · exact .inl
   · rintro (h | ⟨h,_⟩)
     · exact h
     · exact absurd h.symm a
theorem growN_le {r:Rul} {N M:List Bool} (h:Le' N M):Le' (growN (bareP false) r N) (growN (bareP true) r M):=by
 refine ⟨by rw [(growN_grows _ r).len,(growN_grows _ r).len];exact h.1,fun i hi=>?_⟩
 unfold growN at hi ⊢
 by_cases a:bareP false r N=true
 · rw [if_pos a,set_getD] at hi
   have b:bareP true r M=true:=allP_mono h.2 a
   rw [if_pos b,set_getD]
   rcases hi with hi | ⟨hi,c⟩
   · exact .inl (h.2 i hi)
   · exact .inr ⟨hi,by rw [← h.1];exact c⟩
 · rw [if_neg a] at hi
   split
   · rw [set_getD];exact .inl (h.2 i hi)
   · exact h.2 i hi
theorem passN_le {a:List Rul} {N M:List Bool} (h:Le' N M):Le' (passN (bareP false) a N) (passN (bareP true) a M):=by
 induction a generalizing N M with
 | nil=>exact h
 | cons r a b=>exact b (growN_le h)
theorem null_prod (G:Gr):∀ i,(nullN G).getD i false=true→(prodN G).getD i false=true:=by
 rw [nullN_grown]
 unfold prodN grownN
 generalize G.nons.length=n
 have:∀ k,Le' (iter (passN (bareP false) G.rules) k (List.replicate n false)) (iter (passN (bareP true) G.rules) k (List.replicate n false)):=fun k=>by
  induction k with
  | zero=>exact ⟨rfl,fun _ h=>h⟩
  | succ k a=>exact passN_le a
 exact (this n).2
def growSt (N P:List Bool) (r:Rul) (k:Nat) (F:List Nat):List Nat:=match r.right[k]? with
 | none=>F
 | some s=>if standsR N P r.right k s then addAt r.left.toNat (bitN (-1 - s)) F else F
def posSt (N P:List Bool) (r:Rul) (k:Nat) (F:List Nat):List Nat:=(List.range k).foldl (fun F p=>growSt N P r p F) F
theorem posSt_succ (N P:List Bool) (r:Rul) (k:Nat) (F:List Nat):posSt N P r (k+1) F=growSt N P r k (posSt N P r k F):=by
 unfold posSt
 rw [List.range_succ,List.foldl_append]
 rfl
def passSt (N P:List Bool) (a:List Rul) (F:List Nat):List Nat:=a.foldl (fun F r=>posSt N P r r.right.length F) F
theorem passSt_snoc (N P:List Bool) (a:List Rul) (r:Rul) (F:List Nat):passSt N P (a++[r]) F=posSt N P r r.right.length (passSt N P a F):=by simp [passSt]
def stepsN (G:Gr):List Nat:=passSt (nullN G) (prodN G) G.rules (List.replicate G.nons.length 0)
theorem growSt_len (N P:List Bool) (r:Rul) (k:Nat) (F:List Nat):(growSt N P r k F).length=F.length:=by
 unfold growSt
 split
 · rfl
 · split
   · simp [addAt]
   · rfl
theorem posSt_len (N P:List Bool) (r:Rul) (F:List Nat):∀ k,(posSt N P r k F).length=F.length
 | 0=>rfl
 | k+1=>by rw [posSt_succ,growSt_len,posSt_len N P r F k]
theorem passSt_len (N P:List Bool) (a:List Rul) (F:List Nat):(passSt N P a F).length=F.length:=by
 induction a generalizing F with
 | nil=>rfl
 | cons r a b=>show (passSt N P a (posSt N P r r.right.length F)).length=_;rw [b,posSt_len]
theorem stepsN_len (G:Gr):(stepsN G).length=G.nons.length:=by unfold stepsN;rw [passSt_len];simp
theorem growSt_small (N P:List Bool) (r:Rul) (k:Nat) {F:List Nat} (h:Small F):Small (growSt N P r k F):=by
 unfold growSt
 split
 · exact h
 · split
   · exact h.addAt _ (bitN_lt _)
   · exact h
theorem posSt_small (N P:List Bool) (r:Rul) {F:List Nat} (h:Small F):∀ k,Small (posSt N P r k F)
 | 0=>h
 | k+1=>by rw [posSt_succ];exact growSt_small N P r k (posSt_small N P r h k)
theorem passSt_small (N P:List Bool) (a:List Rul) {F:List Nat} (h:Small F):Small (passSt N P a F):=by
 induction a generalizing F with
 | nil=>exact h
 | cons r a b=>exact b (posSt_small N P r h _)
theorem stepsN_small (G:Gr):Small (stepsN G):=passSt_small _ _ _ (Small.zero _)
def setB (f:Nat→Bool) (n:Nat):Nat:=(List.range n).foldl (fun s i=>if f i then s ||| bitN (i:Int) else s) 0
theorem setB_succ (f:Nat→Bool) (n:Nat):setB f (n+1)=if f n then setB f n ||| bitN (n:Int) else setB f n:=by
 unfold setB
 rw [List.range_succ,List.foldl_append]
 rfl
theorem bitN_test (i t:Nat):(bitN (i:Int)).testBit t=(decide (i < 32) && decide (t=i)):=by
 unfold bitN
 by_cases h:i < 32
 · rw [if_pos (by omega),Int.toNat_natCast,Nat.testBit_two_pow]
   simp [h,eq_comm]
 · rw [if_neg (by omega)]
   simp [h]
theorem setB_bit (f:Nat→Bool) (n t:Nat):(setB f n).testBit t=(decide (t < 32) && (decide (t < n) && f t)):=by
 induction n with
 | zero=>simp [setB]
 | succ n a =>
   rw [setB_succ]
   by_cases b:t=n
   · subst b
     cases c:f t
     · simp [a,c]
     · rw [if_pos rfl,Nat.testBit_or,a,bitN_test]
       simp
   · have e:decide (t < n+1)=decide (t < n):=by
      rw [Bool.eq_iff_iff,decide_eq_true_iff,decide_eq_true_iff];omega
     rw [e]
     split
     · rw [Nat.testBit_or,a,bitN_test]
       simp [b]
     · exact a
theorem setB_lt (f:Nat→Bool):∀ n,setB f n < 4294967296
 | 0=>by simp [setB]
 | n+1=>by
   rw [setB_succ]
   split
   · exact or_lt32 (setB_lt f n) (bitN_lt _)
   · exact setB_lt f n
theorem bits_le {a b:Nat} (h:∀ t,a.testBit t=true→b.testBit t=true):a≤b:=by
 have:a &&& b=a:=by
  apply Nat.eq_of_testBit_eq
  intro t
  rw [Nat.testBit_and]
  cases c:a.testBit t
  · rfl
  · rw [h t c];rfl
 rw [← this]
 exact Nat.and_le_right
def fwK (i k:Nat) (F:List Nat):List Nat:=if (F.getD i 0).testBit k then addAt i (F.getD k 0) F else F
def fwR (i m:Nat) (F:List Nat):List Nat:=(List.range m).foldl (fun F k=>fwK i k F) F
def fwI (m q:Nat) (F:List Nat):List Nat:=(List.range q).foldl (fun F i=>fwR i m F) F
theorem fwR_succ (i m:Nat) (F:List Nat):fwR i (m+1) F=fwK i m (fwR i m F):=by
 unfold fwR
 rw [List.range_succ,List.foldl_append]
 rfl
theorem fwI_succ (m q:Nat) (F:List Nat):fwI m (q+1) F=fwR q m (fwI m q F):=by
 unfold fwI
 rw [List.range_succ,List.foldl_append]
 rfl
theorem fwK_len (i k:Nat) (F:List Nat):(fwK i k F).length=F.length:=by
 unfold fwK
 split
 · simp [addAt]
 · rfl
theorem fwR_len (i:Nat) (F:List Nat):∀ m,(fwR i m F).length=F.length
 | 0=>rfl
 | m+1=>by rw [fwR_succ,fwK_len,fwR_len i F m]
theorem fwI_len (m:Nat) (F:List Nat):∀ q,(fwI m q F).length=F.length
 | 0=>rfl
 | q+1=>by rw [fwI_succ,fwR_len,fwI_len m F q]
theorem fwK_small (i k:Nat) {F:List Nat} (h:Small F):Small (fwK i k F):=by
 unfold fwK
 split
 · exact h.addAt _ (h.get _)
 · exact h
theorem fwR_small (i:Nat) {F:List Nat} (h:Small F):∀ m,Small (fwR i m F)
 | 0=>h
 | m+1=>by rw [fwR_succ];exact fwK_small _ _ (fwR_small i h m)
theorem fwI_small (m:Nat) {F:List Nat} (h:Small F):∀ q,Small (fwI m q F)
 | 0=>h
 | q+1=>by rw [fwI_succ];exact fwR_small _ (fwI_small m h q) _
theorem iterFw_small (m q:Nat) {F:List Nat} (h:Small F):∀ p,Small (iter (fwI m q) p F)
 | 0=>h
 | p+1=>by rw [iter];exact fwI_small _ (iterFw_small m q h p) _
theorem iterFw_len (m q:Nat) (F:List Nat):∀ p,(iter (fwI m q) p F).length=F.length
 | 0=>rfl
 | p+1=>by rw [iter,fwI_len,iterFw_len m q F p]
theorem addAt_get (i x j:Nat) (F:List Nat):(addAt i x F).getD j 0=if j=i∧i < F.length then F.getD i 0 ||| x else F.getD j 0:=by
 unfold addAt
 rw [List.getD_eq_getElem?_getD,List.getElem?_set]
 by_cases a:i=j
 · subst a
   by_cases b:i < F.length
   · simp [b]
   · simp [b,List.getD_eq_getElem?_getD,List.getElem?_eq_none (show F.length≤i by omega)]
 · rw [if_neg a,if_neg (by rintro ⟨h,_⟩;exact a h.symm),List.getD_eq_getElem?_getD]
theorem fwK_up (i k:Nat) (F:List Nat) {j t:Nat} (h:(F.getD j 0).testBit t=true):((fwK i k F).getD j 0).testBit t=true:=by
 unfold fwK
 split
 · rw [addAt_get]
   split
   · rename_i a
     rw [Nat.testBit_or,← a.1,h];rfl
   · exact h
 · exact h
theorem fwR_up (i:Nat) (F:List Nat) {j t:Nat} (h:(F.getD j 0).testBit t=true):∀ m,((fwR i m F).getD j 0).testBit t=true
 | 0=>h
 | m+1=>by rw [fwR_succ];exact fwK_up _ _ _ (fwR_up i F h m)
theorem fwI_up (m:Nat) (F:List Nat) {j t:Nat} (h:(F.getD j 0).testBit t=true):∀ q,((fwI m q F).getD j 0).testBit t=true
 | 0=>h
 | q+1=>by rw [fwI_succ];exact fwR_up _ _ (fwI_up m F h q) _
theorem iterFw_up (m q:Nat) (F:List Nat) {j t:Nat} (h:(F.getD j 0).testBit t=true):∀ p,((iter (fwI m q) p F).getD j 0).testBit t=true
 | 0=>h
 | p+1=>by rw [iter];exact fwI_up _ _ (iterFw_up m q F h p) _
theorem fwR_low (i:Nat) (F:List Nat) (hi:i < F.length) {k t:Nat} (a:(F.getD i 0).testBit k=true) (b:(F.getD k 0).testBit t=true):∀ m,k < m→((fwR i m F).getD i 0).testBit t=true
 | 0,h=>by omega
 | m+1,h=>by
   rw [fwR_succ]
   by_cases c:k=m
   · subst c
     unfold fwK
     rw [if_pos (fwR_up i F a k),addAt_get,if_pos ⟨rfl,by rw [fwR_len];exact hi⟩,Nat.testBit_or,fwR_up i F b k,Bool.or_true]
   · exact fwK_up _ _ _ (fwR_low i F hi a b m (by omega))
theorem fwI_low (m:Nat) (F:List Nat) {i k t:Nat} (c:k < m) (a:(F.getD i 0).testBit k=true) (b:(F.getD k 0).testBit t=true):∀ q,i < q→i < F.length→((fwI m q F).getD i 0).testBit t=true
 | 0,h,_=>by omega
 | q+1,h,hl=>by
   rw [fwI_succ]
   by_cases d:i=q
   · subst d
     exact fwR_low i _ (by rw [fwI_len];exact hl) (fwI_up m F a i) (fwI_up m F b i) m c
   · exact fwR_up _ _ (fwI_low m F c a b q (by omega) hl) _
theorem floyd_low (S:List Nat):∀ (p:Nat) {i t:Nat},i < S.length→((iter (stepD S) p S).getD i 0).testBit t=true→((iter (fwI S.length S.length) p S).getD i 0).testBit t=true
 | 0,i,t,hi,h=>h
 | p+1,i,t,hi,h=>by
   rw [iter,stepD_get _ _ (by rw [iterD_len];exact hi),Nat.testBit_or,Bool.or_eq_true] at h
   rw [iter]
   rcases h with h | h
   · exact fwI_up _ _ (floyd_low S p hi h) _
   · obtain ⟨k,a,b,c⟩:=joinS_mem.1 h
     rw [iterD_len] at a
     exact fwI_low _ _ a (iterFw_up _ _ S b p) (floyd_low S p a c) _ hi (by rw [iterFw_len];exact hi)
def UpF (S F:List Nat):Prop:=F.length=S.length∧∀ i t,i < S.length→(F.getD i 0).testBit t=true→comesTo S i t=true
theorem fwK_in {S F:List Nat} (h:UpF S F) (i:Nat) {k:Nat} (c:k < S.length):UpF S (fwK i k F):=by
 refine ⟨by rw [fwK_len];exact h.1,fun j t b a=>?_⟩
 unfold fwK at a
 split at a
 · rename_i d
   rw [addAt_get] at a
   split at a
   · rename_i f
     obtain ⟨rfl,_⟩:=f
     rw [Nat.testBit_or,Bool.or_eq_true] at a
     rcases a with a | a
     · exact h.2 _ _ b a
     · exact comes_trans b c (h.2 _ _ b d) (h.2 _ _ c a)
   · exact h.2 _ _ b a
 · exact h.2 _ _ b a
theorem fwR_in {S F:List Nat} (h:UpF S F) (i:Nat):∀ m,m≤S.length→UpF S (fwR i m F)
 | 0,_=>h
 | m+1,hm=>by rw [fwR_succ];exact fwK_in (fwR_in h i m (by omega)) i (by omega)
theorem fwI_in {S F:List Nat} (h:UpF S F) (q:Nat):UpF S (fwI S.length q F):=by
 induction q with
 | zero=>exact h
 | succ q a=>rw [fwI_succ];exact fwR_in a q _ (Nat.le_refl _)
theorem iterFw_in (S:List Nat) (q:Nat):∀ p,UpF S (iter (fwI S.length q) p S)
 | 0=>⟨rfl,fun i t hi h=>comes_once hi h⟩
 | p+1=>by rw [iter];exact fwI_in (iterFw_in S q p) q
theorem sets_ext {F a:List Nat} (d:F.length=a.length) (h:∀ i,i < F.length→∀ t,(F.getD i 0).testBit t=(a.getD i 0).testBit t):F=a:=by
 refine List.ext_getElem d fun i b c=>?_
 have:=Nat.eq_of_testBit_eq (h i b)
 rw [List.getD_eq_getElem?_getD,List.getD_eq_getElem?_getD,List.getElem?_eq_getElem b,List.getElem?_eq_getElem c] at this
 exact this
theorem floyd_eq (S:List Nat):iter (fwI S.length S.length) S.length S=closeS S:=by
 refine sets_ext (by rw [iterFw_len,closeS_len]) fun i hi t=>?_
 rw [iterFw_len] at hi
 rw [Bool.eq_iff_iff]
 exact ⟨fun h=>(iterFw_in S _ _).2 i t hi h,fun h=>floyd_low S _ hi h⟩
theorem closeS_small {S:List Nat} (h:Small S):Small (closeS S):=by rw [← floyd_eq];exact iterFw_small _ _ h _
def moreN (S:List Nat) (R:Nat) (l:List Nat):Nat:=l.foldl (fun m k=>m ||| S.getD k 0) R
theorem moreN_snoc (S:List Nat) (R:Nat) (l:List Nat) (k:Nat):moreN S R (l++[k])=moreN S R l ||| S.getD k 0:=by simp [moreN]
theorem moreN_bit (S:List Nat) (t:Nat):∀ (l:List Nat) (R:Nat),(moreN S R l).testBit t=(R.testBit t || l.any fun k=>(S.getD k 0).testBit t)
 | [],R=>by simp [moreN]
 | k::l,R=>by
   show (moreN S (R ||| S.getD k 0) l).testBit t=_
   rw [moreN_bit S t l,Nat.testBit_or,List.any_cons,Bool.or_assoc]
theorem moreN_lt {S:List Nat} (a:Small S):∀ (l:List Nat) {R:Nat},R < 4294967296→moreN S R l < 4294967296
 | [],R,h=>h
 | k::l,R,h=>moreN_lt a l (or_lt32 h (a.get k))
theorem moreN_le (S:List Nat) (l:List Nat) (R:Nat):R≤moreN S R l:=bits_le fun t h=>by rw [moreN_bit,h];rfl
theorem bit_lt {s t:Nat} (b:s < 4294967296) (h:s.testBit t=true):t < 32:=by
 rcases Nat.lt_or_ge t 32 with a | a
 · exact a
 · rw [test_big s b t a] at h;cases h
def InS (S:List Nat):Prop:=∀ i t,(S.getD i 0).testBit t=true→t < S.length
def ReachI (S:List Nat) (i R:Nat):Prop:=R < 4294967296∧(∀ t,(S.getD i 0).testBit t=true→R.testBit t=true)∧∀ t,R.testBit t=true→t < S.length∧comesTo S i t=true
theorem ReachI.start {S:List Nat} (b:Small S) (a:InS S) {i:Nat} (hi:i < S.length):ReachI S i (S.getD i 0) :=
 ⟨b.get i,fun _ h=>h,fun t h=>⟨a i t h,comes_once hi h⟩⟩
theorem ReachI.next {S:List Nat} (l:Small S) (d:InS S) {i:Nat} (hi:i < S.length) {R:Nat} (h:ReachI S i R):ReachI S i (moreN S R (memsN R)):=by
 refine ⟨moreN_lt l _ h.1,fun t a=>by rw [moreN_bit,h.2.1 t a];rfl,fun t a=>?_⟩
 rw [moreN_bit,Bool.or_eq_true] at a
 rcases a with a | a
 · exact h.2.2 t a
 · rw [List.any_eq_true] at a
   obtain ⟨k,g,c⟩:=a
   have j:=((mems_mem R k).1 g).2
   obtain ⟨b,f⟩:=h.2.2 k j
   exact ⟨d k t c,comes_trans hi b f (comes_once b c)⟩
theorem ReachI.done {S:List Nat} (c:InS S) {i:Nat} (hi:i < S.length) {R:Nat} (h:ReachI S i R) (d:moreN S R (memsN R)=R):R=(closeS S).getD i 0:=by
 apply Nat.eq_of_testBit_eq
 intro t
 rw [Bool.eq_iff_iff]
 refine ⟨fun a=>(h.2.2 t a).2,fun a=>?_⟩
 refine comes_in (S:=S) (fun t=>R.testBit t=true) (fun k g b t f=>?_) c hi (fun t a=>h.2.1 t a) a
 have:=moreN_bit S t (memsN R) R
 rw [d] at this
 rw [this,Bool.or_eq_true]
 right
 rw [List.any_eq_true]
 exact ⟨k,(mems_mem R k).2 ⟨bit_lt h.1 b,b⟩,f⟩
def cycS (S:List Nat):Nat:=setB (fun i=>comesTo S i i) S.length
theorem stepsN_in (G:Gr) (l:G.Fits):InS (stepsN G):=by
 have m:∀ (r:Rul),r ∈ G.rules→∀ (k:Nat) (F:List Nat),(∀ i t,(F.getD i 0).testBit t=true→t < G.nons.length)→∀ i t,((growSt (nullN G) (prodN G) r k F).getD i 0).testBit t=true→t < G.nons.length:=by
  intro r d k F a i t h
  unfold growSt at h
  split at h
  · exact a i t h
  · rename_i s u
    split at h
    · rename_i g
      rw [addAt_get] at h
      split at h
      · rw [Nat.testBit_or,Bool.or_eq_true] at h
        rcases h with h | h
        · exact a _ t h
        · have x:=l.sym r d s (List.mem_of_getElem? u)
          unfold standsR at g
          simp only [Bool.and_eq_true,decide_eq_true_eq] at g
          obtain ⟨j,n⟩:∃ j:Nat,-1 - s=(j:Int):=⟨(-1 - s).toNat,by omega⟩
          rw [n,bitN_test,Bool.and_eq_true,decide_eq_true_iff,decide_eq_true_iff] at h
          omega
      · exact a i t h
    · exact a i t h
 have p:∀ (r:Rul),r ∈ G.rules→∀ (k:Nat) (F:List Nat),(∀ i t,(F.getD i 0).testBit t=true→t < G.nons.length)→∀ i t,((posSt (nullN G) (prodN G) r k F).getD i 0).testBit t=true→t < G.nons.length:=by
  intro r d k F a
  induction k with
  | zero=>exact a
  | succ k f=>rw [posSt_succ];exact m r d k _ f
 have o:∀ (b:List Rul),(∀ r ∈ b,r ∈ G.rules)→∀ (F:List Nat),(∀ i t,(F.getD i 0).testBit t=true→t < G.nons.length)→∀ i t,((passSt (nullN G) (prodN G) b F).getD i 0).testBit t=true→t < G.nons.length:=by
  intro b
  induction b with
  | nil=>exact fun _ F a=>a
  | cons r b f=>exact fun h F a=>f (fun v q=>h v (List.mem_cons_of_mem _ q)) _ (p r (h r (List.mem_cons_self ..)) _ F a)
 intro i t h
 rw [stepsN_len]
 refine o G.rules (fun _ h=>h) _ (fun i t h=>?_) i t h
 rw [List.getD_eq_getElem?_getD] at h
 rcases Nat.lt_or_ge i G.nons.length with c | c
 · simp [c] at h
 · simp [List.getElem?_eq_none,c] at h
def andN (a b:Nat):Nat:=a ^^^ (a &&& b)
theorem andN_bit (a b t:Nat):(andN a b).testBit t=(a.testBit t && !b.testBit t):=by
 unfold andN
 rw [Nat.testBit_xor,Nat.testBit_and]
 cases a.testBit t <;> cases b.testBit t <;> rfl
theorem bit_of_ne {x:Nat} (h:x ≠ 0):∃ t,x.testBit t=true:=by
 apply Classical.byContradiction
 intro a
 apply h
 apply Nat.eq_of_testBit_eq
 intro t
 rw [Nat.zero_testBit]
 cases b:x.testBit t
 · rfl
 · exact absurd ⟨t,b⟩ a
def pickB (S:List Nat) (use a i:Nat):Bool:=use.testBit i && !a.testBit i && (andN (S.getD i 0) a == 0)
def findB (f:Nat→Bool) (n:Nat):Option Nat:=(List.range n).find? f
theorem findB_none' {f:Nat→Bool} {n:Nat} (h:findB f n=none):∀ j,j < n→f j=false:=by
 unfold findB at h
 rw [List.find?_eq_none] at h
 intro j a
 have:=h j (List.mem_range.2 a)
 simpa using this
theorem findB_at {f:Nat→Bool} {n i:Nat} (h:findB f n=some i):i < n∧f i=true:=by
 unfold findB at h
 exact ⟨List.mem_range.1 (List.mem_of_find?_eq_some h),List.find?_some h⟩
def stepO (S:List Nat) (use n:Nat) (a:List Nat × Nat):List Nat × Nat:=match findB (pickB S use a.2) n with
 | none=>a
 | some i=>(a.1++[i],a.2 ||| bitN (i:Int))
def orderS (S:List Nat) (use n k:Nat):List Nat × Nat:=iter (stepO S use n) k ([],0)
theorem orderS_succ (S:List Nat) (use n k:Nat):orderS S use n (k+1)=stepO S use n (orderS S use n k):=rfl
theorem stepO_some {S:List Nat} {use n:Nat} {a:List Nat × Nat} {i:Nat} (h:findB (pickB S use a.2) n=some i):stepO S use n a=(a.1++[i],a.2 ||| bitN (i:Int)):=by
 unfold stepO;rw [h]
theorem stepO_none {S:List Nat} {use n:Nat} {a:List Nat × Nat} (h:findB (pickB S use a.2) n=none):stepO S use n a=a:=by
 unfold stepO;rw [h]
structure OrdI (S:List Nat) (use n:Nat) (st:List Nat × Nat):Prop where
 lt:st.2 < 4294967296
 mem:∀ t,st.2.testBit t=true ↔ t ∈ st.1
 use:∀ t ∈ st.1,use.testBit t=true∧t < n
theorem OrdI.step {S:List Nat} {use n:Nat} {d:List Nat × Nat} (g:use < 4294967296) (h:OrdI S use n d):OrdI S use n (stepO S use n d):=by
 cases c:findB (pickB S use d.2) n with
 | none=>rw [stepO_none c];exact h
 | some i =>
   rw [stepO_some c]
   obtain ⟨hi,b⟩:=findB_at c
   unfold pickB at b
   simp only [Bool.and_eq_true] at b
   have f:=bit_lt g b.1.1
   refine ⟨or_lt32 h.lt (bitN_lt _),fun t=>?_,fun t a=>?_⟩
   · rw [Nat.testBit_or,bitN_test,Bool.or_eq_true,h.mem t,List.mem_append,List.mem_singleton]
     simp [f]
   · rcases List.mem_append.1 a with a | a
     · exact h.use t a
     · rw [List.mem_singleton] at a
       subst a
       exact ⟨b.1.1,hi⟩
theorem orderS_inv (S:List Nat) {use:Nat} (n:Nat) (a:use < 4294967296):∀ k,OrdI S use n (orderS S use n k)
 | 0=>⟨by show 0 < 4294967296;decide,fun t=>by simp [orderS,iter],fun t h=>by simp [orderS,iter] at h⟩
 | k+1=>by rw [orderS_succ];exact (orderS_inv S n a k).step a
def thereOf (b:List Bool):Nat:=setB (fun i=>b.getD i false) b.length
theorem thereOf_set {b:List Bool} {i:Nat} (hi:i < b.length):thereOf (b.set i true)=thereOf b ||| bitN (i:Int):=by
 apply Nat.eq_of_testBit_eq
 intro t
 unfold thereOf
 rw [Nat.testBit_or,setB_bit,setB_bit,bitN_test,List.length_set,Bool.eq_iff_iff]
 simp only [Bool.and_eq_true,Bool.or_eq_true,decide_eq_true_eq,set_getD]
 constructor
 · rintro ⟨d,a,c | ⟨c,_⟩⟩
   · exact .inl ⟨d,a,c⟩
   · exact .inr ⟨by omega,c⟩
 · rintro (⟨d,a,c⟩ | ⟨d,a⟩)
   · exact ⟨d,a, .inl c⟩
   · exact ⟨by omega,by omega, .inr ⟨a,hi⟩⟩
def stepT (S:List Nat) (use n:Nat) (b:List Bool):List Bool:=match findB (pickB S use (thereOf b)) n with
 | none=>b
 | some i=>b.set i true
theorem stepT_grows (S:List Nat) (use n:Nat):Grows (stepT S use n):=by
 refine ⟨fun b=>?_,fun b i h=>?_⟩
 · unfold stepT;split <;> simp
 · unfold stepT
   split
   · exact h
   · have c:=(List.getElem?_eq_some_iff.1 h).1
     rw [List.getElem?_set]
     split
     · rename_i a;subst a;simp [c]
     · exact h
theorem iterT_len (S:List Nat) (use n:Nat) (b:List Bool):∀ k,(iter (stepT S use n) k b).length=b.length
 | 0=>rfl
 | k+1=>by rw [iter,(stepT_grows S use n).len,iterT_len S use n b k]
theorem orderS_there (S:List Nat) (use n:Nat):∀ k,(orderS S use n k).2=thereOf (iter (stepT S use n) k (List.replicate n false))
 | 0=>by
   apply Nat.eq_of_testBit_eq
   intro t
   unfold thereOf
   rw [setB_bit]
   simp only [orderS,iter,Nat.zero_testBit,List.length_replicate]
   by_cases h:t < n
   · simp [h]
   · simp [h]
 | k+1=>by
   have c:=orderS_there S use n k
   have d:=iterT_len S use n (List.replicate n false) k
   rw [List.length_replicate] at d
   rw [orderS_succ,iter]
   generalize iter (stepT S use n) k (List.replicate n false)=b at *
   cases a:findB (pickB S use (orderS S use n k).2) n with
   | none =>
     rw [stepO_none a]
     unfold stepT
     rw [← c,a]
     exact c
   | some i =>
     rw [stepO_some a]
     have hi:=(findB_at a).1
     unfold stepT
     rw [← c,a]
     rw [thereOf_set (by omega),c]
theorem orderS_end (S:List Nat) {use:Nat} (n:Nat) (k:use < 4294967296):findB (pickB S use (orderS S use n n).2) n=none:=by
 cases d:findB (pickB S use (orderS S use n n).2) n with
 | none=>rfl
 | some i =>
   exfalso
   have a:=(stepT_grows S use n).fix (List.replicate n false)
   rw [List.length_replicate] at a
   have f:=iterT_len S use n (List.replicate n false) n
   rw [List.length_replicate] at f
   rw [orderS_there] at d
   generalize iter (stepT S use n) n (List.replicate n false)=b at *
   unfold stepT at a
   rw [d] at a
   simp only [] at a
   obtain ⟨hi,c⟩:=findB_at d
   unfold pickB at c
   simp only [Bool.and_eq_true] at c
   have g:=bit_lt k c.1.1
   have h:b.getD i false=true:=by
    rw [← a]
    exact (set_getD b i i).2 (.inr ⟨rfl,by omega⟩)
   have j:(thereOf b).testBit i=true:=by
    unfold thereOf
    rw [setB_bit,h]
    simp [g,f,hi]
   rw [j] at c
   exact absurd c.1.2 (by decide)
theorem order_goes {S:List Nat} {use b:Nat} (l:∀ i t,use.testBit i=true→(S.getD i 0).testBit t=true→use.testBit t=true) (k:∀ i,use.testBit i=true→i < S.length)
 (r:∀ i,use.testBit i=true→comesTo S i i=false) (o:findB (pickB S use b) S.length=none):andN use b=0:=by
 have key:∀ (m i:Nat),(andN use b).testBit i=true→(closeS S).getD i 0=m→False:=by
  intro m
  induction m using Nat.strongRecOn with
  | ind m v =>
    intro i hi y
    rw [andN_bit,Bool.and_eq_true] at hi
    have d:=k i hi.1
    have f:=findB_none' o i d
    unfold pickB at f
    rw [hi.1,hi.2,Bool.true_and,Bool.true_and] at f
    have p:andN (S.getD i 0) b ≠ 0:=by simpa using f
    obtain ⟨t,a⟩:=bit_of_ne p
    rw [andN_bit,Bool.and_eq_true] at a
    have g:=l i t hi.1 a.1
    have u:=k t g
    have j:comesTo S i t=true:=comes_once d a.1
    have c:=r t g
    have x:(closeS S).getD t 0≤(closeS S).getD i 0:=bits_le fun q s=>comes_step d u a.1 s
    have z:(closeS S).getD t 0 ≠ (closeS S).getD i 0:=fun n=>by
     unfold comesTo at j c
     rw [n,j] at c
     cases c
    exact v _ (by omega) t (by rw [andN_bit,g,a.2];rfl) rfl
 apply Classical.byContradiction
 intro h
 obtain ⟨i,hi⟩:=bit_of_ne h
 exact key _ i hi rfl
end Go.Proofs.YtggbjdmpjidhgaaGreatDoor
