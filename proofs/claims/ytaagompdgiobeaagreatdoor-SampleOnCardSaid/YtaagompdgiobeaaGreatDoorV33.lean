/- trees: the reference's Whole, Right, Word, Height, Reductions, walked. -/
import Derived.Test.YtaagompdgiobeaaGreatDoorV31
import Derived.Test.YtaagompdgiobeaaGreatDoorV32
set_option linter.all false
set_option maxHeartbeats 1500000
set_option maxRecDepth 100000
namespace Go.Proofs.YtaagompdgiobeaaGreatDoor
open Go.RowKit Go.Proofs.Tryz
variable{n:Nat}{u:List Nat}
theorem B4(h:GH)(G:Gr)(At:Option Addr)(n c:Nat)(t:List Int)(w:World)(v:Yf w h G)(y:Za .i64 w At n c t)(I:n<=400)(h1:h.n1<=100)(F:h.n2<=100)(H:h.n3<=100):
 Calls prog 19 #[GV h G.start,.slice At n c] w λe w'=>Below w w w' /\
  ((Xl G t=none/\e = .returned (.tuple #[.slice none 0 0,.int .i64 1]))\/(∃wd ps k A s,Xl G t=some (wd,ps,k)/\e = .returned (.tuple #[.slice A wd.length s,.int .i64 0])/\Za .i64 w' A wd.length s wd)):=by
 have m:=Zy w (.cells #[.slice h.a1 h.n1 h.c1,.slice h.a2 h.n2 h.c2,.slice h.a3 h.n3 h.c3,.int .i64 G.start] 26);have B:=LH (rf_Whole h G At n c t _ (v.below m) (y.below m) I h1 F H);have u:=LH m;clear v y;go_enter func19,ntmps19;go_wp2_with fail;generalize w.alloc (.cells #[.slice h.a1 h.n1 h.c1,.slice h.a2 h.n2 h.c2,.slice h.a3 h.n3 h.c3,.int .i64 G.start] 26)=P at *;(with_reducible refine B.out.mono ?_);rintro e a⟨p,⟨o,rfl⟩ | ⟨wd,ps,k,f,b,d,j,l,o,R,S,rfl,z,x⟩⟩
 ·have r:=LH o;have g:=Blk.new a 74 #[.int .i64 0,.slice none 0 0,.int .i64 0,.slice none 0 0];have q:=LH (Zz u.out (Zz p (Zy a (.cells #[.int .i64 0,.slice none 0 0,.int .i64 0,.slice none 0 0] 74))));have J:(a.alloc (.cells #[.int .i64 0,.slice none 0 0,.int .i64 0,.slice none 0 0] 74)).cell? ⟨a,0,none⟩=some (.int .i64 0):=g.cell 0;have L:(a.alloc (.cells #[.int .i64 0,.slice none 0 0,.int .i64 0,.slice none 0 0] 74)).cell? ⟨a,1,none⟩=some (.slice none 0 0):=g.cell 1;have M:(a.alloc (.cells #[.int .i64 0,.slice none 0 0,.int .i64 0,.slice none 0 0] 74)).cell? ⟨a,2,none⟩=some (.int .i64 0):=g.cell 2;have N:(a.alloc (.cells #[.int .i64 0,.slice none 0 0,.int .i64 0,.slice none 0 0] 74)).cell? ⟨a,3,none⟩=some (.slice none 0 0):=g.cell 3;clear o g m;go_upto_region 2 with fail;generalize a.alloc (.cells #[.int .i64 0,.slice none 0 0,.int .i64 0,.slice none 0 0] 74)=D at *;clear p;generalize a.heap.size=E at *;go_wp2_with fail;refine AW (results_tmp2 rfl _ _ _) rfl ?_;exact⟨q.out,.inl ⟨r.out,rfl⟩⟩
 have r:=LH o;have T:((f:Int)==0)=false:=by rw[AQ];omega
 have g:=Blk.new a 74 #[.int .i64 ((f:Nat):Int),.slice b wd.length d,.int .i64 ((k:Nat):Int),.slice j ps.length l];have q:=LH (Zz u.out (Zz p (Zy a (.cells #[.int .i64 ((f:Nat):Int),.slice b wd.length d,.int .i64 ((k:Nat):Int),.slice j ps.length l] 74))));have J:(a.alloc (.cells #[.int .i64 ((f:Nat):Int),.slice b wd.length d,.int .i64 ((k:Nat):Int),.slice j ps.length l] 74)).cell? ⟨a,0,none⟩=some (.int .i64 ((f:Nat):Int)):=g.cell 0;have L:(a.alloc (.cells #[.int .i64 ((f:Nat):Int),.slice b wd.length d,.int .i64 ((k:Nat):Int),.slice j ps.length l] 74)).cell? ⟨a,1,none⟩=some (.slice b wd.length d):=g.cell 1;have M:(a.alloc (.cells #[.int .i64 ((f:Nat):Int),.slice b wd.length d,.int .i64 ((k:Nat):Int),.slice j ps.length l] 74)).cell? ⟨a,2,none⟩=some (.int .i64 ((k:Nat):Int)):=g.cell 2;have N:(a.alloc (.cells #[.int .i64 ((f:Nat):Int),.slice b wd.length d,.int .i64 ((k:Nat):Int),.slice j ps.length l] 74)).cell? ⟨a,3,none⟩=some (.slice j ps.length l):=g.cell 3;have C:=LH (z.below (Zy a (.cells #[.int .i64 ((f:Nat):Int),.slice b wd.length d,.int .i64 ((k:Nat):Int),.slice j ps.length l] 74)));have O:=LH (x.below (Zy a (.cells #[.int .i64 ((f:Nat):Int),.slice b wd.length d,.int .i64 ((k:Nat):Int),.slice j ps.length l] 74)));clear o g m z x;go_upto_region 2 with fail;generalize a.alloc (.cells #[.int .i64 ((f:Nat):Int),.slice b wd.length d,.int .i64 ((k:Nat):Int),.slice j ps.length l] 74)=D at *;clear p;generalize a.heap.size=E at *;go_wp2_with fail;refine AW (results_tmp2 rfl _ _ _) rfl ?_;exact⟨q.out,.inr ⟨wd,ps,k,b,d,r.out,rfl,C.out⟩⟩
section
variable {G:Gr}
theorem red_fs(g:G.Fits){l:List Int}{r:Nat}(h:UnL (Zi G) l n r u):∀ss,l=ss.map (Xd (Ze G))->(∀s∈ss,s<0->Zp s∈Ze G)->
 ∃f wd m,Fs G ss ((u.map (Yr G)).map λi:Nat=>(i:Int)) f wd m/\wd.length=n:=by
 induction h with
 | nil =>
   intro ss e a;cases ss with
   | nil=>exact⟨[],[],0,.nil,rfl⟩
   | cons=>cases e
 | @term s l n r t h0 _ I =>
   intro ss e a;cases ss with
   | nil=>cases e
   | cons q ss =>
     rw[CU] at e;injection e with e1 e2;obtain⟨f,wd,m,h1,z⟩:=I ss e2 λs h=>a s (.tail _ h);have W:=Mk q λh=>a q (By ..) h;exact⟨f,q::wd,m,.term AA h1,by rw[AY,z]⟩
 | @non s l n k i q r x X Y h0 F H _ _ J L =>
   intro ss e a;cases ss with
   | nil=>cases e
   | cons p ss =>
     rw[CU] at e;injection e with e1 e2;have V:=Mk p λh=>a p (By ..) h;have c:p<0:=AA
     have d:=a p (By ..) c;obtain⟨b,o,j,rfl⟩:=kept_back F;have D:=AN o;have U:=g.left b D;obtain⟨O,w1,M,a1,a2⟩:=J b.right rfl λs h=>Qz g j h;obtain⟨P,R,N,v,y⟩:=L ss e2 λs h=>a s (.tail _ h);have S:=G8 c d;have A:sig G b.left.toNat=sig G (Zp p):=by
      have T:=(C8 d).1;have B:sig G b.left.toNat=Zp s:=H;rw[B,e1];omega
     have C:=sig_inj (Zug j) d A;refine⟨O++(Yr G i:Int)::P,w1++R,max (M+1) N,?_,by rw[AV,a2,y]⟩;have E:Ur G (Yr G i:Int)=some b:=by
      unfold Ur;rw[if_pos AA,DC];exact o
     rw[CU,CU,DJ,DJ];exact .non c E (by unfold Zp at C;omega) a1 v
theorem red_read(b:G.right=true)(j:(Zt G).getD G.start.toNat false=true){r:Nat}(c:UnT (Zi G) (Zi G).start.toNat n r u)(h:u.length<=300):∃wd ps k,Xl G ((u.map (Yr G)).map λi:Nat=>(i:Int))=some (wd,ps,k)/\wd.length=n:=by
 have a:=Gr.fits b;obtain⟨h1,d,f⟩:=Zvp a j;rw[<-f] at c;obtain⟨q,l⟩:=single_un d c;obtain⟨o,wd,m,g,e⟩:=red_fs a l [-1-G.start] rfl h1;exact⟨wd,o,m,readT_full b (by simpa using h) g,e⟩
end
theorem V9.back{G:Gr}{d l:List Nat}(h:V9 G (n:Int) d l 0)(B:Lim d):(Z2 G (n:Int)).2=0/\Zm d=true/\val d<val (Z2 G (n:Int)).1/\G.right=true/\l.length<=300 /\
 ∃wd ps k,Xl G (l.map λi:Nat=>(i:Int))=some (wd,ps,k)/\wd.length=n/\∀q m,Vj G (l.map λi:Nat=>(i:Int)) q m->m=0/\q=d:=by
 rcases h with ⟨_,_,e⟩ | ⟨_,b,_,e⟩ | ⟨_,_,_,_,e⟩ | ⟨a,b,c,u,j,⟨_,_,e⟩ | ⟨x,rfl,_⟩⟩
 ·cases e
 ·exact absurd e.symm b
 ·cases e
 ·cases e
 have f:G.right=true:=by
  cases f:G.right
  ·exact absurd (.inl f) a
  rfl
 have C:0<=(n:Int)/\(n:Int)<=10:=by
  constructor
  ·exact Int.not_lt.1 λh=>a (.inr (.inl h))
  exact Int.not_lt.1 λh=>a (.inr (.inr (.inl h)))
 have g:Zm d=true:=by
  cases g:Zm d
  ·exact absurd (.inr (.inr (.inr g))) a
  rfl
 have o:=(Bb f C b AA).1;have D:(Zt G).getD G.start.toNat false=true:=by
  unfold Xp at o;rw[AU] at o;exact o.2
 rw[DC] at j;obtain⟨wd,ps,k,p,t⟩:=red_read f D j x;refine⟨b,g,c,f,by simpa using x,wd,ps,k,p,t,λq m A=>?_⟩;rcases A with ⟨y,_⟩ | ⟨H,F,E,y,h⟩
 ·rw[p] at y;cases y
 rw[p] at y;obtain⟨rfl,rfl,rfl⟩:wd=H/\ps=F/\k=E:=by simpa using y
 rw[t] at h;rcases h with ⟨y,_⟩ | ⟨_,y,_⟩ | ⟨_,_,rfl,v,r,s,e,rfl⟩
 ·omega
 ·exact absurd b y
 obtain rfl:=j.kept s (Ba e);have:=(j.parse (z:=[]) (z':=[]) s rfl).2.1;rw[<-this];exact⟨rfl,(Ul d B g).1.symm⟩
