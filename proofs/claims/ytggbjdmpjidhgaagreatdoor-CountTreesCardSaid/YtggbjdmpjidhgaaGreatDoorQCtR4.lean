/- counts: a row of values that is made; the reference's forests. -/
import Derived.Test.YtggbjdmpjidhgaaGreatDoorQCtR3
import Derived.Test.YtggbjdmpjidhgaaGreatDoorQCtP4
set_option linter.unusedVariables false
set_option linter.unusedSimpArgs false
set_option maxHeartbeats 8000000
set_option maxRecDepth 100000
namespace Go.Proofs.YtggbjdmpjidhgaaGreatDoor
open Go.RowKit
theorem Tryz.infoVal:(Tryz.prog.info? 46).map (fun i=>(i.zero,i.size,i.bytes))=some (some (.agg #[.slice none 0 0, .bool false]),2,32):=by kernel_rfl
theorem made_vals (n:Nat):madeCells #[Value.slice none 0 0,Value.bool false] (n * 2)=zeroCells n:=by
 apply Array.ext_getElem?
 intro j
 by_cases hj:j < n * 2
 · have hq:=zeroCells_at n (j / 2) (by omega)
   have e1:(madeCells #[Value.slice none 0 0,Value.bool false] (n * 2))[j]? = some (if j % 2=0 then Value.slice none 0 0 else Value.bool false):=by
    simp [madeCells,hj]
    rcases Nat.mod_two_eq_zero_or_one j with h | h <;> simp [h]
   rw [e1]
   rcases Nat.mod_two_eq_zero_or_one j with h | h
   · rw [if_pos h,← hq.1]
     congr 1
     omega
   · rw [if_neg (by omega),← hq.2]
     congr 1
     omega
 · have e1:(madeCells #[Value.slice none 0 0,Value.bool false] (n * 2)).size=n * 2:=by simp [madeCells]
   have e2:=zeroCells_size n
   rw [Array.getElem?_eq_none (by omega),Array.getElem?_eq_none (by omega)]
theorem make_vals (n:Nat) (hn:n≤1000) (w:World) :
 (Instr.makeSlice 89 (.int .i64 (n:Int)) (.int .i64 (n:Int))).run Tryz.prog w = .ok (.slice (some ⟨w.heap.size,0,none⟩) n n) (w.alloc (.cells (zeroCells n) 46)):=by
 obtain ⟨i,hi',hz,hs,hby⟩:=info_parts Tryz.infoVal
 have hb':(i.bytes:Int) * (n:Int)≤281474976710656:=by rw [hby];omega
 have hr:=run_make (P:=Tryz.prog) w 89 46 i (.agg #[.slice none 0 0, .bool false]) Tryz.underlying89 hi' hz .i64 .i64 n n (by omega) (by omega) hb' (by omega)
 simp only [Int.toNat_natCast] at hr
 rw [hr,hs]
 simp only [Value.cells,made_vals]
end Go.Proofs.YtggbjdmpjidhgaaGreatDoor
