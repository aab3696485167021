/- the reference's reading: has. -/
import Derived.Test.YtfdbpafenhdkbaaGreatDoorQGrW3
import Derived.Test.YtfdbpafenhdkbaaGreatDoorQSetPlain
import Derived.Test.YtfdbpafenhdkbaaGreatDoorQGrE0
namespace Go.Proofs.YtfdbpafenhdkbaaGreatDoor
open Go.RowKit
set_option linter.unusedVariables false
set_option linter.unusedSimpArgs false

theorem Nums.part {k : IntKind} {w : World} {b off n c : Nat} {xs : List Nat} (h : Nums k w (some ⟨b, off, none⟩) n c xs) (i m c' : Nat) (hm : i + m ≤ n) (hc : m ≤ c') (hc' : c' ≤ 9223372036854775807) :
    Nums k w (some ⟨b, off + i, none⟩) m c' ((xs.drop i).take m) := by
  have hl := h.len
  refine ⟨by simp [nums]; omega, hc, hc', fun hn => ?_⟩
  simp [nums] at hn
  obtain ⟨b', off', e, hb, hcell⟩ := h.2.2.2 (by rw [nums_length]; omega)
  injection e with e
  injection e with e1 e2
  subst e1; subst e2
  refine ⟨b, off + i, rfl, hb, fun j hj => ?_⟩
  simp [nums] at hj
  rw [Nat.add_assoc, hcell (i + j) (by rw [nums_length]; omega)]
  simp [nums, List.getElem?_take, List.getElem?_drop]
  intro; omega

/-- does pat stand at i? -/
def hasP (xs : List Nat) (i : Nat) (pat : List Nat) : Bool := decide (i + pat.length ≤ xs.length) && decide ((xs.drop i).take pat.length = pat)
set_option maxRecDepth 20000 in
theorem rf_has7 (A : Option Addr) (n c i : Nat) (xs pat : List Nat) (w : World) (h : Nums .u8 w A n c xs) (hb : ∀ x ∈ xs, x < 256) (hp : ∀ x ∈ pat, x < 256) (hn : n ≤ 100000) (hi : i ≤ 100000) (hpl : 1 ≤ pat.length ∧ pat.length ≤ 100) :
    Calls Tryz.prog 110 #[.slice A n c, .int .i64 (i : Int), .string (str pat)] w fun e w' => e = .returned (.bool (hasP xs i pat)) ∧ w = w' := by
  obtain rfl := h.len
  have hcap := h.cap
  have hsz := str_size pat
  by_cases h1 : i + pat.length ≤ xs.length
  · obtain ⟨b, off, rfl, hbl, hc0⟩ := h.at_ (by omega)
    have hpart := h.part i pat.length (c - i) (by omega) (by omega) (by omega)
    have hl : ((xs.drop i).take pat.length).length = pat.length := by rw [List.length_take, List.length_drop]; omega
    have hf : hasP xs i pat = ((str ((xs.drop i).take pat.length)).toList == (str pat).toList) := by
      unfold hasP
      rw [decide_eq_true h1, Bool.true_and, Bool.eq_iff_iff, decide_eq_true_iff, beq_iff_eq]
      constructor
      · intro h; rw [h]
      · intro h
        have h2 : str ((xs.drop i).take pat.length) = str pat := by
          have := toList_beq (str ((xs.drop i).take pat.length)) (str pat)
          rw [h, beq_self_eq_true] at this
          simpa using this.symm
        have h3 := congrArg bytesOf h2
        rwa [bytesOf_str _ fun y hy => hb y (List.mem_of_mem_drop (List.mem_of_mem_take hy)), bytesOf_str _ hp] at h3
    generalize (xs.drop i).take pat.length = sub at *
    rw [← hl] at hpart
    have hconv := run_bytes_str (P := Tryz.prog) w 49 5 9 Tryz.underlying49 Tryz.underlying5 Tryz.underlying9 _ _ sub hpart
    rw [hl] at hconv
    have Hf := Lib.hid hf
    have s2 : IntKind.i64.wrap ((i : Int) + (pat.length : Int)) = ((i + pat.length : Nat) : Int) := by rw [IntWalk.i64_in _ (by omega)]; omega
    have s3 : ((i + pat.length : Nat) : Int) ≤ (xs.length : Int) := by omega
    clear hf hpart hc0 h hb hp
    go_enter Tryz.func110, Tryz.ntmps110
    go_wp2_with fail
    go_ret
    exact ⟨by rw [Hf.out]; rfl, rfl⟩
  · have hf : hasP xs i pat = false := by unfold hasP; rw [decide_eq_false h1]; rfl
    have s2 : IntKind.i64.wrap ((i : Int) + (pat.length : Int)) = ((i + pat.length : Nat) : Int) := by rw [IntWalk.i64_in _ (by omega)]; omega
    have Hf := Lib.hid hf
    have d1 : decide (((i + pat.length : Nat) : Int) ≤ (xs.length : Int)) = false := by rw [decide_eq_false_iff_not]; omega
    clear hf h hb hp
    go_enter Tryz.func110, Tryz.ntmps110
    go_wp2_with fail
    go_ret
    exact ⟨by rw [Hf.out]; rfl, rfl⟩
end Go.Proofs.YtfdbpafenhdkbaaGreatDoor

namespace Go.Proofs.YtfdbpafenhdkbaaGreatDoor
open Go.RowKit
set_option linter.unusedVariables false
set_option linter.unusedSimpArgs false

def blankB (x : Nat) : Bool := x == 32 || x == 9 || x == 10 || x == 13
/-- nothing but a blank may be skipped at i -/
def plainAt (xs : List Nat) (i : Nat) : Bool := !hasP xs i [47, 42] && !hasP xs i [47, 47] && !hasP xs i [37, 123] && (xs.getD i 0 != 60) && (xs.getD i 0 != 123)
set_option maxRecDepth 20000 in
set_option maxHeartbeats 1000000 in
theorem rf_skip7 (A : Option Addr) (n c i : Nat) (xs : List Nat) (w : World) (h : Nums .u8 w A n c xs) (hb : ∀ x ∈ xs, x < 256) (hn : n ≤ 100000) (hi : i < n) (hp : plainAt xs i = true) :
    Calls Tryz.prog 95 #[.slice A n c, .int .i64 (i : Int)] w fun e w' => e = .returned (.tuple #[.int .i64 ((if blankB (xs.getD i 0) then i + 1 else i : Nat) : Int), .bool (blankB (xs.getD i 0))]) ∧ w = w' := by
  obtain rfl := h.len
  have hcap := h.cap
  unfold plainAt at hp
  simp only [Bool.and_eq_true, Bool.not_eq_true', bne_iff_ne, ne_eq] at hp
  obtain ⟨⟨⟨⟨h1, h2⟩, h3⟩, h4⟩, h5⟩ := hp
  have c1 := rf_has7 A xs.length c i xs [47, 42] w h hb (by decide) hn (by omega) (by decide)
  have c2 := rf_has7 A xs.length c i xs [47, 47] w h hb (by decide) hn (by omega) (by decide)
  have c3 := rf_has7 A xs.length c i xs [37, 123] w h hb (by decide) hn (by omega) (by decide)
  rw [h1] at c1
  rw [h2] at c2
  rw [h3] at c3
  rw [show str [47, 42] = ⟨#[47, 42]⟩ from rfl] at c1
  rw [show str [47, 47] = ⟨#[47, 47]⟩ from rfl] at c2
  rw [show str [37, 123] = ⟨#[37, 123]⟩ from rfl] at c3
  obtain ⟨b, off, x, rfl, hbl, Hx, hc⟩ := h.get hi
  have hx : xs.getD i 0 = x := by rw [List.getD_eq_getElem?_getD, Hx.out]; rfl
  rw [hx] at h4 h5 ⊢
  have C1 := Lib.hid c1
  have C2 := Lib.hid c2
  have C3 := Lib.hid c3
  clear c1 c2 c3 h1 h2 h3 h hb hx
  have d4 : ((x : Int) == 60) = false := by rw [beq_eq_false_iff_ne]; omega
  have d5 : ((x : Int) == 123) = false := by rw [beq_eq_false_iff_ne]; omega
  have hways : x = 32 ∨ x = 9 ∨ x = 10 ∨ x = 13 ∨ (((x : Int) == 32) = false ∧ ((x : Int) == 9) = false ∧ ((x : Int) == 10) = false ∧ ((x : Int) == 13) = false ∧ blankB x = false) := by
    by_cases g1 : x = 32
    · exact .inl g1
    · by_cases g2 : x = 9
      · exact .inr (.inl g2)
      · by_cases g3 : x = 10
        · exact .inr (.inr (.inl g3))
        · by_cases g4 : x = 13
          · exact .inr (.inr (.inr (.inl g4)))
          · refine .inr (.inr (.inr (.inr ⟨?_, ?_, ?_, ?_, by simp [blankB, g1, g2, g3, g4]⟩))) <;> (rw [beq_eq_false_iff_ne]; omega)
  rcases hways with rfl | rfl | rfl | rfl | ⟨g1, g2, g3, g4, g5⟩
  all_goals
    first
      | rw [g5, if_neg Bool.false_ne_true]
      | rw [show blankB 32 = true from rfl, if_pos rfl]
      | rw [show blankB 9 = true from rfl, if_pos rfl]
      | rw [show blankB 10 = true from rfl, if_pos rfl]
      | rw [show blankB 13 = true from rfl, if_pos rfl]
    go_enter Tryz.func95, Tryz.ntmps95
    go_wp2_with (first
      | (go_at_call 110; (with_reducible refine C1.out.mono ?_); rintro e w2 ⟨rfl, rfl⟩)
      | (go_at_call 110; (with_reducible refine C2.out.mono ?_); rintro e w3 ⟨rfl, rfl⟩)
      | (go_at_call 110; (with_reducible refine C3.out.mono ?_); rintro e w4 ⟨rfl, rfl⟩))
    refine bodyPost_ret (results_tmp2 rfl _ _ _) rfl ?_
    exact ⟨by first | rfl | (simp [blankB]; done) | (simp [g5]; done), rfl⟩
end Go.Proofs.YtfdbpafenhdkbaaGreatDoor

namespace Go.Proofs.YtfdbpafenhdkbaaGreatDoor
open Go.RowKit
set_option linter.unusedVariables false
set_option linter.unusedSimpArgs false

def markP (x : Nat) : Int := if x = 58 then 10 else if x = 124 then 11 else if x = 59 then 12 else 0
set_option maxRecDepth 20000 in
theorem rf_mark7 (x : Nat) (w : World) : Calls Tryz.prog 117 #[.int .u8 (x : Int)] w fun e w' => e = .returned (.int .i64 (markP x)) ∧ w = w' := by
  have hways : x = 58 ∨ x = 124 ∨ x = 59 ∨ (((x : Int) == 58) = false ∧ ((x : Int) == 124) = false ∧ ((x : Int) == 59) = false ∧ markP x = 0) := by
    by_cases g1 : x = 58
    · exact .inl g1
    · by_cases g2 : x = 124
      · exact .inr (.inl g2)
      · by_cases g3 : x = 59
        · exact .inr (.inr (.inl g3))
        · refine .inr (.inr (.inr ⟨?_, ?_, ?_, by simp [markP, g1, g2, g3]⟩)) <;> (rw [beq_eq_false_iff_ne]; omega)
  rcases hways with rfl | rfl | rfl | ⟨g1, g2, g3, g5⟩
  all_goals
    first
      | rw [g5]
      | rw [show markP 58 = 10 from rfl]
      | rw [show markP 124 = 11 from rfl]
      | rw [show markP 59 = 12 from rfl]
    go_enter Tryz.func117, Tryz.ntmps117
    go_wp2_with fail
    go_ret
    exact ⟨rfl, rfl⟩
end Go.Proofs.YtfdbpafenhdkbaaGreatDoor

namespace Go.Proofs.YtfdbpafenhdkbaaGreatDoor
open Go.RowKit
set_option linter.unusedVariables false
set_option linter.unusedSimpArgs false

theorem results_cell2 {P : Program} {fn : Func} {p u v : Tmp} {ty : TypeId} (h : fn.results = #[.cell p ty, .tmp u, .tmp v]) (tmps : Array Value) (w : World) (g : Nat) (t : TypeId) (cs : Array Value) (fr : Nat × Nat) (d : TypeDesc)
    (hp : tmps.getD p undef = .pointer (some ⟨g, 0, none⟩)) (hg : w.heap[g]? = some (.cells cs t fr))
    (hu : P.underlying ty = some d) (hd : (match d with | .struct _ | .array _ _ => true | _ => false) = true) (hi : (P.info? ty).map (·.size) = some cs.size) :
    (results fn tmps).run P w = .ok (.tuple #[.agg cs, tmps.getD u undef, tmps.getD v undef]) w := by
  have hp' : tmps[p]?.getD undef = .pointer (some ⟨g, 0, none⟩) := by simpa using hp
  simp [results, h, hp', asAddr, run_loadVar_row w g t ty cs fr d hg hu hd hi]

/-- a token as a value -/
abbrev TokV (kd : Int) (tx : List Nat) (at_ : Value) : Value := .agg #[.int .i64 kd, .string (str tx), at_]
set_option maxRecDepth 100000 in
set_option maxHeartbeats 2000000 in
theorem rf_one_mark (A : Option Addr) (n c i : Nat) (xs : List Nat) (w : World) (h : Nums .u8 w A n c xs) (hb : ∀ x ∈ xs, x < 256) (hn : n ≤ 100000) (hi : i < n) (h1 : letterB (xs.getD i 0) = false) (h2 : xs.getD i 0 ≠ 39) (h3 : hasP xs i [37, 37] = false) (h4 : xs.getD i 0 ≠ 37) (h5 : markP (xs.getD i 0) ≠ 0) :
    Calls Tryz.prog 97 #[.slice A n c, .int .i64 (i : Int)] w fun e w' => e = .returned (.tuple #[TokV (markP (xs.getD i 0)) [] (atP xs i), .int .i64 ((i + 1 : Nat) : Int), .int .i64 0]) ∧ Below w.heap.size w w' := by
  obtain rfl := h.len
  have hcap := h.cap
  obtain ⟨b, off, x, rfl, hbl, Hx, hc⟩ := h.get hi
  have hx : xs.getD i 0 = x := by rw [List.getD_eq_getElem?_getD, Hx.out]; rfl
  rw [hx] at h1 h2 h4 h5 ⊢
  have H := Lib.hid h
  have CT := Lib.hid fun W (hW : Below w.heap.size w W) => ref_at (some ⟨b, off, none⟩) xs.length c xs (i : Int) W (h.below hW) hn
  have CH := Lib.hid fun W (hW : Below w.heap.size w W) => (rf_has7 (some ⟨b, off, none⟩) xs.length c i xs [37, 37] W (h.below hW) hb (by decide) hn (by omega) (by decide))
  rw [h3, show str [37, 37] = ⟨#[37, 37]⟩ from rfl] at CH
  have hx256 : x < 256 := hb x (List.mem_of_getElem? Hx.out)
  have CF := Lib.hid fun W => lx_first x W hx256
  rw [h1] at CF
  have CM := Lib.hid fun W => rf_mark7 x W
  obtain ⟨ca, cb, hat⟩ : ∃ a b, atP xs (i : Int) = .complex .f64 a b := by
    unfold atP PV
    split
    · exact ⟨_, _, rfl⟩
    · exact ⟨_, _, rfl⟩
  rw [hat] at CT ⊢
  have d2 : ((x : Int) == 39) = false := by rw [beq_eq_false_iff_ne]; omega
  have d4 : ((x : Int) == 37) = false := by rw [beq_eq_false_iff_ne]; omega
  have d5 : (markP x == 0) = false := by rw [beq_eq_false_iff_ne]; exact h5
  generalize markP x = mk at *
  clear h hb h1 h2 h3 h4 h5 hx hat
  have hB1 := alloc_below w (.cells #[.int .i64 0, .string ⟨#[]⟩, .complex .f64 0 0] 116)
  have ksc : ∀ (w : World) (a : Addr) (k : FloatKind) (x y : Nat) (m : Mode), (store a (.complex k x y) m).run Tryz.prog w = stored Tryz.prog w a (.complex k x y) m := fun w a k x y m => run_store Tryz.prog w a _ m rfl
  go_enter Tryz.func97, Tryz.ntmps97
  go_wp2_with (first
    | (go_at_call 96; (with_reducible refine (CT.out _ hB1).mono ?_); rintro e w2 ⟨rfl, rfl⟩)
    | (go_at_call 93; (with_reducible refine (CF.out _).mono ?_); rintro e w3 ⟨rfl, rfl⟩)
    | (go_at_call 110; (with_reducible refine (CH.out _ (below_alloc hB1 _)).mono ?_); rintro e w4 ⟨rfl, rfl⟩)
    | (go_at_call 117; (with_reducible refine (CM.out _).mono ?_); rintro e w5 ⟨rfl, rfl⟩))
  refine bodyPost_ret (results_cell2 (p := 4) (u := 5) (v := 6) (by kernel_rfl) _ _ w.heap.size 116 #[.int .i64 mk, .string ⟨#[]⟩, .complex .f64 ca cb] (0, 0) _ rfl (Blk.ext (Blk.new w _ _) (alloc_below _ _)) Tryz.underlying116 rfl (by kernel_rfl)) rfl ?_
  exact ⟨rfl, below_alloc (alloc_below _ _) _⟩
end Go.Proofs.YtfdbpafenhdkbaaGreatDoor

namespace Go.Proofs.YtfdbpafenhdkbaaGreatDoor
open Go.RowKit
set_option linter.unusedVariables false
set_option linter.unusedSimpArgs false

set_option maxRecDepth 100000 in
set_option maxHeartbeats 2000000 in
theorem rf_one_cut (A : Option Addr) (n c i : Nat) (xs : List Nat) (w : World) (h : Nums .u8 w A n c xs) (hb : ∀ x ∈ xs, x < 256) (hn : n ≤ 100000) (hi : i < n) (h1 : letterB (xs.getD i 0) = false) (h2 : xs.getD i 0 ≠ 39) (h3 : hasP xs i [37, 37] = true) :
    Calls Tryz.prog 97 #[.slice A n c, .int .i64 (i : Int)] w fun e w' => e = .returned (.tuple #[TokV 9 [] (atP xs i), .int .i64 ((i + 2 : Nat) : Int), .int .i64 0]) ∧ Below w.heap.size w w' := by
  obtain rfl := h.len
  have hcap := h.cap
  obtain ⟨b, off, x, rfl, hbl, Hx, hc⟩ := h.get hi
  have hx : xs.getD i 0 = x := by rw [List.getD_eq_getElem?_getD, Hx.out]; rfl
  rw [hx] at h1 h2
  have H := Lib.hid h
  have CT := Lib.hid fun W (hW : Below w.heap.size w W) => ref_at (some ⟨b, off, none⟩) xs.length c xs (i : Int) W (h.below hW) hn
  have CH := Lib.hid fun W (hW : Below w.heap.size w W) => (rf_has7 (some ⟨b, off, none⟩) xs.length c i xs [37, 37] W (h.below hW) hb (by decide) hn (by omega) (by decide))
  rw [h3, show str [37, 37] = ⟨#[37, 37]⟩ from rfl] at CH
  have hx256 : x < 256 := hb x (List.mem_of_getElem? Hx.out)
  have CF := Lib.hid fun W => lx_first x W hx256
  rw [h1] at CF
  obtain ⟨ca, cb, hat⟩ : ∃ a b, atP xs (i : Int) = .complex .f64 a b := by
    unfold atP PV
    split
    · exact ⟨_, _, rfl⟩
    · exact ⟨_, _, rfl⟩
  rw [hat] at CT ⊢
  have d2 : ((x : Int) == 39) = false := by rw [beq_eq_false_iff_ne]; omega
  clear h hb h1 h2 h3 hx hat
  have hB1 := alloc_below w (.cells #[.int .i64 0, .string ⟨#[]⟩, .complex .f64 0 0] 116)
  have ksc : ∀ (w : World) (a : Addr) (k : FloatKind) (x y : Nat) (m : Mode), (store a (.complex k x y) m).run Tryz.prog w = stored Tryz.prog w a (.complex k x y) m := fun w a k x y m => run_store Tryz.prog w a _ m rfl
  go_enter Tryz.func97, Tryz.ntmps97
  go_wp2_with (first
    | (go_at_call 96; (with_reducible refine (CT.out _ hB1).mono ?_); rintro e w2 ⟨rfl, rfl⟩)
    | (go_at_call 93; (with_reducible refine (CF.out _).mono ?_); rintro e w3 ⟨rfl, rfl⟩)
    | (go_at_call 110; (with_reducible refine (CH.out _ (below_alloc hB1 _)).mono ?_); rintro e w4 ⟨rfl, rfl⟩))
  refine bodyPost_ret (results_cell2 (p := 4) (u := 5) (v := 6) (by kernel_rfl) _ _ w.heap.size 116 #[.int .i64 9, .string ⟨#[]⟩, .complex .f64 ca cb] (0, 0) _ rfl (Blk.ext (Blk.new w _ _) (alloc_below _ _)) Tryz.underlying116 rfl (by kernel_rfl)) rfl ?_
  exact ⟨rfl, below_alloc (alloc_below _ _) _⟩
end Go.Proofs.YtfdbpafenhdkbaaGreatDoor
