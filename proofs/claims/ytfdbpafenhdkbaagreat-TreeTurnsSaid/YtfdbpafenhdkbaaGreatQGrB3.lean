/- first: the reference's First, walked. -/
import Derived.Test.YtfdbpafenhdkbaaGreatQGrB1
namespace Go.Proofs.YtfdbpafenhdkbaaGreat
open Go.RowKit
set_option linter.unusedVariables false
set_option linter.unusedSimpArgs false

theorem passF_len (N : List Bool) (rs : List Rul) (F : List Nat) : (passF N rs F).length = F.length := (passF_grows N rs).len F
theorem iterF_len (N : List Bool) (rs : List Rul) (F : List Nat) : ∀ k, (iter (passF N rs) k F).length = F.length
  | 0 => rfl
  | k + 1 => by rw [iter, passF_len, iterF_len N rs F k]
theorem Gr.Fits.symN {G : Gr} (F : G.Fits) {r : Rul} (hr : r ∈ G.rules) : ∀ s ∈ r.right, -(G.nons.length : Int) ≤ s := fun s hs => (F.sym r hr s hs).1
theorem nullN_len (G : Gr) : (nullN G).length = G.nons.length := by rw [nullN_grown]; unfold grownN; rw [iterN_len]; simp

set_option maxHeartbeats 4000000 in
theorem rf_First (h : GH) (G : Gr) (w : World) (hg : GrAt w h G) (h1 : h.n1 ≤ 100) (h2 : h.n2 ≤ 100) (h3 : h.n3 ≤ 100) :
    Calls Tryz.prog 15 #[GV h G.start] w fun e w' => Below w.heap.size w w' ∧
      ((G.right = false ∧ e = .returned (.slice none 0 0)) ∨ (G.right = true ∧ ∃ g, w.heap.size ≤ g ∧ e = .returned (.slice (some ⟨g, 0, none⟩) h.n2 h.n2) ∧ SetT w' g (firstN G))) := by
  obtain ⟨a1, n1, c1, a2, n2, c2, a3, n3, c3⟩ := h
  have e1 : G.terms.length = n1 := hg.terms.len
  have e2 : G.nons.length = n2 := hg.nons.len
  have e3 : G.rules.length = n3 := hg.rules.len
  have k3 := hg.rules.cap
  have k2 := hg.nons.cap
  simp only [] at h1 h2 h3 k3 k2
  have Hg := Lib.hid hg
  have hB0 := alloc_below w (.cells #[.slice a1 n1 c1, .slice a2 n2 c2, .slice a3 n3 c3, .int .i64 G.start] 26)
  have hbox := GBox.new w 26 ⟨a1, n1, c1, a2, n2, c2, a3, n3, c3⟩ G.start
  have hmk := make_sets n2 (by omega)
  go_enter Tryz.func15, Tryz.ntmps15
  have ⟨z5, z0, z1, z2, z3⟩ := hbox
  simp only [] at z0 z1 z2 z3
  go_wp2_with fail
  generalize w.alloc (.cells #[.slice a1 n1 c1, .slice a2 n2 c2, .slice a3 n3 c3, .int .i64 G.start] 26) = W0 at *
  (with_reducible refine (rf_right9 ⟨a1, n1, c1, a2, n2, c2, a3, n3, c3⟩ G W0 (hg.below hB0) (by simp only []; omega) (by simp only []; omega) (by simp only []; omega)).mono ?_)
  rintro e W1 ⟨rfl, hb1⟩
  have hB1 := below_tail hB0 hb1
  have hbx1 := hbox.below hb1
  have ⟨y5, y0, y1, y2, y3⟩ := hbx1
  simp only [] at y0 y1 y2 y3
  clear z0 z1 z2 z3
  rcases hrt : G.right with _ | _
  · go_wp2_with fail
    go_ret
    exact ⟨hB1, .inl ⟨hrt, rfl⟩⟩
  · have hfit := Gr.fits hrt
    have Hrt := Lib.hid hrt
    have Hfit := Lib.hid hfit
    clear hfit
    go_wp2_with fail
    (with_reducible refine (rf_Nullable ⟨a1, n1, c1, a2, n2, c2, a3, n3, c3⟩ G W1 (hg.below hB1) (by simp only []; omega) (by simp only []; omega) (by simp only []; omega)).mono ?_)
    rintro e W2 ⟨hb2, ⟨hr, rfl⟩ | ⟨hr, gN, hgN, rfl, hTN⟩⟩
    · rw [hr] at hrt; cases hrt
    · have hB2 := below_tail hB1 hb2
      have hbx2 := hbx1.below hb2
      have ⟨x5, x0, x1, x2, x3⟩ := hbx2
      simp only [] at x0 x1 x2 x3
      have hNl : (nullN G).length = n2 := by rw [nullN_len, e2]
      have Hfin : Hid (firstN G = iter (passF (nullN G) G.rules) n2 (List.replicate n2 0)) := Lib.hid (by unfold firstN; rw [e2])
      generalize nullN G = N at *
      clear hr hrt y0 y1 y2 y3
      go_wp2_with fail
      have hT0 := SetT.new W2 (List.replicate n2 0)
      have hB20 := alloc_below W2 (.cells (nums .u32 (List.replicate n2 0)).toArray 33)
      generalize W2.alloc (.cells (nums .u32 (List.replicate n2 0)).toArray 33) = W3 at *
      clear x0 x1 x2 x3
      go_loopw [5, 6, 7] (fun i _ _ wr => ∃ (k : Nat), k ≤ n2 ∧ i = .int .i64 (k : Int) ∧ Below W2.heap.size W2 wr ∧ SetT wr W2.heap.size (iter (passF N G.rules) k (List.replicate n2 0))) (fun i _ _ _ => n2 - (intOf i).toNat)
      case atStart => exact ⟨0, Nat.zero_le _, rfl, hB20, hT0⟩
      case round =>
        clear hT0 hB20
        obtain ⟨k, hk, rfl, hB, hT⟩ := hrel
        have ⟨y5, y0, y1, y2, y3⟩ := hbx2.below hB
        simp only [] at y0 y1 y2 y3
        by_cases hkk : k < n2
        · go_wp2_with fail
          clear y0 y1 y2 y3
          have hFl : (iter (passF N G.rules) k (List.replicate n2 0)).length = n2 := by rw [iterF_len]; simp
          have hFs := iterF_small N G.rules (Small.zero n2) k
          have Hit : Hid (passF N G.rules (iter (passF N G.rules) k (List.replicate n2 0)) = iter (passF N G.rules) (k + 1) (List.replicate n2 0)) := Lib.hid rfl
          generalize iter (passF N G.rules) k (List.replicate n2 0) = F at *
          go_loopw [6, 7] (fun i _ wz => ∃ (j : Nat), j ≤ n3 ∧ i = .int .i64 (j : Int) ∧ Below W2.heap.size W2 wz ∧ SetT wz W2.heap.size (passF N (G.rules.take j) F)) (fun i _ _ => n3 - (intOf i).toNat)
          case atStart => exact ⟨0, Nat.zero_le _, rfl, hB, by simpa [passF] using hT⟩
          case round =>
            clear hB hT
            obtain ⟨j, hj, rfl, hB, hT⟩ := hrel
            have ⟨y5, y0, y1, y2, y3⟩ := hbx2.below hB
            simp only [] at y0 y1 y2 y3
            by_cases hjj : j < n3
            · obtain ⟨bb, off, r, Ar, cr, rfl, hb, Hr, q0, q1, q2, hrr⟩ := Hg.out.rules.get hjj
              have hBw := below_tail hB2 hB
              rw [← hBw.cell (by exact hb)] at q0 q1 q2
              have hmem := List.mem_of_getElem? Hr.out
              have hFj : (passF N (G.rules.take j) F).length = n2 := by rw [passF_len]; exact hFl
              have hFs2 := passF_small N (G.rules.take j) hFs
              have hnx : passF N (G.rules.take (j + 1)) F = growF N r (passF N (G.rules.take j) F) := by rw [take_snoc' Hr.out, passF_snoc]
              have hlt : W2.heap.size < wr.heap.size := hT.lt
              obtain ⟨l1, l2⟩ := Hfit.out.left r hmem
              obtain ⟨jl, hjl⟩ : ∃ jl : Nat, r.left = (jl : Int) := ⟨r.left.toNat, by omega⟩
              have hjl2 : jl < n2 := by omega
              have hsy := Hfit.out.symN hmem
              rw [e2] at hsy
              generalize passF N (G.rules.take j) F = Fj at *
              unfold growF at hnx
              rw [show r.left.toNat = jl by omega] at hnx
              rw [hjl] at q0
              have hB1' := alloc_below wr (.cells #[.int .i64 (jl : Int), .slice Ar r.right.length cr, .int .i64 r.prec] 41)
              have hT1 : SetT (wr.alloc (.cells #[.int .i64 (jl : Int), .slice Ar r.right.length cr, .int .i64 r.prec] 41)) W2.heap.size Fj := Blk.ext hT hB1'
              have hy1 := RBox.new wr 41 (jl : Int) Ar r.right.length cr r.prec
              have p5 := alloc_size wr (.cells #[.int .i64 (jl : Int), .slice Ar r.right.length cr, .int .i64 r.prec] 41)
              have ⟨u5, u0, u1, u2⟩ := hy1
              go_wp2_with fail
              have hB3 := hB.trans (hB1'.mono hB.size)
              generalize wr.alloc (.cells #[.int .i64 (jl : Int), .slice Ar r.right.length cr, .int .i64 r.prec] 41) = wv at *
              have hlt2 : W2.heap.size < wv.heap.size := by omega
              have cO := fun x : Ext wv => rf_of Ar r.right.length cr gN W2.heap.size n2 r.right N Fj 0 (bl wv x) (((hrr.below hBw).below hB1').ext (Nat.le_refl _) (bl_below wv x)) (Blk.ext (Blk.ext hTN hB3) (bl_below wv x)) (Blk.ext hT1 (bl_below wv x)) hNl hFj (by omega) hsy hFs2 (by decide)
              have hat := hT1.at (i := jl) (by omega)
              have hput := fun x : Ext wv => SetT.put (Blk.ext hT1 (bl_below wv x) : SetT (bl wv x) W2.heap.size Fj) jl (Fj.getD jl 0 ||| beginP N Fj r.right 0)
              have hfz : wv.frozen? ⟨W2.heap.size, jl, none⟩ = false := Blk.frozen hT1 jl
              have hlo := hFs2.get jl
              have hhi : beginP N Fj r.right 0 < 4294967296 := beginGo_lt N hFs2 (by decide) _ _ (by decide)
              have hor := or32 (Fj.getD jl 0) (beginP N Fj r.right 0) hlo hhi
              unfold addAt at hnx
              have Hnx := Lib.hid hnx
              have CO := Lib.hid cO
              have Hput := Lib.hid hput
              have HB3 := Lib.hid hB3
              generalize Fj.getD jl 0 ||| beginP N Fj r.right 0 = z at *
              generalize Fj.getD jl 0 = old at *
              generalize beginP N Fj r.right 0 = beg at *
              have bc := bl_cell wv
              have bf := bl_frozen wv
              clear hnx cO hput hB3 hT hT1 hrr hBw hB1' hy1 q0 q1 q2 hsy hmk
              refine wp_region_below_tail 15 (by kernel_rfl) (by kernel_rfl) ?_
              simp only [List.take_succ_cons, List.take_zero, List.drop_succ_cons, List.drop_zero]
              repeat (go_big_quiet_step ((go_at_call 41; with_reducible exact bl_of_same (CO.out _))))
              refine wpQuiet_nil ?_
              rintro _ ⟨x, rfl⟩
              have hcx := (bc x W2.heap.size jl hlt2).trans hat
              have hfx := (bf x W2.heap.size jl hlt2).trans hfz
              have hsx := bl_size wv x
              go_wp2_with fail
              go_roundw
              case rel => exact ⟨j + 1, by omega, by go_num, (HB3.out.trans ((bl_below wv x).mono (by omega))).trans (grown_is_below (grown_set _ _ _ _) (by omega) (Nat.le_refl _)), by rw [Hnx.out]; exact Hput.out x⟩
              case measure => simp [intOf]; omega
            · obtain rfl : j = n3 := by omega
              rw [List.take_of_length_le (by omega), Hit.out] at hT
              go_wp2_with fail
              go_roundw
              case rel => exact ⟨k + 1, by omega, by go_num, hB, hT⟩
              case measure => simp [intOf]; omega
        · obtain rfl : k = n2 := by omega
          rw [← Hfin.out] at hT
          have HT := Lib.hid hT
          clear hT
          go_wp2_with fail
          go_ret
          exact ⟨below_tail hB2 hB, .inr ⟨Hrt.out, W2.heap.size, hB2.size, rfl, HT.out⟩⟩
end Go.Proofs.YtfdbpafenhdkbaaGreat
