/- lex: lines, and what goes through to a text. -/
import Derived.Test.YtcmfflfgegadjaaLxW6
import Derived.Lib.SlBytesConst
namespace Go.Proofs.Ytcmfflfgegadjaa
open Go.RowKit
set_option linter.unusedVariables false
set_option linter.unusedSimpArgs false

theorem ixB_lt (x : Nat) : ∀ (l : List Nat) (i : Nat), ixB l x = some i → i < l.length
  | [], _, h => by simp [ixB] at h
  | b :: l, i, h => by
    unfold ixB at h
    split at h
    · injection h with h; subst h; simp
    · simp only [Option.map_eq_some_iff] at h
      obtain ⟨j, hj, rfl⟩ := h
      have := ixB_lt x l j hj
      simp; omega
theorem ixS_le (s : List Nat) : ∀ (l : List Nat) (i : Nat), ixS l s = some i → i + s.length ≤ l.length
  | [], i, h => by
    unfold ixS at h
    split at h
    · injection h with h; subst h
      rename_i hs
      simp at hs
      simp [hs]
    · cases h
  | b :: l, i, h => by
    unfold ixS at h
    split at h
    · injection h with h; subst h
      rename_i hp
      have := List.IsPrefix.length_le (List.isPrefixOf_iff_prefix.1 hp)
      omega
    · simp only [Option.map_eq_some_iff] at h
      obtain ⟨j, hj, rfl⟩ := h
      have := ixS_le s l j hj
      simp; omega

def lineN (l : List Nat) : Nat := (ixB l 10).getD l.length
theorem lineN_le (l : List Nat) : lineN l ≤ l.length := by
  unfold lineN
  cases h : ixB l 10 with
  | none => exact Nat.le_refl _
  | some i => exact Nat.le_of_lt (ixB_lt 10 l i h)
theorem lx_line (A : Option Addr) (n c : Nat) (bs : List Nat) (w : World) (h : Nums .u8 w A n c bs) (hb : ∀ y ∈ bs, y < 256) (h0 : 0 < n) :
    Calls Try.prog 41 #[.slice A n c] w fun e w' => e = .returned (.int .i64 (lineN bs : Int)) ∧ w = w' := by
  have hc := lx_indexByte A n c bs 10 w h hb (by decide) h0
  obtain rfl := h.len
  unfold lineN
  cases hi : ixB bs 10 with
  | none =>
    rw [hi] at hc
    have hc' : Calls Try.prog 38 #[.slice A bs.length c, .int .u8 10] w fun e w' => e = .returned (.int .i64 (-1)) ∧ w = w' := hc
    have Hc := Lib.hid hc'
    clear hc hc' hi
    go_enter Try.func41, Try.ntmps41
    go_wp2_with (go_at_call 38; (with_reducible refine Hc.out.mono ?_); rintro e w' ⟨rfl, rfl⟩)
    go_ret
    exact ⟨rfl, rfl⟩
  | some i =>
    rw [hi] at hc
    have hc' : Calls Try.prog 38 #[.slice A bs.length c, .int .u8 10] w fun e w' => e = .returned (.int .i64 (i : Int)) ∧ w = w' := hc
    have Hc := Lib.hid hc'
    clear hc hc' hi
    go_enter Try.func41, Try.ntmps41
    go_wp2_with (go_at_call 38; (with_reducible refine Hc.out.mono ?_); rintro e w' ⟨rfl, rfl⟩)
    go_ret
    exact ⟨rfl, rfl⟩

def thrN (l : List Nat) (head : Nat) (s : List Nat) : Nat := match ixS (l.drop head) s with | none => 0 | some i => head + i + s.length
theorem thrN_le (l : List Nat) (head : Nat) (s : List Nat) (hh : head ≤ l.length) (h : 0 < head) : thrN l head s = 0 ∨ (0 < thrN l head s ∧ thrN l head s ≤ l.length) := by
  unfold thrN
  cases hi : ixS (l.drop head) s with
  | none => exact .inl rfl
  | some i =>
    have := ixS_le s _ i hi
    rw [List.length_drop] at this
    simp only []
    exact .inr ⟨by omega, by omega⟩

theorem lx_through (b off n c : Nat) (bs : List Nat) (hd : Nat) (s : ByteArray) (w : World) (h : Nums .u8 w (some ⟨b, off, none⟩) n c bs) (hb : ∀ y ∈ bs, y < 256) (hh : hd ≤ n) (hh2 : hd < 100) (hn : n ≤ 100000) (hs0 : 0 < s.size) (hs : s.size ≤ 1000) (hM : MaxAt w) :
    Calls Try.prog 40 #[.slice (some ⟨b, off, none⟩) n c, .int .i64 (hd : Int), .string s] w fun e w' => e = .returned (.int .i64 (thrN bs hd (bytesOf s) : Int)) ∧ Below w.heap.size w w' := by
  obtain rfl := h.len
  have hcap := h.cap
  have kc := fun w => Lib.run_convert_string_bytes (P := Try.prog) w 9 24 5 s Try.underlying9 Try.underlying24 Try.underlying5
  have hB := bytesWorld_below w 5 s
  have hk := bytesWorld_nums w 5 s (by simp [maxLen]; omega)
  have hM2 := hM.below hB
  have g1 : (hd : Int) ≤ (bs.length : Int) := by omega
  have g2 : (hd : Int) ≤ (c : Int) := by omega
  have g3 : (bs.length : Int) ≤ (c : Int) := by omega
  have hdr : (bs.drop hd).length = bs.length - hd := List.length_drop
  have hb2 : ∀ y ∈ bs.drop hd, y < 256 := fun y hy => hb y (List.mem_of_mem_drop hy)
  by_cases hc0 : c = hd
  · have hN : Nums .u8 (Lib.bytesWorld w 5 s) (some ⟨b, off, none⟩) (bs.length - hd) 0 (bs.drop hd) := by
      have e0 : bs.drop hd = [] := List.drop_eq_nil_of_le (by omega)
      rw [e0, show bs.length - hd = 0 from by omega]
      exact Nums.nil _ _ _ _ (by decide)
    have hc := lx_index (some ⟨b, off, none⟩) (bs.length - hd) 0 (bs.drop hd) _ s.size _ (bytesOf s) _ hN hk hb2 (bytesOf_lt s) hs0 (by omega) (fun h => by cases h) hM2
    clear hN hdr
    cases hi : ixS (bs.drop hd) (bytesOf s) with
    | none =>
      rw [hi] at hc
      have hc' : Calls Try.prog 63 #[.slice (some ⟨b, off, none⟩) (bs.length - hd) 0, .slice (some ⟨w.heap.size, 0, none⟩) s.size (grownCap w s.size 0 5)] (Lib.bytesWorld w 5 s) fun e w' => e = .returned (.int .i64 (-1)) ∧ Same (Lib.bytesWorld w 5 s) w' := hc
      have Hc := Lib.hid hc'
      have Hf : Hid (thrN bs hd (bytesOf s) = 0) := Lib.hid (by unfold thrN; rw [hi])
      clear hc hc' hi hk
      go_enter Try.func40, Try.ntmps40
      go_wp2_with (go_at_call 63; (with_reducible refine Hc.out.mono ?_); rintro e w' ⟨rfl, hS⟩)
      go_ret
      exact ⟨by rw [Hf.out]; rfl, hB.trans (hS.below _)⟩
    | some i =>
      have hle := ixS_le _ _ i hi
      rw [List.length_drop, bytesOf_len] at hle
      omega
  · have hN : Nums .u8 (Lib.bytesWorld w 5 s) (some ⟨b, off + hd, none⟩) (bs.length - hd) (c - hd) (bs.drop hd) := by
      have := (h.below hB).part hd (bs.length - hd) (c - hd) (by omega) (by omega) (by omega)
      rwa [List.take_of_length_le (by omega)] at this
    have hc := lx_index (some ⟨b, off + hd, none⟩) (bs.length - hd) (c - hd) (bs.drop hd) _ s.size _ (bytesOf s) _ hN hk hb2 (bytesOf_lt s) hs0 (by omega) (fun h => by cases h) hM2
    clear hN hdr
    cases hi : ixS (bs.drop hd) (bytesOf s) with
    | none =>
      rw [hi] at hc
      have hc' : Calls Try.prog 63 #[.slice (some ⟨b, off + hd, none⟩) (bs.length - hd) (c - hd), .slice (some ⟨w.heap.size, 0, none⟩) s.size (grownCap w s.size 0 5)] (Lib.bytesWorld w 5 s) fun e w' => e = .returned (.int .i64 (-1)) ∧ Same (Lib.bytesWorld w 5 s) w' := hc
      have Hc := Lib.hid hc'
      have Hf : Hid (thrN bs hd (bytesOf s) = 0) := Lib.hid (by unfold thrN; rw [hi])
      clear hc hc' hi hk
      go_enter Try.func40, Try.ntmps40
      go_wp2_with (go_at_call 63; (with_reducible refine Hc.out.mono ?_); rintro e w' ⟨rfl, hS⟩)
      go_ret
      exact ⟨by rw [Hf.out]; rfl, hB.trans (hS.below _)⟩
    | some i =>
      rw [hi] at hc
      have hc' : Calls Try.prog 63 #[.slice (some ⟨b, off + hd, none⟩) (bs.length - hd) (c - hd), .slice (some ⟨w.heap.size, 0, none⟩) s.size (grownCap w s.size 0 5)] (Lib.bytesWorld w 5 s) fun e w' => e = .returned (.int .i64 (i : Int)) ∧ Same (Lib.bytesWorld w 5 s) w' := hc
      have hle := ixS_le _ _ i hi
      rw [List.length_drop, bytesOf_len] at hle
      have Hc := Lib.hid hc'
      have Hf : Hid (thrN bs hd (bytesOf s) = hd + i + s.size) := Lib.hid (by unfold thrN; rw [hi, bytesOf_len])
      clear hc hc' hi hk
      go_enter Try.func40, Try.ntmps40
      go_wp2_with (go_at_call 63; (with_reducible refine Hc.out.mono ?_); rintro e w' ⟨rfl, hS⟩)
      go_ret
      exact ⟨by rw [Hf.out]; go_num, hB.trans (hS.below _)⟩
end Go.Proofs.Ytcmfflfgegadjaa
