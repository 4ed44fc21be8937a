/- Telegrams: Encode of the program. -/
import Derived.Test.YtafnebfchhmgcaaGreatN20
namespace Go.Proofs.YtafnebfchhmgcaaGreat
open Go Go.RowKit Go.Sort Go.Shelf
set_option linter.unusedSimpArgs false
set_option linter.unusedVariables false
attribute [local go_sem] cell_if frozen_if grow_cell
theorem four_index (V : Nat → Int) {k : Nat} (hk : k < 4) (w : World) : (Instr.index 69 (.agg #[.int .i64 (V 0), .int .i64 (V 1), .int .i64 (V 2), .int .i64 (V 3)]) (.int .i64 k)).run Tryz.prog w = .ok (.int .i64 (V k)) w := by
  rcases (show k = 0 ∨ k = 1 ∨ k = 2 ∨ k = 3 from by omega) with rfl | rfl | rfl | rfl
  · exact (show (Instr.index 69 (.agg #[.int .i64 (V 0), .int .i64 (V 1), .int .i64 (V 2), .int .i64 (V 3)]) (.int .i64 ((0 : Nat) : Int))).run Tryz.prog w = .ok (.int .i64 (V 0)) w by kernel_rfl)
  · exact (show (Instr.index 69 (.agg #[.int .i64 (V 0), .int .i64 (V 1), .int .i64 (V 2), .int .i64 (V 3)]) (.int .i64 ((1 : Nat) : Int))).run Tryz.prog w = .ok (.int .i64 (V 1)) w by kernel_rfl)
  · exact (show (Instr.index 69 (.agg #[.int .i64 (V 0), .int .i64 (V 1), .int .i64 (V 2), .int .i64 (V 3)]) (.int .i64 ((2 : Nat) : Int))).run Tryz.prog w = .ok (.int .i64 (V 2)) w by kernel_rfl)
  · exact (show (Instr.index 69 (.agg #[.int .i64 (V 0), .int .i64 (V 1), .int .i64 (V 2), .int .i64 (V 3)]) (.int .i64 ((3 : Nat) : Int))).run Tryz.prog w = .ok (.int .i64 (V 3)) w by kernel_rfl)
/-- The first bytes of a frame, with the first values. -/
def encB (s c : Int) (V : Nat → Int) : Nat → List Int
  | 0 => [177, s] ++ w2 c
  | k + 1 => encB s c V k ++ w2 (V k)
theorem encB_len (s c : Int) (V : Nat → Int) (k : Nat) : (encB s c V k).length = 4 + 2 * k := by
  induction k with
  | zero => rfl
  | succ k ih => simp [encB, ih, w2]; omega
theorem encB_bytes (s c : Int) (V : Nat → Int) (h : GoodTel s c V) (k : Nat) : ∀ b ∈ encB s c V k, 0 ≤ b ∧ b ≤ 255 := by
  induction k with
  | zero =>
    intro b hb
    have := h.s0
    have := h.s1
    simp [encB, w2] at hb
    omega
  | succ k ih =>
    intro b hb
    simp [encB, w2] at hb
    rcases hb with hb | hb
    · exact ih b hb
    · omega
/-- The frame of a telegram. -/
def frameB (s c : Int) (V : Nat → Int) : List Int := encB s c V 4 ++ l4 (cks (encB s c V 4))
set_option maxRecDepth 100000 in
set_option maxHeartbeats 4000000 in
theorem Encode_any (s c : Int) (V : Nat → Int) (w : World) (h : GoodTel s c V) :
    Calls Tryz.prog 21 #[.agg #[.int .i64 s, .int .i64 c, .int .i64 (V 0), .int .i64 (V 1), .int .i64 (V 2), .int .i64 (V 3)]] w fun e w' => e = .returned (.tuple #[.agg ((frameB s c V).map (.int .u8)).toArray, .int .i64 0]) ∧ Below w.heap.size w w' := by
  have H := Lib.hid h
  have hs0 := h.s0
  have hs1 := h.s1
  clear h
  have hix := fun (k : Nat) (hk : k < 4) (w : World) => four_index V hk w
  have Hix := Lib.hid hix
  clear hix
  go_enter Tryz.func21, Tryz.ntmps21
  go_wp2_with (go_at_call 70; refine (CheckTelegram_any s c V _ H.out).mono ?_; rintro e w1 ⟨rfl, hb1⟩; obtain ⟨hc1, hf1⟩ := ifs_of hb1; have hs1 := hb1.size; (try simp at hs1))
  refine (word_any w1.heap.size w1.heap.size 2 2 [.int .u8 177, .int .u8 s] c _ (Own.new w1 w1.heap.size 5 1 2 #[.int .u8 177, .int .u8 s] (Nat.le_refl _) rfl (by unfold maxLen; omega)) (by simp) (by omega)).mono ?_
  rintro e wB ⟨g2, cap2, rfl, ho2, hb2⟩
  have hb12 : Below w1.heap.size w1 wB := ((Below.refl w1.heap.size w1).alloc (Nat.le_refl _) _).trans hb2
  clear hb2
  obtain ⟨hc2, hf2⟩ := ifs_of hb12
  have hs2 := hb12.size
  go_wp2_with fail
  go_loopw [5, 24] (fun v i wr => ∃ (k g cap : Nat), k ≤ 4 ∧ i = .int .i64 k ∧ v = .slice (some ⟨g, 0, none⟩) (4 + 2 * k) cap ∧ Own wr w1.heap.size 5 1 g (4 + 2 * k) cap ((encB s c V k).map (.int .u8)) ∧ Below w1.heap.size w1 wr) (fun _ i _ => 4 - (intOf i).toNat)
  case atStart => exact ⟨0, g2, cap2, by omega, rfl, rfl, ho2, hb12⟩
  case round =>
    obtain ⟨k, g, cap, hk, rfl, rfl, hown, hb⟩ := hrel
    have hsb := hb.size
    have HO := Lib.hid hown
    clear hown
    by_cases hlt : k < 4
    · have hix := Hix.out k hlt
      have hk1 : (0 : Int) ≤ (k : Int) := by omega
      have hk2 : (k : Int) < 4 := by omega
      go_wp2_with (go_at_call 57; refine (word_any w1.heap.size g (4 + 2 * k) cap _ (V k) _ HO.out hsb (by omega)).mono ?_; rintro e w3 ⟨g3, cap3, rfl, ho3, hb3⟩)
      go_roundw
      case rel => exact ⟨k + 1, g3, cap3, by omega, by go_num, rfl, show Own _ _ _ _ _ (4 + 2 * k + 2) _ _ from by simpa [encB, w2] using ho3, hb.trans hb3⟩
      case measure => simp [intOf]; omega
    · obtain rfl : k = 4 := by omega
      have HO : Hid (Own wr w1.heap.size 5 1 g 12 cap ((encB s c V 4).map (.int .u8))) := HO.out
      simp only [Nat.reduceMul, Nat.reduceAdd]
      go_wp2_with fail
      refine (checksum_any (g + 1) _ 12 cap (encB s c V 4) _ HO.out.reads (by unfold maxLen; omega) (encB_bytes s c V H.out 4)).mono ?_
      rintro e w4 ⟨rfl, rfl⟩
      obtain ⟨hck1, hck2⟩ := cks_bound (encB s c V 4)
      generalize hS : cks (encB s c V 4) = S at *
      have HS := Lib.hid hS
      clear hS
      go_wp2_with fail
      refine (long_any w1.heap.size g 12 cap _ S _ HO.out hsb (by omega)).mono ?_
      rintro e w5 ⟨g5, cap5, rfl, ho5, hb5⟩
      have hs5 := hb5.size
      obtain ⟨hr5, hr6⟩ := ho5.lt
      have hcell : ∀ j, j < 16 → w5.cell? ⟨g5, j, none⟩ = ([.int .u8 177, .int .u8 s, .int .u8 (c / 256 % 256), .int .u8 (c % 256), .int .u8 (V 0 / 256 % 256), .int .u8 (V 0 % 256), .int .u8 (V 1 / 256 % 256), .int .u8 (V 1 % 256), .int .u8 (V 2 / 256 % 256), .int .u8 (V 2 % 256), .int .u8 (V 3 / 256 % 256), .int .u8 (V 3 % 256), .int .u8 (S / 65536 / 256 % 256), .int .u8 (S / 65536 % 256), .int .u8 (S / 256 % 256), .int .u8 (S % 256)] : List Value)[j]? := fun j hj => ho5.cellAt j (by omega)
      have d0 := hcell 0 (by omega)
      have d1 := hcell 1 (by omega)
      have d2 := hcell 2 (by omega)
      have d3 := hcell 3 (by omega)
      have d4 := hcell 4 (by omega)
      have d5 := hcell 5 (by omega)
      have d6 := hcell 6 (by omega)
      have d7 := hcell 7 (by omega)
      have d8 := hcell 8 (by omega)
      have d9 := hcell 9 (by omega)
      have d10 := hcell 10 (by omega)
      have d11 := hcell 11 (by omega)
      have d12 := hcell 12 (by omega)
      have d13 := hcell 13 (by omega)
      have d14 := hcell 14 (by omega)
      have d15 := hcell 15 (by omega)
      simp only [List.getElem?_cons_zero, List.getElem?_cons_succ] at d0 d1 d2 d3 d4 d5 d6 d7 d8 d9 d10 d11 d12 d13 d14 d15
      have BR : Blk w5 (w.heap.size + 1) 66 #[.int .u8 0, .int .u8 0, .int .u8 0, .int .u8 0, .int .u8 0, .int .u8 0, .int .u8 0, .int .u8 0, .int .u8 0, .int .u8 0, .int .u8 0, .int .u8 0, .int .u8 0, .int .u8 0, .int .u8 0, .int .u8 0] := (((show Blk ((w.alloc _).alloc _) (w.heap.size + 1) _ #[.int .u8 0, .int .u8 0, .int .u8 0, .int .u8 0, .int .u8 0, .int .u8 0, .int .u8 0, .int .u8 0, .int .u8 0, .int .u8 0, .int .u8 0, .int .u8 0, .int .u8 0, .int .u8 0, .int .u8 0, .int .u8 0] from bk_).kept hb1).below hb (by omega)).below hb5 (by omega)
      have r0 := BR.cell
      have r1 := BR.frozen
      clear hcell BR hc1 hf1 hc2 hf2
      have Ho5 := Lib.hid ho5
      clear ho5
      have hat : ∀ w, (Instr.arrayAt 66 (.slice (some ⟨g5, 0, none⟩) 16 cap5)).run Tryz.prog w = .ok (.pointer (some ⟨g5, 0, none⟩)) w := fun w => run_arrayAt w 66 _ 16 _ 16 cap5 Tryz.underlying66 (by omega)
      go_wp2
      refine bodyPost_ret (v := .tuple #[.agg ([.int .u8 177, .int .u8 s, .int .u8 (c / 256 % 256), .int .u8 (c % 256), .int .u8 (V 0 / 256 % 256), .int .u8 (V 0 % 256), .int .u8 (V 1 / 256 % 256), .int .u8 (V 1 % 256), .int .u8 (V 2 / 256 % 256), .int .u8 (V 2 % 256), .int .u8 (V 3 / 256 % 256), .int .u8 (V 3 % 256), .int .u8 (S / 65536 / 256 % 256), .int .u8 (S / 65536 % 256), .int .u8 (S / 256 % 256), .int .u8 (S % 256)] : List Value).toArray, .int .i64 0]) (by simp [results, Tryz.results21, go_sem, *]) rfl ⟨by rw [show frameB s c V = encB s c V 4 ++ l4 S from by unfold frameB; rw [HS.out]]; rfl, ?_⟩
      have hx : Below w.heap.size w w5 := (((((Below.refl w.heap.size w).alloc (Nat.le_refl _) _).alloc (by simp) _).trans (hb1.mono (by simp; omega))).trans (hb.mono (by omega))).trans (hb5.mono (by omega))
      exact bl_
end Go.Proofs.YtafnebfchhmgcaaGreat
