/- Contracts of phasor: CheckTelegram, Encode. -/
import Derived.Test.YtjakigncloleaaaDoorPh10
namespace Go.Proofs.YtjakigncloleaaaDoor
open Go.RowKit Go.Sort
attribute [local go_sem] cell_if frozen_if grow_cell
structure GoodTel (s c : Int) (V : Nat → Int) : Prop where
  s0 : 0 ≤ s
  s1 : s ≤ 255
  c0 : 0 ≤ c
  c1 : c ≤ 65535
  v0 : ∀ j, j < 4 → -32768 ≤ V j
  v1 : ∀ j, j < 4 → V j ≤ 32767
theorem within_b (n lo hi : Int) (w : World) : Calls Tryd.prog 57 #[.int .i64 n, .int .i64 lo, .int .i64 hi] w fun e w' => e = .returned (.int .i64 (ckR n lo hi)) ∧ Below w.heap.size w w' := calls_below (within_any n lo hi w)
set_option maxHeartbeats 400000 in
theorem CheckTelegram_any (s c : Int) (V : Nat → Int) (w : World) (h : GoodTel s c V) :
    Calls Tryd.prog 61 #[.agg #[.int .i64 s, .int .i64 c, .int .i64 (V 0), .int .i64 (V 1), .int .i64 (V 2), .int .i64 (V 3)]] w fun e w' => e = .returned (.int .i64 0) ∧ Below w.heap.size w w' := by
  have e1 : Hid (ckR s 0 255 = 0) := ckR_yes ⟨h.s0, h.s1⟩
  have e2 : Hid (ckR c 0 65535 = 0) := ckR_yes ⟨h.c0, h.c1⟩
  have e3 : Hid (firstE ([V 0, V 1, V 2, V 3].map fun z => ckR z (-32768) 32767) = 0) := by
    show _ = _
    have a0 := ckR_yes ⟨h.v0 0 (by omega), h.v1 0 (by omega)⟩
    have a1 := ckR_yes ⟨h.v0 1 (by omega), h.v1 1 (by omega)⟩
    have a2 := ckR_yes ⟨h.v0 2 (by omega), h.v1 2 (by omega)⟩
    have a3 := ckR_yes ⟨h.v0 3 (by omega), h.v1 3 (by omega)⟩
    simp [firstE, a0, a1, a2, a3]
  clear h
  go_enter Tryd.func61, Tryd.ntmps61
  go_wp2_with fail
  (refine wp_region_head_below 6 (by kernel_rfl) (by kernel_rfl) ?_; simp only [List.take_succ_cons, List.take_zero, List.drop_succ_cons, List.drop_zero]; (repeat (go_big_quiet_step (exact Calls.regrown_of (within_b _ _ _ _)))); refine wpQuiet_nil ?_)
  rw [e1.out, e2.out]
  intro w1 hb1
  have B1 : Blk w1 w.heap.size 89 #[.int .i64 s, .int .i64 c, .int .i64 (V 0), .int .i64 (V 1), .int .i64 (V 2), .int .i64 (V 3)] := Blk.kept (by repeat (first | (with_reducible assumption) | ((with_reducible apply Blk.new_at); (first | (simp; done) | (simp; omega))) | (with_reducible apply Blk.drew) | (with_reducible refine Blk.alloc ?_ _) | (with_reducible apply blk_two) | ((with_reducible refine blk_far ?_ ?_ _); (· first | (simp; done) | (simp; omega) | omega)) | ((with_reducible apply blk_kept); (· with_reducible assumption)))) hb1
  have hb : Below w.heap.size w w1 := (by repeat (first | (with_reducible exact Below.refl _ _) | (with_reducible assumption) | ((with_reducible refine Below.alloc ?_ ?_ _); rotate_left; (· first | (simp; done) | (simp; omega) | omega)) | ((with_reducible refine Below.setCell ?_ ?_ _); rotate_left; (· first | (simp; done) | (simp; omega) | omega)) | (with_reducible apply Below.drew) | ((with_reducible apply below_step); (· with_reducible assumption); rotate_left; (· first | (simp; done) | (simp; omega) | omega))))
  have l1 := B1.lt
  have HB := Lib.hid B1
  clear B1 hb1
  have hs := hb.size
  go_wp2_with fail
  refine (first_new [0, 0] _ _ 2 rfl (by unfold maxLen; omega)).mono ?_
  rw [show firstE [0, 0] = 0 from rfl]
  rintro e w3 ⟨rfl, rfl⟩
  go_wp2_with ((go_at_call 74; refine (mapped_any (w.heap.size + 1) _ 4 4 [V 0, V 1, V 2, V 3] _ (Reads.blk_at (pre := [.int .i64 s, .int .i64 c]) (post := []) (HB.out.alloc _) rfl rfl rfl) (by simp; omega) (by omega)).mono ?_; rintro e w2 ⟨A2, cap2, rfl, hr2, hb2⟩))
  have hs2 := hb2.size
  refine (first_any _ _ 4 cap2 _ _ hr2 (by unfold maxLen; omega)).mono ?_
  rw [e3.out]
  rintro e w4 ⟨rfl, rfl⟩
  go_wp2
  go_ret
  exact ⟨rfl, (by repeat (first | (with_reducible exact Below.refl _ _) | (with_reducible assumption) | ((with_reducible refine Below.alloc ?_ ?_ _); rotate_left; (· first | (simp; done) | (simp; omega) | omega)) | ((with_reducible refine Below.setCell ?_ ?_ _); rotate_left; (· first | (simp; done) | (simp; omega) | omega)) | (with_reducible apply Below.drew) | ((with_reducible apply below_step); (· with_reducible assumption); rotate_left; (· first | (simp; done) | (simp; omega) | omega))))⟩

def w2 (n : Int) : List Value := [.int .u8 (n / 256 % 256), .int .u8 (n % 256)]
def encL (s c : Int) (V : Nat → Int) : Nat → List Value
  | 0 => [.int .u8 177, .int .u8 s] ++ w2 c
  | k + 1 => encL s c V k ++ w2 (V k)
theorem four_index (V : Nat → Int) {k : Nat} (hk : k < 4) (w : World) : (Instr.index 87 (.agg #[.int .i64 (V 0), .int .i64 (V 1), .int .i64 (V 2), .int .i64 (V 3)]) (.int .i64 k)).run Tryd.prog w = .ok (.int .i64 (V k)) w := by
  rcases (show k = 0 ∨ k = 1 ∨ k = 2 ∨ k = 3 from by omega) with rfl | rfl | rfl | rfl
  · exact (show (Instr.index 87 (.agg #[.int .i64 (V 0), .int .i64 (V 1), .int .i64 (V 2), .int .i64 (V 3)]) (.int .i64 ((0 : Nat) : Int))).run Tryd.prog w = .ok (.int .i64 (V 0)) w by kernel_rfl)
  · exact (show (Instr.index 87 (.agg #[.int .i64 (V 0), .int .i64 (V 1), .int .i64 (V 2), .int .i64 (V 3)]) (.int .i64 ((1 : Nat) : Int))).run Tryd.prog w = .ok (.int .i64 (V 1)) w by kernel_rfl)
  · exact (show (Instr.index 87 (.agg #[.int .i64 (V 0), .int .i64 (V 1), .int .i64 (V 2), .int .i64 (V 3)]) (.int .i64 ((2 : Nat) : Int))).run Tryd.prog w = .ok (.int .i64 (V 2)) w by kernel_rfl)
  · exact (show (Instr.index 87 (.agg #[.int .i64 (V 0), .int .i64 (V 1), .int .i64 (V 2), .int .i64 (V 3)]) (.int .i64 ((3 : Nat) : Int))).run Tryd.prog w = .ok (.int .i64 (V 3)) w by kernel_rfl)
end Go.Proofs.YtjakigncloleaaaDoor
