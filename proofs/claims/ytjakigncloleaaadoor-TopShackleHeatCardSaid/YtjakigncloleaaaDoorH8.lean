/- Contracts of the references: patterns, losses, roots. -/
import Derived.Test.YtjakigncloleaaaDoorH5
import Derived.Test.YtjakigncloleaaaDoorH6
namespace Go.Proofs.YtjakigncloleaaaDoor
open Go.RowKit Go.Sort
set_option linter.unusedSimpArgs false
set_option linter.unusedVariables false
attribute [local go_sem] cell_if frozen_if grow_cell
/-- An error that is 0 just where p holds. -/
def ErrIff (p : Prop) (w : World) (e : Ending) (w' : World) : Prop := ∃ z : Int, e = .returned (.int .i64 z) ∧ (z = 0 → p) ∧ Below w.heap.size w w'
theorem ckR_iff {n lo hi : Int} : ckR n lo hi = 0 ↔ lo ≤ n ∧ n ≤ hi := by
  unfold ckR inR
  simp
theorem ckR_cases (n lo hi : Int) : ckR n lo hi = 0 ∨ ckR n lo hi = 3 := by
  unfold ckR
  split <;> simp
set_option maxHeartbeats 1000000 in
theorem rPattern_any (p : Nat → Int) (w : World) : Calls Tryd.prog 15 #[.agg #[.int .i64 (p 0), .int .i64 (p 1), .int .i64 (p 2), .int .i64 (p 3), .int .i64 (p 4), .int .i64 (p 5), .int .i64 (p 6), .int .i64 (p 7), .int .i64 (p 8), .int .i64 (p 9), .int .i64 (p 10), .int .i64 (p 11)]] w (ErrIff (∀ j, j < 12 → -100 ≤ p j ∧ p j ≤ 100) w) := by
  go_enter Tryd.func15, Tryd.ntmps15
  go_wp2
  go_loopw [3, 4] (fun i _ wr => ∃ k : Nat, k ≤ 12 ∧ i = .int .i64 k ∧ (∀ j, j < k → -100 ≤ p j ∧ p j ≤ 100) ∧ Blk wr w.heap.size 48 #[.int .i64 (p 0), .int .i64 (p 1), .int .i64 (p 2), .int .i64 (p 3), .int .i64 (p 4), .int .i64 (p 5), .int .i64 (p 6), .int .i64 (p 7), .int .i64 (p 8), .int .i64 (p 9), .int .i64 (p 10), .int .i64 (p 11)] ∧ Below w.heap.size w wr) (fun i _ _ => 12 - (intOf i).toNat)
  case atStart => exact ⟨0, by omega, rfl, fun j hj => by omega, (by repeat (first | (with_reducible assumption) | ((with_reducible apply Blk.new_at); (first | (simp; done) | (simp; omega))) | (with_reducible apply Blk.drew) | (with_reducible refine Blk.alloc ?_ _) | (with_reducible apply blk_two) | ((with_reducible refine blk_far ?_ ?_ _); (· first | (simp; done) | (simp; omega) | omega)) | ((with_reducible apply blk_kept); (· with_reducible assumption)))), (by repeat (first | (with_reducible exact Below.refl _ _) | (with_reducible assumption) | ((with_reducible refine Below.alloc ?_ ?_ _); rotate_left; (· first | (simp; done) | (simp; omega) | omega)) | ((with_reducible refine Below.setCell ?_ ?_ _); rotate_left; (· first | (simp; done) | (simp; omega) | omega)) | (with_reducible apply Below.drew) | ((with_reducible apply below_step); (· with_reducible assumption); rotate_left; (· first | (simp; done) | (simp; omega) | omega))))⟩
  case round =>
    obtain ⟨k, hk, rfl, hf, hB, hb⟩ := hrel
    have HB := Lib.hid hB
    have HF := Lib.hid hf
    clear hf
    by_cases hlt : k < 12
    · have hc := p12_at hB hlt
      have hl := hB.lt
      clear hB
      rcases ckR_cases (p k) (-100) 100 with hz | hz
      · have HZ := Lib.hid hz
        clear hz
        go_wp2_with (go_at_call 39; refine (rRange_any _ _ _ _).mono ?_; rw [HZ.out]; rintro e w1 ⟨rfl, rfl⟩)
        go_roundw
        case rel => exact ⟨k + 1, by omega, by go_num, (fun j hj => by
          rcases Nat.lt_or_ge j k with h | h
          · exact HF.out j h
          · obtain rfl : j = k := by omega
            exact ckR_iff.1 HZ.out), HB.out, hb⟩
        case measure => simp [intOf]; omega
      · have HZ := Lib.hid hz
        clear hz
        go_wp2_with (go_at_call 39; refine (rRange_any _ _ _ _).mono ?_; rw [HZ.out]; rintro e w1 ⟨rfl, rfl⟩)
        go_ret
        exact ⟨3, rfl, (fun h => by cases h), hb⟩
    · obtain rfl : k = 12 := by omega
      clear hB
      go_wp2
      go_ret
      exact ⟨0, rfl, fun _ => HF.out, hb⟩
theorem firstE_iff (zs : List Int) : firstE zs = 0 → ∀ z ∈ zs, z = 0 := by
  unfold firstE
  intro h z hz
  cases hf : zs.find? (· != 0) with
  | none => have := List.find?_eq_none.1 hf z hz; simpa using this
  | some y =>
    rw [hf] at h
    have := List.find?_some hf
    simp at h
    simp [h] at this
set_option maxHeartbeats 1000000 in
theorem rLosses_any (F L S : Int) (w : World) : Calls Tryd.prog 16 #[.agg #[.int .i64 F, .int .i64 L, .int .i64 S]] w (ErrIff (Ls F L S) w) := by
  go_enter Tryd.func16, Tryd.ntmps16
  go_wp2_with fail
  (refine wp_region_head_below 9 (by kernel_rfl) (by kernel_rfl) ?_; simp only [List.take_succ_cons, List.take_zero, List.drop_succ_cons, List.drop_zero]; (repeat (go_big_quiet_step (exact Calls.regrown_of (rRange_b _ _ _ _)))); refine wpQuiet_nil ?_)
  intro w1 hb1
  obtain ⟨hc1, hf1⟩ := ifs_of hb1; have hs1 := hb1.size; (try simp at hs1)
  go_wp2_with (go_at_call 40; refine (rFirst_new [ckR F 0 1000, ckR L 0 1000, ckR S 0 1000] _ _ 3 rfl (by unfold maxLen; omega)).mono ?_; rintro e w3 ⟨rfl, rfl⟩)
  go_ret
  refine ⟨_, rfl, fun h => ?_, (by repeat (first | (with_reducible exact Below.refl _ _) | (with_reducible assumption) | ((with_reducible refine Below.alloc ?_ ?_ _); rotate_left; (· first | (simp; done) | (simp; omega) | omega)) | ((with_reducible refine Below.setCell ?_ ?_ _); rotate_left; (· first | (simp; done) | (simp; omega) | omega)) | (with_reducible apply Below.drew) | ((with_reducible apply below_step); (· with_reducible assumption); rotate_left; (· first | (simp; done) | (simp; omega) | omega))))⟩
  have hz := firstE_iff _ h
  have e1 := ckR_iff.1 (hz (ckR F 0 1000) (by simp))
  have e2 := ckR_iff.1 (hz (ckR L 0 1000) (by simp))
  have e3 := ckR_iff.1 (hz (ckR S 0 1000) (by simp))
  exact ⟨e1.1, e1.2, e2.1, e2.2, e3.1, e3.2⟩
set_option maxHeartbeats 1000000 in
theorem rRoot_any (a b : Int) (w : World) (ha : -1073741824 ≤ a ∧ a ≤ 1073741824) (hb : -1073741824 ≤ b ∧ b ≤ 1073741824) :
    Calls Tryd.prog 22 #[.agg #[.int .i64 a, .int .i64 b]] w fun e w' => e = .returned (.int .i64 0) ∧ Below w.heap.size w w' := by
  have e1 : Hid (ckR a (-1073741824) 1073741824 = 0) := ckR_yes ha
  have e2 : Hid (ckR b (-1073741824) 1073741824 = 0) := ckR_yes hb
  clear ha hb
  go_enter Tryd.func22, Tryd.ntmps22
  go_wp2_with fail
  (refine wp_region_head_below 6 (by kernel_rfl) (by kernel_rfl) ?_; simp only [List.take_succ_cons, List.take_zero, List.drop_succ_cons, List.drop_zero]; (repeat (go_big_quiet_step (exact Calls.regrown_of (rRange_b _ _ _ _)))); refine wpQuiet_nil ?_)
  rw [e1.out, e2.out]
  intro w1 hb1
  obtain ⟨hc1, hf1⟩ := ifs_of hb1; have hs1 := hb1.size; (try simp at hs1)
  go_wp2_with (go_at_call 40; refine (rFirst_new [0, 0] _ _ 2 rfl (by unfold maxLen; omega)).mono ?_; rw [show firstE [0, 0] = 0 from rfl]; rintro e w3 ⟨rfl, rfl⟩)
  go_ret
  exact ⟨rfl, (by repeat (first | (with_reducible exact Below.refl _ _) | (with_reducible assumption) | ((with_reducible refine Below.alloc ?_ ?_ _); rotate_left; (· first | (simp; done) | (simp; omega) | omega)) | ((with_reducible refine Below.setCell ?_ ?_ _); rotate_left; (· first | (simp; done) | (simp; omega) | omega)) | (with_reducible apply Below.drew) | ((with_reducible apply below_step); (· with_reducible assumption); rotate_left; (· first | (simp; done) | (simp; omega) | omega))))⟩
end Go.Proofs.YtjakigncloleaaaDoor
