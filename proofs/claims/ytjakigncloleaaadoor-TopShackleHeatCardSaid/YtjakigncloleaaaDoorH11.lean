/- The fixed example of the chapters 4 and 5. -/
import Derived.Test.YtjakigncloleaaaDoorH10
import Derived.Test.YtjakigncloleaaaDoorH6
import Derived.Test.YtjakigncloleaaaDoorM1
namespace Go.Proofs.YtjakigncloleaaaDoor
open Go.RowKit Go.Sort
set_option linter.unusedSimpArgs false
set_option linter.unusedVariables false
attribute [local go_sem] cell_if frozen_if grow_cell
theorem ordL_trms (p : Nat → Int) (h : Int) : ∀ k, ordL (trms p h k) = ordV p h k
  | 0 => rfl
  | k + 1 => by rw [trms_succ, ordL_snoc, ordL_trms p h k]; rfl
theorem spcV_eq {p : Nat → Int} (hp : ∀ j, j < 12 → -100 ≤ p j ∧ p j ≤ 100) {h : Nat} (hh : h < 12) : spcV p 12 h = ordX p h 12 := by
  unfold spcV
  rw [if_pos hh]
  unfold spcE
  rw [ordL_trms, ordV_eq hp hh 12 (by omega)]
/-- What is known of the strength of an order. -/
structure StX (p : Nat → Int) (h : Nat) (x : Cy) : Prop where
  inn : CyIn 1048576 x
  sa : stA x = allS p (h + 1) - allS p h
  a0 : -1073741824 ≤ stA x
  a1 : stA x ≤ 1073741824
  b0 : -1073741824 ≤ stB x
  b1 : stB x ≤ 1073741824
theorem stX_of {p : Nat → Int} (hp : ∀ j, j < 12 → -100 ≤ p j ∧ p j ≤ 100) {h : Nat} (hh : h < 12) : StX p h (spcV p 12 h) := by
  rw [spcV_eq hp hh]
  have hb := ordX_bd hp h 12 (by omega)
  have hs := st_eq (x := ordX p h 12) (by omega)
  refine ⟨?_, ?_, hs.2.1.1, hs.2.1.2, hs.2.2.1, hs.2.2.2⟩
  · unfold CyIn; omega
  · rw [hs.1]; simp only [allS]; omega
theorem allS_bd {p : Nat → Int} (hp : ∀ j, j < 12 → -100 ≤ p j ∧ p j ≤ 100) : ∀ h : Nat, h ≤ 12 → -(1073741824 * (h : Int)) ≤ allS p h ∧ allS p h ≤ 1073741824 * h
  | 0, _ => by simp [allS]
  | h + 1, hh => by
    have h1 := allS_bd hp h (by omega)
    have h2 := stX_of hp (show h < 12 by omega)
    have h3 := h2.sa
    have h4 := h2.a0
    have h5 := h2.a1
    omega
def exP : Nat → Int := fun j => [64, 32].getD j 0
theorem exP_in : ∀ j, j < 12 → -100 ≤ exP j ∧ exP j ≤ 100 := by
  intro j hj
  rcases lt12 hj with rfl | rfl | rfl | rfl | rfl | rfl | rfl | rfl | rfl | rfl | rfl | rfl <;> decide
set_option maxRecDepth 100000 in
set_option maxHeartbeats 4000000 in
theorem shackle_any (w : World) (hP : Powers w) : Calls Tryd.prog 17 #[] w fun e w' => e = .returned (.bool true) ∧ Below w.heap.size w w' := by
  have l1 : lossLo 1 32 256 64 = 4 := by decide
  have l2 : lossHi 1 32 256 64 = 4 := by decide
  have l3 : lossLo 1 32 256 32 = 2 := by decide
  have l4 : lossHi 1 32 256 32 = 3 := by decide
  have hls : Ls 1 32 256 := ⟨by decide, by decide, by decide, by decide, by decide, by decide⟩
  have L1 : Hid (∀ W, Calls Tryd.prog 23 #[.agg #[.int .i64 1, .int .i64 32, .int .i64 256], .int .i64 64] W fun e w' => e = .returned (.tuple #[.agg #[.int .i64 4, .int .i64 4], .int .i64 0]) ∧ Below W.heap.size W w') := fun W => by
    have := Loss_any 1 32 256 64 W hls (by omega) (by omega)
    rw [l1, l2] at this
    exact this
  have L2 : Hid (∀ W, Calls Tryd.prog 23 #[.agg #[.int .i64 1, .int .i64 32, .int .i64 256], .int .i64 32] W fun e w' => e = .returned (.tuple #[.agg #[.int .i64 2, .int .i64 3], .int .i64 0]) ∧ Below W.heap.size W w') := fun W => by
    have := Loss_any 1 32 256 32 W hls (by omega) (by omega)
    rw [l3, l4] at this
    exact this
  clear l1 l2 l3 l4
  have hsp := fun W (h : Powers W) => HSpectrum_any exP W h exP_in
  have hix : ∀ (k : Nat), k < 12 → ∀ w, (Instr.index 56 (.agg #[.int .i64 ((spcV exP 12) 0).a, .int .i64 ((spcV exP 12) 0).b, .int .i64 ((spcV exP 12) 0).c, .int .i64 ((spcV exP 12) 0).d, .int .i64 ((spcV exP 12) 1).a, .int .i64 ((spcV exP 12) 1).b, .int .i64 ((spcV exP 12) 1).c, .int .i64 ((spcV exP 12) 1).d, .int .i64 ((spcV exP 12) 2).a, .int .i64 ((spcV exP 12) 2).b, .int .i64 ((spcV exP 12) 2).c, .int .i64 ((spcV exP 12) 2).d, .int .i64 ((spcV exP 12) 3).a, .int .i64 ((spcV exP 12) 3).b, .int .i64 ((spcV exP 12) 3).c, .int .i64 ((spcV exP 12) 3).d, .int .i64 ((spcV exP 12) 4).a, .int .i64 ((spcV exP 12) 4).b, .int .i64 ((spcV exP 12) 4).c, .int .i64 ((spcV exP 12) 4).d, .int .i64 ((spcV exP 12) 5).a, .int .i64 ((spcV exP 12) 5).b, .int .i64 ((spcV exP 12) 5).c, .int .i64 ((spcV exP 12) 5).d, .int .i64 ((spcV exP 12) 6).a, .int .i64 ((spcV exP 12) 6).b, .int .i64 ((spcV exP 12) 6).c, .int .i64 ((spcV exP 12) 6).d, .int .i64 ((spcV exP 12) 7).a, .int .i64 ((spcV exP 12) 7).b, .int .i64 ((spcV exP 12) 7).c, .int .i64 ((spcV exP 12) 7).d, .int .i64 ((spcV exP 12) 8).a, .int .i64 ((spcV exP 12) 8).b, .int .i64 ((spcV exP 12) 8).c, .int .i64 ((spcV exP 12) 8).d, .int .i64 ((spcV exP 12) 9).a, .int .i64 ((spcV exP 12) 9).b, .int .i64 ((spcV exP 12) 9).c, .int .i64 ((spcV exP 12) 9).d, .int .i64 ((spcV exP 12) 10).a, .int .i64 ((spcV exP 12) 10).b, .int .i64 ((spcV exP 12) 10).c, .int .i64 ((spcV exP 12) 10).d, .int .i64 ((spcV exP 12) 11).a, .int .i64 ((spcV exP 12) 11).b, .int .i64 ((spcV exP 12) 11).c, .int .i64 ((spcV exP 12) 11).d]) (.int .i64 k)).run Tryd.prog w = .ok (.agg #[.int .i64 (spcV exP 12 k).a, .int .i64 (spcV exP 12 k).b, .int .i64 (spcV exP 12 k).c, .int .i64 (spcV exP 12 k).d]) w := fun k hk w => c48_index (spcV exP 12) hk w
  have e1 := c48_size (spcV exP 12)
  have e3 := c48_one (spcV exP 12)
  generalize (#[.int .i64 ((spcV exP 12) 0).a, .int .i64 ((spcV exP 12) 0).b, .int .i64 ((spcV exP 12) 0).c, .int .i64 ((spcV exP 12) 0).d, .int .i64 ((spcV exP 12) 1).a, .int .i64 ((spcV exP 12) 1).b, .int .i64 ((spcV exP 12) 1).c, .int .i64 ((spcV exP 12) 1).d, .int .i64 ((spcV exP 12) 2).a, .int .i64 ((spcV exP 12) 2).b, .int .i64 ((spcV exP 12) 2).c, .int .i64 ((spcV exP 12) 2).d, .int .i64 ((spcV exP 12) 3).a, .int .i64 ((spcV exP 12) 3).b, .int .i64 ((spcV exP 12) 3).c, .int .i64 ((spcV exP 12) 3).d, .int .i64 ((spcV exP 12) 4).a, .int .i64 ((spcV exP 12) 4).b, .int .i64 ((spcV exP 12) 4).c, .int .i64 ((spcV exP 12) 4).d, .int .i64 ((spcV exP 12) 5).a, .int .i64 ((spcV exP 12) 5).b, .int .i64 ((spcV exP 12) 5).c, .int .i64 ((spcV exP 12) 5).d, .int .i64 ((spcV exP 12) 6).a, .int .i64 ((spcV exP 12) 6).b, .int .i64 ((spcV exP 12) 6).c, .int .i64 ((spcV exP 12) 6).d, .int .i64 ((spcV exP 12) 7).a, .int .i64 ((spcV exP 12) 7).b, .int .i64 ((spcV exP 12) 7).c, .int .i64 ((spcV exP 12) 7).d, .int .i64 ((spcV exP 12) 8).a, .int .i64 ((spcV exP 12) 8).b, .int .i64 ((spcV exP 12) 8).c, .int .i64 ((spcV exP 12) 8).d, .int .i64 ((spcV exP 12) 9).a, .int .i64 ((spcV exP 12) 9).b, .int .i64 ((spcV exP 12) 9).c, .int .i64 ((spcV exP 12) 9).d, .int .i64 ((spcV exP 12) 10).a, .int .i64 ((spcV exP 12) 10).b, .int .i64 ((spcV exP 12) 10).c, .int .i64 ((spcV exP 12) 10).d, .int .i64 ((spcV exP 12) 11).a, .int .i64 ((spcV exP 12) 11).b, .int .i64 ((spcV exP 12) 11).c, .int .i64 ((spcV exP 12) 11).d] : Array Value) = S at *
  have E1 : Hid (S.size = (#[.int .i64 0, .int .i64 0, .int .i64 0, .int .i64 0, .int .i64 0, .int .i64 0, .int .i64 0, .int .i64 0, .int .i64 0, .int .i64 0, .int .i64 0, .int .i64 0, .int .i64 0, .int .i64 0, .int .i64 0, .int .i64 0, .int .i64 0, .int .i64 0, .int .i64 0, .int .i64 0, .int .i64 0, .int .i64 0, .int .i64 0, .int .i64 0, .int .i64 0, .int .i64 0, .int .i64 0, .int .i64 0, .int .i64 0, .int .i64 0, .int .i64 0, .int .i64 0, .int .i64 0, .int .i64 0, .int .i64 0, .int .i64 0, .int .i64 0, .int .i64 0, .int .i64 0, .int .i64 0, .int .i64 0, .int .i64 0, .int .i64 0, .int .i64 0, .int .i64 0, .int .i64 0, .int .i64 0, .int .i64 0] : Array Value).size) := by show _ = _; rw [e1, z48_size]
  have E2 : Hid ((Tryd.prog.info? 56).map (·.size) = some S.size) := by show _ = _; rw [e1]; exact (by kernel_rfl : (Tryd.prog.info? 56).map (·.size) = some 48)
  have E3 := Lib.hid e3
  have HIX := Lib.hid hix
  have HSP := Lib.hid hsp
  clear hix hsp e1 e3
  go_enter Tryd.func17, Tryd.ntmps17
  go_wp2_with fail
  refine (HSP.out _ hP).mono ?_
  rintro e w1 ⟨rfl, hb1⟩
  obtain ⟨hc1, hf1⟩ := ifs_of hb1; have hs1 := hb1.size; (try simp at hs1)
  go_wp2_with (refine wpList_store_blk rfl 56 (.tmp 1) (.tmp 16) rfl w1.heap.size S rfl rfl (Blk.new _ _ _) E1.out E2.out E3.out ?_; intro w4 hb4 hk4 hw4 hs4)
  have hW4 : Below w.heap.size w w4 := hw4 _ _ (by omega) (by repeat (first | (with_reducible exact Below.refl _ _) | (with_reducible assumption) | ((with_reducible refine Below.alloc ?_ ?_ _); rotate_left; (· first | (simp; done) | (simp; omega) | omega)) | ((with_reducible refine Below.setCell ?_ ?_ _); rotate_left; (· first | (simp; done) | (simp; omega) | omega)) | (with_reducible apply Below.drew) | ((with_reducible apply below_step); (· with_reducible assumption); rotate_left; (· first | (simp; done) | (simp; omega) | omega))))
  have hs5 : w1.heap.size < w4.heap.size := by simp at hs4; omega
  have HB4 := Lib.hid hb4
  clear hk4 hw4 hs4 hb4 hc1 hf1 hb1
  go_wp2_with fail
  refine (L1.out _).mono ?_
  rintro e w2 ⟨rfl, hb2⟩
  obtain ⟨hc2, hf2⟩ := ifs_of hb2; have hs2 := hb2.size; (try simp at hs2)
  go_wp2_with fail
  refine (L2.out _).mono ?_
  rintro e w3 ⟨rfl, hb3⟩
  obtain ⟨hc3, hf3⟩ := ifs_of hb3; have hs3 := hb3.size; (try simp at hs3)
  have hb4 := HB4.out
  have B5 : Blk (w3.alloc (.cells #[.int .i64 2, .int .i64 3] 62)) w1.heap.size 56 S := (by repeat (first | (with_reducible assumption) | ((with_reducible apply Blk.new_at); (first | (simp; done) | (simp; omega))) | (with_reducible apply Blk.drew) | (with_reducible refine Blk.alloc ?_ _) | (with_reducible apply blk_two) | ((with_reducible refine blk_far ?_ ?_ _); (· first | (simp; done) | (simp; omega) | omega)) | ((with_reducible apply blk_kept); (· with_reducible assumption))))
  have HB5 := Lib.hid B5
  clear B5 hb4
  go_wp2_with (refine wpList_load_row rfl 56 (.tmp 1) rfl w1.heap.size rfl 56 S (0, 0) _ HB5.out Tryd.underlying56 rfl E2.out ?_)
  go_loopw [8, 40] (fun s i wr => ∃ k : Nat, k ≤ 12 ∧ i = .int .i64 k ∧ s = .int .i64 (allS exP k) ∧ Blk wr w2.heap.size 62 #[.int .i64 4, .int .i64 4] ∧ Blk wr w3.heap.size 62 #[.int .i64 2, .int .i64 3] ∧ Below w.heap.size w wr) (fun _ i _ => 12 - (intOf i).toNat)
  case atStart => exact ⟨0, by omega, rfl, rfl, (by repeat (first | (with_reducible assumption) | ((with_reducible apply Blk.new_at); (first | (simp; done) | (simp; omega))) | (with_reducible apply Blk.drew) | (with_reducible refine Blk.alloc ?_ _) | (with_reducible apply blk_two) | ((with_reducible refine blk_far ?_ ?_ _); (· first | (simp; done) | (simp; omega) | omega)) | ((with_reducible apply blk_kept); (· with_reducible assumption)))), (by repeat (first | (with_reducible assumption) | ((with_reducible apply Blk.new_at); (first | (simp; done) | (simp; omega))) | (with_reducible apply Blk.drew) | (with_reducible refine Blk.alloc ?_ _) | (with_reducible apply blk_two) | ((with_reducible refine blk_far ?_ ?_ _); (· first | (simp; done) | (simp; omega) | omega)) | ((with_reducible apply blk_kept); (· with_reducible assumption)))), (by repeat (first | (with_reducible exact Below.refl _ _) | (with_reducible assumption) | ((with_reducible refine Below.alloc ?_ ?_ _); rotate_left; (· first | (simp; done) | (simp; omega) | omega)) | ((with_reducible refine Below.setCell ?_ ?_ _); rotate_left; (· first | (simp; done) | (simp; omega) | omega)) | (with_reducible apply Below.drew) | ((with_reducible apply below_step); (· with_reducible assumption); rotate_left; (· first | (simp; done) | (simp; omega) | omega))))⟩
  case round =>
    obtain ⟨k, hk, rfl, rfl, hA, hB, hb⟩ := hrel
    have HA := Lib.hid hA
    have HB := Lib.hid hB
    have zb := hB.lt
    have za := hA.lt
    have hs := hb.size
    obtain ⟨s1, s2⟩ := allS_bd exP_in k hk
    by_cases hlt : k < 12
    · have hi := HIX.out k hlt
      have X0 := stX_of exP_in hlt
      clear hA hB
      have T : Hid (allS exP (k + 1) = allS exP k + stA (spcV exP 12 k)) := by show _ = _; have := X0.sa; omega
      obtain ⟨x1, x2, x3, x4, x5, x6⟩ := X0
      clear x2
      have ht := fun W => Strength_any (spcV exP 12 k) W x1
      have HT := Lib.hid ht
      clear ht x1
      generalize spcV exP 12 k = x at *
      generalize stA x = u at *
      generalize stB x = v at *
      generalize allS exP k = s at *
      go_wp2_with (go_at_call 21; refine (HT.out _).mono ?_; rintro e w5 ⟨rfl, hb5⟩; obtain ⟨hc5, hf5⟩ := ifs_of hb5; have hs5 := hb5.size; (try simp at hs5))
      go_roundw
      case rel =>
        have x1 := HA.out
        have x2 := HB.out
        exact ⟨k + 1, by omega, by go_num, by rw [T.out], (by repeat (first | (with_reducible assumption) | ((with_reducible apply Blk.new_at); (first | (simp; done) | (simp; omega))) | (with_reducible apply Blk.drew) | (with_reducible refine Blk.alloc ?_ _) | (with_reducible apply blk_two) | ((with_reducible refine blk_far ?_ ?_ _); (· first | (simp; done) | (simp; omega) | omega)) | ((with_reducible apply blk_kept); (· with_reducible assumption)))), (by repeat (first | (with_reducible assumption) | ((with_reducible apply Blk.new_at); (first | (simp; done) | (simp; omega))) | (with_reducible apply Blk.drew) | (with_reducible refine Blk.alloc ?_ _) | (with_reducible apply blk_two) | ((with_reducible refine blk_far ?_ ?_ _); (· first | (simp; done) | (simp; omega) | omega)) | ((with_reducible apply blk_kept); (· with_reducible assumption)))), (by repeat (first | (with_reducible exact Below.refl _ _) | (with_reducible assumption) | ((with_reducible refine Below.alloc ?_ ?_ _); rotate_left; (· first | (simp; done) | (simp; omega) | omega)) | ((with_reducible refine Below.setCell ?_ ?_ _); rotate_left; (· first | (simp; done) | (simp; omega) | omega)) | (with_reducible apply Below.drew) | ((with_reducible apply below_step); (· with_reducible assumption); rotate_left; (· first | (simp; done) | (simp; omega) | omega))))⟩
      case measure => simp [intOf]; omega
    · obtain rfl : k = 12 := by omega
      have hfin : allS exP 12 = 61440 := by rw [parseval]; decide
      have vA := hA.cell
      have vB := hB.cell
      clear hA hB
      rw [hfin]
      go_wp2
      go_ret
      exact ⟨by first | rfl | (simp; done), hb⟩
end Go.Proofs.YtjakigncloleaaaDoor
