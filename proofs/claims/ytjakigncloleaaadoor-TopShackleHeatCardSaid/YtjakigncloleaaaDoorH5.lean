/- Twelve levels in a block; Delayed. -/
import Derived.Test.YtjakigncloleaaaDoorH3
import Derived.Test.YtjakigncloleaaaDoorH4
namespace Go.Proofs.YtjakigncloleaaaDoor
open Go.RowKit Go.Sort
set_option linter.unusedSimpArgs false
set_option linter.unusedVariables false
attribute [local go_sem] cell_if frozen_if grow_cell
theorem lt12 {k : Nat} (hk : k < 12) : k = 0 ∨ k = 1 ∨ k = 2 ∨ k = 3 ∨ k = 4 ∨ k = 5 ∨ k = 6 ∨ k = 7 ∨ k = 8 ∨ k = 9 ∨ k = 10 ∨ k = 11 := by omega
theorem p12_get (U : Nat → Int) {k : Nat} (hk : k < 12) : (#[.int .i64 (U 0), .int .i64 (U 1), .int .i64 (U 2), .int .i64 (U 3), .int .i64 (U 4), .int .i64 (U 5), .int .i64 (U 6), .int .i64 (U 7), .int .i64 (U 8), .int .i64 (U 9), .int .i64 (U 10), .int .i64 (U 11)] : Array Value)[k]? = some (.int .i64 (U k)) := by
  rcases lt12 hk with rfl | rfl | rfl | rfl | rfl | rfl | rfl | rfl | rfl | rfl | rfl | rfl <;> rfl
theorem p12_at {w : World} {g t : Nat} {U : Nat → Int} (h : Blk w g t #[.int .i64 (U 0), .int .i64 (U 1), .int .i64 (U 2), .int .i64 (U 3), .int .i64 (U 4), .int .i64 (U 5), .int .i64 (U 6), .int .i64 (U 7), .int .i64 (U 8), .int .i64 (U 9), .int .i64 (U 10), .int .i64 (U 11)]) {k : Nat} (hk : k < 12) : w.cell? ⟨g, k, none⟩ = some (.int .i64 (U k)) := (h.cell k).trans (p12_get U hk)
theorem p12_index (U : Nat → Int) {k : Nat} (hk : k < 12) (w : World) : (Instr.index 48 (.agg #[.int .i64 (U 0), .int .i64 (U 1), .int .i64 (U 2), .int .i64 (U 3), .int .i64 (U 4), .int .i64 (U 5), .int .i64 (U 6), .int .i64 (U 7), .int .i64 (U 8), .int .i64 (U 9), .int .i64 (U 10), .int .i64 (U 11)]) (.int .i64 k)).run Tryd.prog w = .ok (.int .i64 (U k)) w := by
  rcases lt12 hk with rfl | rfl | rfl | rfl | rfl | rfl | rfl | rfl | rfl | rfl | rfl | rfl
  · exact (show (Instr.index 48 (.agg #[.int .i64 (U 0), .int .i64 (U 1), .int .i64 (U 2), .int .i64 (U 3), .int .i64 (U 4), .int .i64 (U 5), .int .i64 (U 6), .int .i64 (U 7), .int .i64 (U 8), .int .i64 (U 9), .int .i64 (U 10), .int .i64 (U 11)]) (.int .i64 ((0 : Nat) : Int))).run Tryd.prog w = .ok (.int .i64 (U 0)) w by kernel_rfl)
  · exact (show (Instr.index 48 (.agg #[.int .i64 (U 0), .int .i64 (U 1), .int .i64 (U 2), .int .i64 (U 3), .int .i64 (U 4), .int .i64 (U 5), .int .i64 (U 6), .int .i64 (U 7), .int .i64 (U 8), .int .i64 (U 9), .int .i64 (U 10), .int .i64 (U 11)]) (.int .i64 ((1 : Nat) : Int))).run Tryd.prog w = .ok (.int .i64 (U 1)) w by kernel_rfl)
  · exact (show (Instr.index 48 (.agg #[.int .i64 (U 0), .int .i64 (U 1), .int .i64 (U 2), .int .i64 (U 3), .int .i64 (U 4), .int .i64 (U 5), .int .i64 (U 6), .int .i64 (U 7), .int .i64 (U 8), .int .i64 (U 9), .int .i64 (U 10), .int .i64 (U 11)]) (.int .i64 ((2 : Nat) : Int))).run Tryd.prog w = .ok (.int .i64 (U 2)) w by kernel_rfl)
  · exact (show (Instr.index 48 (.agg #[.int .i64 (U 0), .int .i64 (U 1), .int .i64 (U 2), .int .i64 (U 3), .int .i64 (U 4), .int .i64 (U 5), .int .i64 (U 6), .int .i64 (U 7), .int .i64 (U 8), .int .i64 (U 9), .int .i64 (U 10), .int .i64 (U 11)]) (.int .i64 ((3 : Nat) : Int))).run Tryd.prog w = .ok (.int .i64 (U 3)) w by kernel_rfl)
  · exact (show (Instr.index 48 (.agg #[.int .i64 (U 0), .int .i64 (U 1), .int .i64 (U 2), .int .i64 (U 3), .int .i64 (U 4), .int .i64 (U 5), .int .i64 (U 6), .int .i64 (U 7), .int .i64 (U 8), .int .i64 (U 9), .int .i64 (U 10), .int .i64 (U 11)]) (.int .i64 ((4 : Nat) : Int))).run Tryd.prog w = .ok (.int .i64 (U 4)) w by kernel_rfl)
  · exact (show (Instr.index 48 (.agg #[.int .i64 (U 0), .int .i64 (U 1), .int .i64 (U 2), .int .i64 (U 3), .int .i64 (U 4), .int .i64 (U 5), .int .i64 (U 6), .int .i64 (U 7), .int .i64 (U 8), .int .i64 (U 9), .int .i64 (U 10), .int .i64 (U 11)]) (.int .i64 ((5 : Nat) : Int))).run Tryd.prog w = .ok (.int .i64 (U 5)) w by kernel_rfl)
  · exact (show (Instr.index 48 (.agg #[.int .i64 (U 0), .int .i64 (U 1), .int .i64 (U 2), .int .i64 (U 3), .int .i64 (U 4), .int .i64 (U 5), .int .i64 (U 6), .int .i64 (U 7), .int .i64 (U 8), .int .i64 (U 9), .int .i64 (U 10), .int .i64 (U 11)]) (.int .i64 ((6 : Nat) : Int))).run Tryd.prog w = .ok (.int .i64 (U 6)) w by kernel_rfl)
  · exact (show (Instr.index 48 (.agg #[.int .i64 (U 0), .int .i64 (U 1), .int .i64 (U 2), .int .i64 (U 3), .int .i64 (U 4), .int .i64 (U 5), .int .i64 (U 6), .int .i64 (U 7), .int .i64 (U 8), .int .i64 (U 9), .int .i64 (U 10), .int .i64 (U 11)]) (.int .i64 ((7 : Nat) : Int))).run Tryd.prog w = .ok (.int .i64 (U 7)) w by kernel_rfl)
  · exact (show (Instr.index 48 (.agg #[.int .i64 (U 0), .int .i64 (U 1), .int .i64 (U 2), .int .i64 (U 3), .int .i64 (U 4), .int .i64 (U 5), .int .i64 (U 6), .int .i64 (U 7), .int .i64 (U 8), .int .i64 (U 9), .int .i64 (U 10), .int .i64 (U 11)]) (.int .i64 ((8 : Nat) : Int))).run Tryd.prog w = .ok (.int .i64 (U 8)) w by kernel_rfl)
  · exact (show (Instr.index 48 (.agg #[.int .i64 (U 0), .int .i64 (U 1), .int .i64 (U 2), .int .i64 (U 3), .int .i64 (U 4), .int .i64 (U 5), .int .i64 (U 6), .int .i64 (U 7), .int .i64 (U 8), .int .i64 (U 9), .int .i64 (U 10), .int .i64 (U 11)]) (.int .i64 ((9 : Nat) : Int))).run Tryd.prog w = .ok (.int .i64 (U 9)) w by kernel_rfl)
  · exact (show (Instr.index 48 (.agg #[.int .i64 (U 0), .int .i64 (U 1), .int .i64 (U 2), .int .i64 (U 3), .int .i64 (U 4), .int .i64 (U 5), .int .i64 (U 6), .int .i64 (U 7), .int .i64 (U 8), .int .i64 (U 9), .int .i64 (U 10), .int .i64 (U 11)]) (.int .i64 ((10 : Nat) : Int))).run Tryd.prog w = .ok (.int .i64 (U 10)) w by kernel_rfl)
  · exact (show (Instr.index 48 (.agg #[.int .i64 (U 0), .int .i64 (U 1), .int .i64 (U 2), .int .i64 (U 3), .int .i64 (U 4), .int .i64 (U 5), .int .i64 (U 6), .int .i64 (U 7), .int .i64 (U 8), .int .i64 (U 9), .int .i64 (U 10), .int .i64 (U 11)]) (.int .i64 ((11 : Nat) : Int))).run Tryd.prog w = .ok (.int .i64 (U 11)) w by kernel_rfl)
theorem p12_set {w : World} {g t : Nat} {U V : Nat → Int} {k : Nat} (hk : k < 12) (h : Blk w g t #[.int .i64 (U 0), .int .i64 (U 1), .int .i64 (U 2), .int .i64 (U 3), .int .i64 (U 4), .int .i64 (U 5), .int .i64 (U 6), .int .i64 (U 7), .int .i64 (U 8), .int .i64 (U 9), .int .i64 (U 10), .int .i64 (U 11)]) (hV : ∀ j, j < 12 → V j = if j = k then V k else U j) : Blk (w.setCell ⟨g, k, none⟩ (.int .i64 (V k))) g t #[.int .i64 (V 0), .int .i64 (V 1), .int .i64 (V 2), .int .i64 (V 3), .int .i64 (V 4), .int .i64 (V 5), .int .i64 (V 6), .int .i64 (V 7), .int .i64 (V 8), .int .i64 (V 9), .int .i64 (V 10), .int .i64 (V 11)] := by
  have h2 := h.set_ k (.int .i64 (V k))
  have e := fun j hj => hV j hj
  have e0 := hV 0 (by omega)
  have e1 := hV 1 (by omega)
  have e2 := hV 2 (by omega)
  have e3 := hV 3 (by omega)
  have e4 := hV 4 (by omega)
  have e5 := hV 5 (by omega)
  have e6 := hV 6 (by omega)
  have e7 := hV 7 (by omega)
  have e8 := hV 8 (by omega)
  have e9 := hV 9 (by omega)
  have e10 := hV 10 (by omega)
  have e11 := hV 11 (by omega)
  clear hV h e
  rcases lt12 hk with rfl | rfl | rfl | rfl | rfl | rfl | rfl | rfl | rfl | rfl | rfl | rfl
  · rw [e1, e2, e3, e4, e5, e6, e7, e8, e9, e10, e11]; exact h2
  · rw [e0, e2, e3, e4, e5, e6, e7, e8, e9, e10, e11]; exact h2
  · rw [e0, e1, e3, e4, e5, e6, e7, e8, e9, e10, e11]; exact h2
  · rw [e0, e1, e2, e4, e5, e6, e7, e8, e9, e10, e11]; exact h2
  · rw [e0, e1, e2, e3, e5, e6, e7, e8, e9, e10, e11]; exact h2
  · rw [e0, e1, e2, e3, e4, e6, e7, e8, e9, e10, e11]; exact h2
  · rw [e0, e1, e2, e3, e4, e5, e7, e8, e9, e10, e11]; exact h2
  · rw [e0, e1, e2, e3, e4, e5, e6, e8, e9, e10, e11]; exact h2
  · rw [e0, e1, e2, e3, e4, e5, e6, e7, e9, e10, e11]; exact h2
  · rw [e0, e1, e2, e3, e4, e5, e6, e7, e8, e10, e11]; exact h2
  · rw [e0, e1, e2, e3, e4, e5, e6, e7, e8, e9, e11]; exact h2
  · rw [e0, e1, e2, e3, e4, e5, e6, e7, e8, e9, e10]; exact h2
/-- Where a delayed level comes from. -/
def shD (n : Int) (j : Nat) : Nat := (((j : Int) - n) % 12).toNat
def dlV (p : Nat → Int) (n : Int) (k j : Nat) : Int := if shD n j < k then p (shD n j) else 0
theorem tw12_cast (s : Int) : ((tw12 s : Nat) : Int) = s % 12 := by
  have h1 := tmod12 s
  have h2 := Int.tmod_add_mul_tdiv s 12
  unfold tw12
  omega
theorem dlV_succ (p : Nat → Int) (n : Int) (k : Nat) (hk : k < 12) : ∀ j, j < 12 → dlV p n (k + 1) j = if j = tw12 (k + n) then dlV p n (k + 1) (tw12 (k + n)) else dlV p n k j := by
  intro j hj
  have h1 := tw12_cast (k + n)
  by_cases h : j = tw12 (k + n)
  · rw [if_pos h, ← h]
  · rw [if_neg h]
    unfold dlV
    have h2 : shD n j ≠ k := by unfold shD; omega
    by_cases h3 : shD n j < k
    · rw [if_pos h3, if_pos (by omega)]
    · rw [if_neg h3, if_neg (by omega)]
theorem dlV_here (p : Nat → Int) (n : Int) (k : Nat) (hk : k < 12) : dlV p n (k + 1) (tw12 (k + n)) = p k := by
  have h1 := tw12_cast (k + n)
  have h2 : shD n (tw12 (k + n)) = k := by unfold shD; omega
  unfold dlV
  rw [h2, if_pos (by omega)]
set_option maxHeartbeats 1000000 in
theorem Delayed_any (p : Nat → Int) (n : Int) (w : World) (hp : ∀ j, j < 12 → -100 ≤ p j ∧ p j ≤ 100) (hn1 : -128 ≤ n) (hn2 : n ≤ 127) :
    Calls Tryd.prog 19 #[.agg #[.int .i64 (p 0), .int .i64 (p 1), .int .i64 (p 2), .int .i64 (p 3), .int .i64 (p 4), .int .i64 (p 5), .int .i64 (p 6), .int .i64 (p 7), .int .i64 (p 8), .int .i64 (p 9), .int .i64 (p 10), .int .i64 (p 11)], .int .i64 n] w fun e w' => e = .returned (.tuple #[.agg #[.int .i64 ((dlV p n 12) 0), .int .i64 ((dlV p n 12) 1), .int .i64 ((dlV p n 12) 2), .int .i64 ((dlV p n 12) 3), .int .i64 ((dlV p n 12) 4), .int .i64 ((dlV p n 12) 5), .int .i64 ((dlV p n 12) 6), .int .i64 ((dlV p n 12) 7), .int .i64 ((dlV p n 12) 8), .int .i64 ((dlV p n 12) 9), .int .i64 ((dlV p n 12) 10), .int .i64 ((dlV p n 12) 11)], .int .i64 0]) ∧ Below w.heap.size w w' := by
  have ht : Hid (ckR n (-100000) 100000 = 0) := ckR_yes (by omega)
  have hix : ∀ (k : Nat), k < 12 → ∀ w, (Instr.index 48 (.agg #[.int .i64 (p 0), .int .i64 (p 1), .int .i64 (p 2), .int .i64 (p 3), .int .i64 (p 4), .int .i64 (p 5), .int .i64 (p 6), .int .i64 (p 7), .int .i64 (p 8), .int .i64 (p 9), .int .i64 (p 10), .int .i64 (p 11)]) (.int .i64 k)).run Tryd.prog w = .ok (.int .i64 (p k)) w := fun k hk w => p12_index p hk w
  have HIX := Lib.hid hix
  have HP := Lib.hid hp
  clear hix hp
  go_enter Tryd.func19, Tryd.ntmps19
  go_wp2_with (first | (go_at_call 41; refine (checkPattern_any p _ HP.out).mono ?_; rintro e w1 ⟨rfl, hb1⟩; obtain ⟨hc1, hf1⟩ := ifs_of hb1; have hs1 := hb1.size; (try simp at hs1)) | (go_at_call 44; refine (hcheckTurn_any _ _).mono ?_; rw [ht.out]; rintro e w2 ⟨rfl, rfl⟩) | (go_at_call 43; refine (hfirst_new [0, 0] _ _ 2 rfl (by unfold maxLen; omega)).mono ?_; rw [show firstE [0, 0] = 0 from rfl]; rintro e w3 ⟨rfl, rfl⟩))
  go_loopw [21] (fun i wr => ∃ k : Nat, k ≤ 12 ∧ i = .int .i64 k ∧ Blk wr (w1.heap.size + 1) 48 #[.int .i64 ((dlV p n k) 0), .int .i64 ((dlV p n k) 1), .int .i64 ((dlV p n k) 2), .int .i64 ((dlV p n k) 3), .int .i64 ((dlV p n k) 4), .int .i64 ((dlV p n k) 5), .int .i64 ((dlV p n k) 6), .int .i64 ((dlV p n k) 7), .int .i64 ((dlV p n k) 8), .int .i64 ((dlV p n k) 9), .int .i64 ((dlV p n k) 10), .int .i64 ((dlV p n k) 11)] ∧ Blk wr (w.heap.size + 1) 48 #[.int .i64 0, .int .i64 0, .int .i64 0, .int .i64 0, .int .i64 0, .int .i64 0, .int .i64 0, .int .i64 0, .int .i64 0, .int .i64 0, .int .i64 0, .int .i64 0] ∧ Below w.heap.size w wr) (fun i _ => 12 - (intOf i).toNat)
  case atStart =>
    have z0 : ∀ j, dlV p n 0 j = 0 := fun j => if_neg (by omega)
    exact ⟨0, by omega, rfl, (by simp only [z0]; exact (by repeat (first | (with_reducible assumption) | ((with_reducible apply Blk.new_at); (first | (simp; done) | (simp; omega))) | (with_reducible apply Blk.drew) | (with_reducible refine Blk.alloc ?_ _) | (with_reducible apply blk_two) | ((with_reducible refine blk_far ?_ ?_ _); (· first | (simp; done) | (simp; omega) | omega)) | ((with_reducible apply blk_kept); (· with_reducible assumption))))), (by repeat (first | (with_reducible assumption) | ((with_reducible apply Blk.new_at); (first | (simp; done) | (simp; omega))) | (with_reducible apply Blk.drew) | (with_reducible refine Blk.alloc ?_ _) | (with_reducible apply blk_two) | ((with_reducible refine blk_far ?_ ?_ _); (· first | (simp; done) | (simp; omega) | omega)) | ((with_reducible apply blk_kept); (· with_reducible assumption)))), (by repeat (first | (with_reducible exact Below.refl _ _) | (with_reducible assumption) | ((with_reducible refine Below.alloc ?_ ?_ _); rotate_left; (· first | (simp; done) | (simp; omega) | omega)) | ((with_reducible refine Below.setCell ?_ ?_ _); rotate_left; (· first | (simp; done) | (simp; omega) | omega)) | (with_reducible apply Below.drew) | ((with_reducible apply below_step); (· with_reducible assumption); rotate_left; (· first | (simp; done) | (simp; omega) | omega))))⟩
  case round =>
    obtain ⟨k, hk, rfl, hB, hR, hb⟩ := hrel
    have hne : w.heap.size + 1 < w1.heap.size := by omega
    have zb := hB.lt
    have HB := Lib.hid hB
    have HR := Lib.hid hR
    have vv := hB.cell
    have fv := hB.frozen
    by_cases hlt : k < 12
    · have hi := HIX.out k hlt
      obtain ⟨g1, g2⟩ := tmod12 ((k : Int) + n)
      have hpl : tw12 (k + n) < 12 := by have := tw12_cast (k + n); omega
      have hE : (((k : Int) + n).tmod 12 + 12) % 12 = (tw12 (k + n) : Int) := by unfold tw12; omega
      have hc := p12_at hB hpl
      have hS : Blk (wr.setCell ⟨w1.heap.size + 1, tw12 (k + n), none⟩ (.int .i64 (p k))) (w1.heap.size + 1) 48 #[.int .i64 ((dlV p n (k + 1)) 0), .int .i64 ((dlV p n (k + 1)) 1), .int .i64 ((dlV p n (k + 1)) 2), .int .i64 ((dlV p n (k + 1)) 3), .int .i64 ((dlV p n (k + 1)) 4), .int .i64 ((dlV p n (k + 1)) 5), .int .i64 ((dlV p n (k + 1)) 6), .int .i64 ((dlV p n (k + 1)) 7), .int .i64 ((dlV p n (k + 1)) 8), .int .i64 ((dlV p n (k + 1)) 9), .int .i64 ((dlV p n (k + 1)) 10), .int .i64 ((dlV p n (k + 1)) 11)] := by
        have x := p12_set hpl hB (dlV_succ p n k hlt)
        rw [dlV_here p n k hlt] at x
        exact x
      have HS := Lib.hid hS
      clear hS hB hR vv
      generalize tw12 (k + n) = j at *
      generalize p k = z at *
      go_wp2
      go_roundw
      case rel => exact ⟨k + 1, by omega, by go_num, HS.out, HR.out.far (by first | (simp; done) | (simp; omega)) _, (by repeat (first | (with_reducible exact Below.refl _ _) | (with_reducible assumption) | ((with_reducible refine Below.alloc ?_ ?_ _); rotate_left; (· first | (simp; done) | (simp; omega) | omega)) | ((with_reducible refine Below.setCell ?_ ?_ _); rotate_left; (· first | (simp; done) | (simp; omega) | omega)) | (with_reducible apply Below.drew) | ((with_reducible apply below_step); (· with_reducible assumption); rotate_left; (· first | (simp; done) | (simp; omega) | omega))))⟩
      case measure => simp [intOf]; omega
    · obtain rfl : k = 12 := by omega
      clear hB hR
      have rr := HR.out.cell
      have fr := HR.out.frozen
      go_wp2
      exact bodyPost_ret (by first | (simp [results, Tryd.results19, go_sem, *]; done) | (simp [results, Tryd.results19, go_sem, *, ↓IntWalk.iteOmega]; done) | (simp [results, Tryd.results19, go_sem, *]; (repeat' apply And.intro) <;> rfl) | (simp [results, Tryd.results19, go_sem, *, ↓IntWalk.iteOmega]; (repeat' apply And.intro) <;> rfl)) rfl ⟨rfl, (by repeat (first | (with_reducible exact Below.refl _ _) | (with_reducible assumption) | ((with_reducible refine Below.alloc ?_ ?_ _); rotate_left; (· first | (simp; done) | (simp; omega) | omega)) | ((with_reducible refine Below.setCell ?_ ?_ _); rotate_left; (· first | (simp; done) | (simp; omega) | omega)) | (with_reducible apply Below.drew) | ((with_reducible apply below_step); (· with_reducible assumption); rotate_left; (· first | (simp; done) | (simp; omega) | omega))))⟩
end Go.Proofs.YtjakigncloleaaaDoor
