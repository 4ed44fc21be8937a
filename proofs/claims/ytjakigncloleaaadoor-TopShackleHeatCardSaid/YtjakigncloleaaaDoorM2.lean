/- Plain laws of losses over a pattern. -/
import Derived.Test.YtjakigncloleaaaDoorH6
import Derived.Test.YtjakigncloleaaaDoorH11
namespace Go.Proofs.YtjakigncloleaaaDoor
open Go.RowKit
set_option linter.unusedVariables false
/-- A level without its sign. -/
def ab (x : Int) : Int := if x < -x then -x else x
theorem ab_range {x : Int} (h : -100 ≤ x ∧ x ≤ 100) : 0 ≤ ab x ∧ ab x ≤ 100 := by unfold ab; split <;> omega
def sumS (f : Nat → Int) : Nat → Int
  | 0 => 0
  | k + 1 => sumS f k + f k
theorem sumS_bd {f : Nat → Int} {M : Int} {n : Nat} (h : ∀ j, j < n → 0 ≤ f j ∧ f j ≤ M) : ∀ k : Nat, k ≤ n → 0 ≤ sumS f k ∧ sumS f k ≤ M * k
  | 0, _ => by simp [sumS]
  | k + 1, hk => by
    have h1 := sumS_bd h k (by omega)
    have h2 := h k (by omega)
    simp only [sumS, Int.natCast_add, Int.mul_add]
    omega
def one (x : Int) : Int := if 1 < x then 1 else x
theorem one_range {x : Int} (h : 0 ≤ x ∧ x ≤ 100) : 0 ≤ one x ∧ one x ≤ 1 := by unfold one; split <;> omega
/-- The exact loss of a part of a pattern, times 2^20. -/
def exl (F L S : Int) (q : Nat → Int) (k : Nat) : Int := F * sumS (fun j => one (q j)) k * 1048576 + L * sumS q k * 1024 + S * sqS q k
theorem exl_step {F L S n : Int} (h : Ls F L S) (h0 : 0 ≤ n) (h1 : n ≤ 100) : lossLo F L S n * 1048576 ≤ F * one n * 1048576 + L * n * 1024 + S * (n * n) ∧ F * one n * 1048576 + L * n * 1024 + S * (n * n) ≤ lossHi F L S n * 1048576 := by
  by_cases hn : n = 0
  · subst hn
    simp [lossLo, lossHi, one]
  · have e1 : one n = 1 := by unfold one; split <;> omega
    rw [e1]
    unfold lossLo lossHi lossN
    rw [if_neg hn, if_neg hn, Int.mul_assoc S n n]
    generalize L * n = x
    generalize S * (n * n) = y
    omega
theorem exl_bounds {F L S : Int} (h : Ls F L S) {q : Nat → Int} (hq : ∀ j, j < 12 → 0 ≤ q j ∧ q j ≤ 100) : ∀ k : Nat, k ≤ 12 → sumS (fun j => lossLo F L S (q j)) k * 1048576 ≤ exl F L S q k ∧ exl F L S q k ≤ sumS (fun j => lossHi F L S (q j)) k * 1048576
  | 0, _ => by simp [sumS, exl, sqS]
  | k + 1, hk => by
    have h1 := exl_bounds h hq k (by omega)
    have h2 := exl_step h (hq k (by omega)).1 (hq k (by omega)).2
    unfold exl at h1 ⊢
    simp only [sumS, sqS, Int.mul_add, Int.add_mul]
    omega
theorem sqS_bd {q : Nat → Int} (hq : ∀ j, j < 12 → 0 ≤ q j ∧ q j ≤ 100) : ∀ k : Nat, k ≤ 12 → 0 ≤ sqS q k ∧ sqS q k ≤ 10000 * k
  | 0, _ => by simp [sqS]
  | k + 1, hk => by
    have h1 := sqS_bd hq k (by omega)
    have h2 := hq k (by omega)
    have h3 := Int.mul_nonneg h2.1 h2.1
    have h4 : q k * q k ≤ 100 * 100 := Int.mul_le_mul h2.2 h2.2 h2.1 (by omega)
    simp only [sqS]
    omega
/-- A pattern as a list. -/
def qL (q : Nat → Int) : List Int := [q 0, q 1, q 2, q 3, q 4, q 5, q 6, q 7, q 8, q 9, q 10, q 11]
theorem qL_range {q : Nat → Int} (hq : ∀ j, j < 12 → 0 ≤ q j ∧ q j ≤ 100) : ∀ z ∈ qL q, 0 ≤ z ∧ z ≤ 1000 := by
  intro z hz
  simp only [qL, List.mem_cons, List.not_mem_nil, or_false] at hz
  rcases hz with rfl | rfl | rfl | rfl | rfl | rfl | rfl | rfl | rfl | rfl | rfl | rfl
  · have := hq 0 (by omega); omega
  · have := hq 1 (by omega); omega
  · have := hq 2 (by omega); omega
  · have := hq 3 (by omega); omega
  · have := hq 4 (by omega); omega
  · have := hq 5 (by omega); omega
  · have := hq 6 (by omega); omega
  · have := hq 7 (by omega); omega
  · have := hq 8 (by omega); omega
  · have := hq 9 (by omega); omega
  · have := hq 10 (by omega); omega
  · have := hq 11 (by omega); omega
theorem bal_rot (f : Int → Int) (q : Nat → Int) (n : Int) : (qL (dlV q n 12)).foldl (fun s z => s + f z) 0 = (qL q).foldl (fun s z => s + f z) 0 := by
  obtain ⟨r, hr, hn⟩ : ∃ r : Nat, r < 12 ∧ n % 12 = r := ⟨(n % 12).toNat, by omega, by omega⟩
  have e : ∀ j : Nat, j < 12 → dlV q n 12 j = q ((j + 12 - r) % 12) := by
    intro j hj
    have : shD n j = (j + 12 - r) % 12 := by unfold shD; omega
    unfold dlV
    rw [this, if_pos (by omega)]
  unfold qL
  rw [e 0 (by omega), e 1 (by omega), e 2 (by omega), e 3 (by omega), e 4 (by omega), e 5 (by omega), e 6 (by omega), e 7 (by omega), e 8 (by omega), e 9 (by omega), e 10 (by omega), e 11 (by omega)]
  clear e hn
  simp only [List.foldl_cons, List.foldl_nil]
  rcases lt12 hr with rfl | rfl | rfl | rfl | rfl | rfl | rfl | rfl | rfl | rfl | rfl | rfl <;> simp only [Nat.reduceAdd, Nat.reduceSub, Nat.reduceMod] <;> omega
theorem bal_plain {F L S : Int} {q : Nat → Int} (hc : ∀ j, j < 12 → lossHi F L S (q j) ≤ q j ∧ lossLo F L S (q j) ≤ lossHi F L S (q j)) :
    balLo F L S (qL q) = sumS q 12 - sumS (fun j => lossHi F L S (q j)) 12 ∧ balHi F L S (qL q) = sumS q 12 - sumS (fun j => lossLo F L S (q j)) 12 := by
  have h0 := hc 0 (by omega)
  have h1 := hc 1 (by omega)
  have h2 := hc 2 (by omega)
  have h3 := hc 3 (by omega)
  have h4 := hc 4 (by omega)
  have h5 := hc 5 (by omega)
  have h6 := hc 6 (by omega)
  have h7 := hc 7 (by omega)
  have h8 := hc 8 (by omega)
  have h9 := hc 9 (by omega)
  have h10 := hc 10 (by omega)
  have h11 := hc 11 (by omega)
  have a0 : dlLo F L S (q 0) = q 0 - lossHi F L S (q 0) := by unfold dlLo; omega
  have a1 : dlLo F L S (q 1) = q 1 - lossHi F L S (q 1) := by unfold dlLo; omega
  have a2 : dlLo F L S (q 2) = q 2 - lossHi F L S (q 2) := by unfold dlLo; omega
  have a3 : dlLo F L S (q 3) = q 3 - lossHi F L S (q 3) := by unfold dlLo; omega
  have a4 : dlLo F L S (q 4) = q 4 - lossHi F L S (q 4) := by unfold dlLo; omega
  have a5 : dlLo F L S (q 5) = q 5 - lossHi F L S (q 5) := by unfold dlLo; omega
  have a6 : dlLo F L S (q 6) = q 6 - lossHi F L S (q 6) := by unfold dlLo; omega
  have a7 : dlLo F L S (q 7) = q 7 - lossHi F L S (q 7) := by unfold dlLo; omega
  have a8 : dlLo F L S (q 8) = q 8 - lossHi F L S (q 8) := by unfold dlLo; omega
  have a9 : dlLo F L S (q 9) = q 9 - lossHi F L S (q 9) := by unfold dlLo; omega
  have a10 : dlLo F L S (q 10) = q 10 - lossHi F L S (q 10) := by unfold dlLo; omega
  have a11 : dlLo F L S (q 11) = q 11 - lossHi F L S (q 11) := by unfold dlLo; omega
  have b0 : dlHi F L S (q 0) = q 0 - lossLo F L S (q 0) := by unfold dlHi; omega
  have b1 : dlHi F L S (q 1) = q 1 - lossLo F L S (q 1) := by unfold dlHi; omega
  have b2 : dlHi F L S (q 2) = q 2 - lossLo F L S (q 2) := by unfold dlHi; omega
  have b3 : dlHi F L S (q 3) = q 3 - lossLo F L S (q 3) := by unfold dlHi; omega
  have b4 : dlHi F L S (q 4) = q 4 - lossLo F L S (q 4) := by unfold dlHi; omega
  have b5 : dlHi F L S (q 5) = q 5 - lossLo F L S (q 5) := by unfold dlHi; omega
  have b6 : dlHi F L S (q 6) = q 6 - lossLo F L S (q 6) := by unfold dlHi; omega
  have b7 : dlHi F L S (q 7) = q 7 - lossLo F L S (q 7) := by unfold dlHi; omega
  have b8 : dlHi F L S (q 8) = q 8 - lossLo F L S (q 8) := by unfold dlHi; omega
  have b9 : dlHi F L S (q 9) = q 9 - lossLo F L S (q 9) := by unfold dlHi; omega
  have b10 : dlHi F L S (q 10) = q 10 - lossLo F L S (q 10) := by unfold dlHi; omega
  have b11 : dlHi F L S (q 11) = q 11 - lossLo F L S (q 11) := by unfold dlHi; omega
  unfold balLo balHi qL
  simp only [List.foldl_cons, List.foldl_nil, sumS, a0, a1, a2, a3, a4, a5, a6, a7, a8, a9, a10, a11, b0, b1, b2, b3, b4, b5, b6, b7, b8, b9, b10, b11]
  omega
end Go.Proofs.YtjakigncloleaaaDoor
