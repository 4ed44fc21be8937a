/- Plain arithmetic of turns: no program. -/
import Derived.Test.YtjakigncloleaaaDoorPh6
import Derived.Test.YtjakigncloleaaaDoorPh8
import Derived.Test.YtjakigncloleaaaDoorPh13
namespace Go.Proofs.YtjakigncloleaaaDoor
open Go.RowKit
def rot : Nat → Int × Int → Int × Int
  | 0, p => p
  | 1, p => (p.1 - p.2, p.1)
  | 2, p => (-p.2, p.1 - p.2)
  | 3, p => (-p.1, -p.2)
  | 4, p => (p.2 - p.1, -p.1)
  | _, p => (p.2, p.2 - p.1)
/-- Both parts are from -m to m. -/
def Bd (m : Int) (p : Int × Int) : Prop := -m ≤ p.1 ∧ p.1 ≤ m ∧ -m ≤ p.2 ∧ p.2 ≤ m
theorem six_le (s : Int) : six s ≤ 5 := by unfold six; have := tmod6 s; omega
theorem six_cast (s : Int) : ((six s : Nat) : Int) = s % 6 := by
  unfold six
  have h := Int.tmod_add_mul_tdiv s 6
  have := tmod6 s
  omega
theorem tr_rot {m : Int} {p : Int × Int} (hm : m ≤ 1000000) (h : Bd m p) {n : Nat} (hn : n ≤ 5) : tr n p = rot n p := by
  obtain ⟨a, b⟩ := p
  obtain ⟨h1, h2, h3, h4⟩ := h
  simp only at h1 h2 h3 h4
  have e1 : tr 1 (a, b) = (a - b, a) := by simp only [tr, tstep]; rw [w64 _ (by omega) (by omega)]
  have e2 : tr 2 (a, b) = (-b, a - b) := by
    show tstep (tr 1 (a, b)) = _
    rw [e1]; simp only [tstep]; rw [w64 _ (by omega) (by omega)]; congr 1; omega
  have e3 : tr 3 (a, b) = (-a, -b) := by
    show tstep (tr 2 (a, b)) = _
    rw [e2]; simp only [tstep]; rw [w64 _ (by omega) (by omega)]; congr 1; omega
  have e4 : tr 4 (a, b) = (b - a, -a) := by
    show tstep (tr 3 (a, b)) = _
    rw [e3]; simp only [tstep]; rw [w64 _ (by omega) (by omega)]; congr 1; omega
  have e5 : tr 5 (a, b) = (b, b - a) := by
    show tstep (tr 4 (a, b)) = _
    rw [e4]; simp only [tstep]; rw [w64 _ (by omega) (by omega)]; congr 1; omega
  rcases (show n = 0 ∨ n = 1 ∨ n = 2 ∨ n = 3 ∨ n = 4 ∨ n = 5 from by omega) with rfl | rfl | rfl | rfl | rfl | rfl
  · rfl
  · exact e1
  · exact e2
  · exact e3
  · exact e4
  · exact e5
theorem rot_bd {m : Int} {p : Int × Int} (h : Bd m p) {n : Nat} (hn : n ≤ 5) : Bd (2 * m) (rot n p) := by
  obtain ⟨a, b⟩ := p
  obtain ⟨h1, h2, h3, h4⟩ := h
  simp only at h1 h2 h3 h4
  rcases (show n = 0 ∨ n = 1 ∨ n = 2 ∨ n = 3 ∨ n = 4 ∨ n = 5 from by omega) with rfl | rfl | rfl | rfl | rfl | rfl <;> simp only [rot, Bd] <;> omega
theorem rot_rot (p : Int × Int) {i j : Nat} (hi : i ≤ 5) (hj : j ≤ 5) : rot i (rot j p) = rot ((i + j) % 6) p := by
  obtain ⟨a, b⟩ := p
  rcases (show i = 0 ∨ i = 1 ∨ i = 2 ∨ i = 3 ∨ i = 4 ∨ i = 5 from by omega) with rfl | rfl | rfl | rfl | rfl | rfl <;>
    rcases (show j = 0 ∨ j = 1 ∨ j = 2 ∨ j = 3 ∨ j = 4 ∨ j = 5 from by omega) with rfl | rfl | rfl | rfl | rfl | rfl <;>
    refine Prod.ext ?_ ?_ <;> simp only [rot, Nat.reduceAdd, Nat.reduceMod] <;> omega
theorem inB_bd {m : Int} {p : Int × Int} (h : Bd m p) {M : Int} (hM : m ≤ M) : inB M p.1 p.2 = true := by
  obtain ⟨h1, h2, h3, h4⟩ := h
  simp [inB]
  omega
theorem eMA_w (c d : Int) (h : Bd 1000000 (c, d)) : eMA 0 1 c d = -d ∧ eMB 0 1 c d = c - d ∧ eMA (-1) (-1) c d = d - c ∧ eMB (-1) (-1) c d = -c := by
  obtain ⟨h1, h2, h3, h4⟩ := h
  simp only at h1 h2 h3 h4
  unfold eMA eMB
  by_cases hc : c = 1 ∧ d = 0
  · obtain ⟨rfl, rfl⟩ := hc
    decide
  · simp only [if_neg hc]
    unfold wrap64
    omega
theorem mul_bd {a b A B : Int} (ha : -A ≤ a ∧ a ≤ A) (hb : -B ≤ b ∧ b ≤ B) : -(A * B) ≤ a * b ∧ a * b ≤ A * B := by
  have h1 : a.natAbs ≤ A.toNat := by omega
  have h2 : b.natAbs ≤ B.toNat := by omega
  have h3 := Nat.mul_le_mul h1 h2
  rw [← Int.natAbs_mul] at h3
  have h4 : ((A.toNat * B.toNat : Nat) : Int) = A * B := by rw [Int.natCast_mul, Int.toNat_of_nonneg (by omega), Int.toNat_of_nonneg (by omega)]
  omega
/-- Products of small numbers do not wrap. -/
theorem mul_eq (a b c d : Int) (h : Bd 100000 (a, b)) (h' : Bd 100000 (c, d)) : mA a b c d = a * c - b * d ∧ mB a b c d = a * d + b * c - b * d ∧ eMA a b c d = a * c - b * d ∧ eMB a b c d = a * d + b * c - b * d := by
  obtain ⟨h1, h2, h3, h4⟩ := h
  obtain ⟨k1, k2, k3, k4⟩ := h'
  simp only at h1 h2 h3 h4 k1 k2 k3 k4
  have p1 := mul_bd ⟨h1, h2⟩ ⟨k1, k2⟩
  have p2 := mul_bd ⟨h1, h2⟩ ⟨k3, k4⟩
  have p3 := mul_bd ⟨h3, h4⟩ ⟨k1, k2⟩
  have p4 := mul_bd ⟨h3, h4⟩ ⟨k3, k4⟩
  have e1 : mA a b c d = a * c - b * d := by
    unfold mA
    rw [w64 (a * c) (by omega) (by omega), w64 (b * d) (by omega) (by omega), w64 _ (by omega) (by omega)]
  have e2 : mB a b c d = a * d + b * c - b * d := by
    unfold mB
    rw [w64 (a * d) (by omega) (by omega), w64 (b * c) (by omega) (by omega), w64 (b * d) (by omega) (by omega), w64 (a * d + b * c) (by omega) (by omega), w64 _ (by omega) (by omega)]
  refine ⟨e1, e2, ?_, ?_⟩
  · unfold eMA
    split
    · rename_i hc; obtain ⟨rfl, rfl⟩ := hc; simp
    · exact e1
  · unfold eMB
    split
    · rename_i hc; obtain ⟨rfl, rfl⟩ := hc; simp
    · exact e2
end Go.Proofs.YtjakigncloleaaaDoor
