/- Plain laws of patterns: what an order's terms are, exactly; the strengths of all orders. -/
import Derived.Test.YtjakigncloleaaaDoorH3
import Derived.Test.YtjakigncloleaaaDoorPl
namespace Go.Proofs.YtjakigncloleaaaDoor
open Go.RowKit
def tbl (L : Int) : Nat → Cy
  | 0 => ⟨L, 0, 0, 0⟩
  | 1 => ⟨0, 0, 0, -L⟩
  | 2 => ⟨L, L, 0, 0⟩
  | 3 => ⟨0, 0, L, 0⟩
  | 4 => ⟨0, L, 0, 0⟩
  | 5 => ⟨0, 0, L, L⟩
  | 6 => ⟨-L, 0, 0, 0⟩
  | 7 => ⟨0, 0, 0, L⟩
  | 8 => ⟨-L, -L, 0, 0⟩
  | 9 => ⟨0, 0, -L, 0⟩
  | 10 => ⟨0, -L, 0, 0⟩
  | _ => ⟨0, 0, -L, -L⟩
theorem cyQ_eq {x : Cy} (hc : -1000000 ≤ x.c ∧ x.c ≤ 1000000) (hd : -1000000 ≤ x.d ∧ x.d ≤ 1000000) : cyQ x = ⟨-x.c, -x.d, x.a, x.b⟩ := by
  unfold cyQ
  rw [w64 _ (by omega) (by omega), w64 _ (by omega) (by omega)]
theorem cyT_unit {L : Int} (h : -1000 ≤ L ∧ L ≤ 1000) : cyT ⟨L, 0, 0, 0⟩ (unitP 0) = tbl L 0 ∧ cyT ⟨L, 0, 0, 0⟩ (unitP 1) = tbl L 1 ∧ cyT ⟨L, 0, 0, 0⟩ (unitP 2) = tbl L 2 := by
  refine ⟨?_, ?_, ?_⟩ <;> simp only [cyT, unitP, tbl, eLe, eTA, eTB, ePA, Cy.mk.injEq, wrap64] <;> omega
theorem tuC_eq {L : Int} (h : -1000 ≤ L ∧ L ≤ 1000) (s : Int) : tuC ⟨L, 0, 0, 0⟩ s = tbl L (tw12 s) := by
  obtain ⟨u0, u1, u2⟩ := cyT_unit h
  have hl : tw12 s < 12 := by have := tmod12 s; unfold tw12; omega
  unfold tuC
  generalize tw12 s = m at *
  have s3 : cyQ (tbl L 0) = tbl L 3 := by simp only [tbl]; rw [cyQ_eq (by simp) (by simp)]; simp
  have s4 : cyQ (tbl L 1) = tbl L 4 := by simp only [tbl]; rw [cyQ_eq (by simp) (by simp <;> omega)]; simp
  have s5 : cyQ (tbl L 2) = tbl L 5 := by simp only [tbl]; rw [cyQ_eq (by simp) (by simp)]; simp
  have s6 : cyQ (tbl L 3) = tbl L 6 := by simp only [tbl]; rw [cyQ_eq (by simp <;> omega) (by simp)]; simp
  have s7 : cyQ (tbl L 4) = tbl L 7 := by simp only [tbl]; rw [cyQ_eq (by simp) (by simp)]; simp
  have s8 : cyQ (tbl L 5) = tbl L 8 := by simp only [tbl]; rw [cyQ_eq (by simp <;> omega) (by simp <;> omega)]
  have s9 : cyQ (tbl L 6) = tbl L 9 := by simp only [tbl]; rw [cyQ_eq (by simp) (by simp)]; simp
  have s10 : cyQ (tbl L 7) = tbl L 10 := by simp only [tbl]; rw [cyQ_eq (by simp) (by simp <;> omega)]; simp
  have s11 : cyQ (tbl L 8) = tbl L 11 := by simp only [tbl]; rw [cyQ_eq (by simp) (by simp)]; simp
  rcases (show m = 0 ∨ m = 1 ∨ m = 2 ∨ m = 3 ∨ m = 4 ∨ m = 5 ∨ m = 6 ∨ m = 7 ∨ m = 8 ∨ m = 9 ∨ m = 10 ∨ m = 11 from by omega) with rfl | rfl | rfl | rfl | rfl | rfl | rfl | rfl | rfl | rfl | rfl | rfl
  · exact u0
  · exact u1
  · exact u2
  · show cyQ (cyT _ (unitP 0)) = _
    rw [u0, s3]
  · show cyQ (cyT _ (unitP 1)) = _
    rw [u1, s4]
  · show cyQ (cyT _ (unitP 2)) = _
    rw [u2, s5]
  · show cyQ (cyQ (cyT _ (unitP 0))) = _
    rw [u0, s3, s6]
  · show cyQ (cyQ (cyT _ (unitP 1))) = _
    rw [u1, s4, s7]
  · show cyQ (cyQ (cyT _ (unitP 2))) = _
    rw [u2, s5, s8]
  · show cyQ (cyQ (cyQ (cyT _ (unitP 0)))) = _
    rw [u0, s3, s6, s9]
  · show cyQ (cyQ (cyQ (cyT _ (unitP 1)))) = _
    rw [u1, s4, s7, s10]
  · show cyQ (cyQ (cyQ (cyT _ (unitP 2)))) = _
    rw [u2, s5, s8, s11]
/-- An order, its first k terms summed. -/
def ordV (p : Nat → Int) (h : Int) : Nat → Cy
  | 0 => ⟨0, 0, 0, 0⟩
  | k + 1 => cyP (ordV p h k) (tuC ⟨p k, 0, 0, 0⟩ (wrap64 (-h * (k : Int))))
/-- The same without wraps. -/
def ordX (p : Nat → Int) (h : Nat) : Nat → Cy
  | 0 => ⟨0, 0, 0, 0⟩
  | k + 1 => ⟨(ordX p h k).a + (tbl (p k) ((144 - h * k) % 12)).a, (ordX p h k).b + (tbl (p k) ((144 - h * k) % 12)).b, (ordX p h k).c + (tbl (p k) ((144 - h * k) % 12)).c, (ordX p h k).d + (tbl (p k) ((144 - h * k) % 12)).d⟩
theorem tbl_bd {L M : Int} (h : -M ≤ L ∧ L ≤ M) (m : Nat) : (-M ≤ (tbl L m).a ∧ (tbl L m).a ≤ M) ∧ (-M ≤ (tbl L m).b ∧ (tbl L m).b ≤ M) ∧ (-M ≤ (tbl L m).c ∧ (tbl L m).c ≤ M) ∧ (-M ≤ (tbl L m).d ∧ (tbl L m).d ≤ M) := by
  unfold tbl
  split <;> simp only <;> omega
theorem ordX_bd {p : Nat → Int} (hp : ∀ j, j < 12 → -100 ≤ p j ∧ p j ≤ 100) (h : Nat) : ∀ k : Nat, k ≤ 12 → (-(100 * (k : Int)) ≤ (ordX p h k).a ∧ (ordX p h k).a ≤ 100 * k) ∧ (-(100 * (k : Int)) ≤ (ordX p h k).b ∧ (ordX p h k).b ≤ 100 * k) ∧ (-(100 * (k : Int)) ≤ (ordX p h k).c ∧ (ordX p h k).c ≤ 100 * k) ∧ (-(100 * (k : Int)) ≤ (ordX p h k).d ∧ (ordX p h k).d ≤ 100 * k)
  | 0, _ => by simp [ordX]
  | k + 1, hk => by
    have h1 := ordX_bd hp h k (by omega)
    have h2 := tbl_bd (hp k (by omega)) ((144 - h * k) % 12)
    simp only [ordX]
    omega
theorem mul12 {h k : Nat} (hh : h < 12) (hk : k < 12) : h * k ≤ 121 := Nat.mul_le_mul (show h ≤ 11 by omega) (show k ≤ 11 by omega)
theorem tw12_emod (s : Int) : ((tw12 s : Nat) : Int) = s % 12 := by
  have h1 := tmod12 s
  have h2 := Int.tmod_add_mul_tdiv s 12
  unfold tw12
  omega
theorem ordV_eq {p : Nat → Int} (hp : ∀ j, j < 12 → -100 ≤ p j ∧ p j ≤ 100) {h : Nat} (hh : h < 12) : ∀ k : Nat, k ≤ 12 → ordV p (h : Int) k = ordX p h k
  | 0, _ => rfl
  | k + 1, hk => by
    have h1 := ordV_eq hp hh k (by omega)
    have h2 := ordX_bd hp h k (by omega)
    have h3 := hp k (by omega)
    have h4 := tbl_bd h3 ((144 - h * k) % 12)
    have hm := mul12 hh (show k < 12 by omega)
    have e : tw12 (wrap64 (-(h : Int) * (k : Int))) = (144 - h * k) % 12 := by
      have e0 : -(h : Int) * (k : Int) = -((h * k : Nat) : Int) := by rw [Int.neg_mul, Int.natCast_mul]
      have e1 := tw12_emod (wrap64 (-(h : Int) * (k : Int)))
      rw [e0] at e1 ⊢
      generalize h * k = x at *
      rw [w64 _ (by omega) (by omega)] at e1 ⊢
      omega
    simp only [ordV, ordX, h1, tuC_eq (show -1000 ≤ p k ∧ p k ≤ 1000 by omega), e, cyP, ePA]
    generalize tbl (p k) ((144 - h * k) % 12) = y at *
    generalize ordX p h k = x at *
    rw [w64 _ (by omega) (by omega), w64 _ (by omega) (by omega), w64 _ (by omega) (by omega), w64 _ (by omega) (by omega)]
/-- The strength without wraps. -/
def nrm (a b : Int) : Int := a * a - a * b + b * b
theorem st_eq {x : Cy} (h : (-1200 ≤ x.a ∧ x.a ≤ 1200) ∧ (-1200 ≤ x.b ∧ x.b ≤ 1200) ∧ (-1200 ≤ x.c ∧ x.c ≤ 1200) ∧ (-1200 ≤ x.d ∧ x.d ≤ 1200)) :
    stA x = nrm x.a x.b + nrm x.c x.d ∧ (-1073741824 ≤ stA x ∧ stA x ≤ 1073741824) ∧ (-1073741824 ≤ stB x ∧ stB x ≤ 1073741824) := by
  obtain ⟨a, b, c, d⟩ := x
  obtain ⟨⟨a1, a2⟩, ⟨b1, b2⟩, ⟨c1, c2⟩, ⟨d1, d2⟩⟩ := h
  simp only at a1 a2 b1 b2 c1 c2 d1 d2
  have e1 : eCA a b = a - b := by unfold eCA; rw [w64 _ (by omega) (by omega)]
  have e2 : eCB b = -b := by unfold eCB; rw [w64 _ (by omega) (by omega)]
  have e3 : eCA c d = c - d := by unfold eCA; rw [w64 _ (by omega) (by omega)]
  have e4 : eCB d = -d := by unfold eCB; rw [w64 _ (by omega) (by omega)]
  have p1 := mul_bd (a := a) (b := a - b) (A := 1200) (B := 2400) ⟨a1, a2⟩ (by omega)
  have p2 := mul_bd (a := b) (b := -b) (A := 1200) (B := 1200) ⟨b1, b2⟩ (by omega)
  have p3 := mul_bd (a := c) (b := c - d) (A := 1200) (B := 2400) ⟨c1, c2⟩ (by omega)
  have p4 := mul_bd (a := d) (b := -d) (A := 1200) (B := 1200) ⟨d1, d2⟩ (by omega)
  have p5 := mul_bd (a := c) (b := -b) (A := 1200) (B := 1200) ⟨c1, c2⟩ (by omega)
  have p6 := mul_bd (a := d) (b := a - b) (A := 1200) (B := 2400) ⟨d1, d2⟩ (by omega)
  have p7 := mul_bd (a := d) (b := -b) (A := 1200) (B := 1200) ⟨d1, d2⟩ (by omega)
  have f1 : eTA a b (a - b) (-b) = nrm a b := by
    unfold eTA nrm
    rw [w64 (a * (a - b)) (by omega) (by omega), w64 (b * -b) (by omega) (by omega), w64 _ (by omega) (by omega), Int.mul_sub, Int.mul_neg]
    omega
  have f2 : eTA c d (c - d) (-d) = nrm c d := by
    unfold eTA nrm
    rw [w64 (c * (c - d)) (by omega) (by omega), w64 (d * -d) (by omega) (by omega), w64 _ (by omega) (by omega), Int.mul_sub, Int.mul_neg]
    omega
  have g1 : -10000000 ≤ nrm a b ∧ nrm a b ≤ 10000000 := by
    rw [← f1]; unfold eTA
    rw [w64 (a * (a - b)) (by omega) (by omega), w64 (b * -b) (by omega) (by omega), w64 _ (by omega) (by omega)]
    omega
  have g2 : -10000000 ≤ nrm c d ∧ nrm c d ≤ 10000000 := by
    rw [← f2]; unfold eTA
    rw [w64 (c * (c - d)) (by omega) (by omega), w64 (d * -d) (by omega) (by omega), w64 _ (by omega) (by omega)]
    omega
  have s1 : stA ⟨a, b, c, d⟩ = nrm a b + nrm c d := by
    unfold stA ePA
    simp only [e1, e2, e3, e4, f1, f2]
    rw [w64 _ (by omega) (by omega)]
  refine ⟨s1, by rw [s1]; omega, ?_⟩
  unfold stB eTB
  simp only [e1, e2]
  rw [w64 (c * -b) (by omega) (by omega), w64 (d * (a - b)) (by omega) (by omega), w64 (d * -b) (by omega) (by omega), w64 (c * -b + d * (a - b)) (by omega) (by omega), w64 (c * -b + d * (a - b) - d * -b) (by omega) (by omega), w64 _ (by omega) (by omega)]
  omega
/-- The strengths of all orders. -/
def allS (p : Nat → Int) : Nat → Int
  | 0 => 0
  | h + 1 => allS p h + (nrm (ordX p h 12).a (ordX p h 12).b + nrm (ordX p h 12).c (ordX p h 12).d)
def sqS (p : Nat → Int) : Nat → Int
  | 0 => 0
  | k + 1 => sqS p k + p k * p k
set_option maxHeartbeats 4000000 in
set_option maxRecDepth 100000 in
theorem parseval (p : Nat → Int) : allS p 12 = 12 * sqS p 12 := by
  simp only [allS, sqS, ordX, Nat.reduceMul, Nat.reduceSub, Nat.reduceMod, tbl, nrm]
  generalize p 0 = x0
  generalize p 1 = x1
  generalize p 2 = x2
  generalize p 3 = x3
  generalize p 4 = x4
  generalize p 5 = x5
  generalize p 6 = x6
  generalize p 7 = x7
  generalize p 8 = x8
  generalize p 9 = x9
  generalize p 10 = x10
  generalize p 11 = x11
  grind
end Go.Proofs.YtjakigncloleaaaDoor
