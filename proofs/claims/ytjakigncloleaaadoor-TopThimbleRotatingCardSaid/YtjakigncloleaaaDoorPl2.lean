/- Plain laws of turning phases. -/
import Derived.Test.YtjakigncloleaaaDoorPl
namespace Go.Proofs.YtjakigncloleaaaDoor
open Go.RowKit
/-- Phase number p turned for step k. -/
def ph (a : Int × Int) (s : Int) (k : Nat) (t : Int) : Int × Int := tr (six ((k : Int) * s + t)) a
def tt : Nat → Int := fun m => [0, -2, 2].getD m 0
theorem ph_rot {a : Int × Int} (h : Bd 100 a) (s : Int) (k : Nat) (t : Int) : ph a s k t = rot (six ((k : Int) * s + t)) a := tr_rot (m := 100) (by omega) h (six_le _)
theorem ph_bd {a : Int × Int} (h : Bd 100 a) (s : Int) (k : Nat) (t : Int) : Bd 200 (ph a s k t) := by
  rw [ph_rot h]; exact rot_bd h (six_le _)
theorem six_m2 (x : Int) : six (x + -2) = (six x + 4) % 6 := by have := six_cast x; have := six_cast (x + -2); omega
theorem six_p2 (x : Int) : six (x + 2) = (six x + 2) % 6 := by have := six_cast x; have := six_cast (x + 2); omega
theorem six_p0 (x : Int) : six (x + 0) = six x := by rw [Int.add_zero]
/-- The three phases of step k, as turns of the first. -/
theorem three {a : Int × Int} (h : Bd 100 a) (s : Int) (k : Nat) : ∃ n, n ≤ 5 ∧ ph a s k (tt 0) = rot n a ∧ ph a s k (tt 1) = rot ((n + 4) % 6) a ∧ ph a s k (tt 2) = rot ((n + 2) % 6) a ∧ six ((k : Int) * s) = n := by
  refine ⟨six ((k : Int) * s), six_le _, ?_, ?_, ?_, rfl⟩
  · rw [ph_rot h]; show rot (six ((k : Int) * s + 0)) a = _; rw [six_p0]
  · rw [ph_rot h]; show rot (six ((k : Int) * s + -2)) a = _; rw [six_m2]
  · rw [ph_rot h]; show rot (six ((k : Int) * s + 2)) a = _; rw [six_p2]
theorem balanced {a : Int × Int} (h : Bd 100 a) (s : Int) (k : Nat) (U : Nat → Int × Int) (h0 : U 0 = ph a s k (tt 0)) (h1 : U 1 = ph a s k (tt 1)) (h2 : U 2 = ph a s k (tt 2)) :
    ePA (ePA (U 0).1 (U 1).1) (U 2).1 = 0 ∧ ePA (ePA (U 0).2 (U 1).2) (U 2).2 = 0 ∧
    ePA (ePA (U 0).1 (eMA (-1) (-1) (U 1).1 (U 1).2)) (eMA 0 1 (U 2).1 (U 2).2) = 0 ∧ ePA (ePA (U 0).2 (eMB (-1) (-1) (U 1).1 (U 1).2)) (eMB 0 1 (U 2).1 (U 2).2) = 0 := by
  have hb1 := ph_bd h s k (tt 1)
  have hb2 := ph_bd h s k (tt 2)
  rw [← h1] at hb1
  rw [← h2] at hb2
  have e1 := eMA_w (U 1).1 (U 1).2 (by obtain ⟨_, _, _, _⟩ := hb1; simp only [Bd]; omega)
  have e2 := eMA_w (U 2).1 (U 2).2 (by obtain ⟨_, _, _, _⟩ := hb2; simp only [Bd]; omega)
  rw [e1.2.2.1, e1.2.2.2, e2.1, e2.2.1]
  clear e1 e2 hb1 hb2
  obtain ⟨n, hn, p0, p1, p2, _⟩ := three h s k
  rw [h0, h1, h2, p0, p1, p2]
  obtain ⟨a0, a1⟩ := a
  obtain ⟨g1, g2, g3, g4⟩ := h
  simp only at g1 g2 g3 g4
  clear h0 h1 h2 p0 p1 p2
  rcases (show n = 0 ∨ n = 1 ∨ n = 2 ∨ n = 3 ∨ n = 4 ∨ n = 5 from by omega) with rfl | rfl | rfl | rfl | rfl | rfl <;>
    simp only [rot, Nat.reduceAdd, Nat.reduceMod, ePA, wrap64] <;> omega
/-- One product: the turn falls out. -/
theorem one_product {a c : Int × Int} (ha : Bd 100 a) (hc : Bd 100 c) {n : Nat} (hn : n ≤ 5) :
    eMA (rot n a).1 (rot n a).2 (eCA (rot n c).1 (rot n c).2) (eCB (rot n c).2) = a.1 * (c.1 - c.2) - a.2 * (-c.2) ∧
    eMB (rot n a).1 (rot n a).2 (eCA (rot n c).1 (rot n c).2) (eCB (rot n c).2) = a.1 * (-c.2) + a.2 * (c.1 - c.2) - a.2 * (-c.2) := by
  have h1 := rot_bd ha hn
  have h2 := rot_bd hc hn
  have e1 : eCA (rot n c).1 (rot n c).2 = (rot n c).1 - (rot n c).2 := by unfold eCA; obtain ⟨_, _, _, _⟩ := h2; rw [w64 _ (by omega) (by omega)]
  have e2 : eCB (rot n c).2 = -(rot n c).2 := by unfold eCB; obtain ⟨_, _, _, _⟩ := h2; rw [w64 _ (by omega) (by omega)]
  rw [e1, e2]
  have e := mul_eq (rot n a).1 (rot n a).2 ((rot n c).1 - (rot n c).2) (-(rot n c).2) (by obtain ⟨_, _, _, _⟩ := h1; simp only [Bd]; omega) (by obtain ⟨_, _, _, _⟩ := h2; simp only [Bd]; omega)
  rw [e.2.2.1, e.2.2.2]
  clear e e1 e2 h1 h2
  obtain ⟨a0, a1⟩ := a
  obtain ⟨c0, c1⟩ := c
  rcases (show n = 0 ∨ n = 1 ∨ n = 2 ∨ n = 3 ∨ n = 4 ∨ n = 5 from by omega) with rfl | rfl | rfl | rfl | rfl | rfl <;>
    simp only [rot, Int.sub_mul, Int.mul_sub, Int.neg_mul, Int.mul_neg, Int.neg_neg] <;> (first | omega | grind)
theorem power {a c : Int × Int} (ha : Bd 100 a) (hc : Bd 100 c) (s : Int) (k : Nat) (U I : Nat → Int × Int) (q : Int × Int) (hq1 : q.1 = mA a.1 a.2 (wrap64 (c.1 - c.2)) (wrap64 (-c.2))) (hq2 : q.2 = mB a.1 a.2 (wrap64 (c.1 - c.2)) (wrap64 (-c.2)))
    (h0 : U 0 = ph a s k (tt 0)) (h1 : U 1 = ph a s k (tt 1)) (h2 : U 2 = ph a s k (tt 2)) (i0 : I 0 = ph c s k (tt 0)) (i1 : I 1 = ph c s k (tt 1)) (i2 : I 2 = ph c s k (tt 2)) :
    Bd 100000 q ∧ powS U I 3 = (3 * q.1, 3 * q.2) := by
  have e1 : wrap64 (c.1 - c.2) = c.1 - c.2 := by obtain ⟨_, _, _, _⟩ := hc; rw [w64 _ (by omega) (by omega)]
  have e2 : wrap64 (-c.2) = -c.2 := by obtain ⟨_, _, _, _⟩ := hc; rw [w64 _ (by omega) (by omega)]
  have e := mul_eq a.1 a.2 (c.1 - c.2) (-c.2) (by obtain ⟨_, _, _, _⟩ := ha; simp only [Bd]; omega) (by obtain ⟨_, _, _, _⟩ := hc; simp only [Bd]; omega)
  rw [e1, e2, e.1] at hq1
  rw [e1, e2, e.2.1] at hq2
  clear e e1 e2
  have hb : Bd 100000 q := by
    obtain ⟨_, _, _, _⟩ := ha
    obtain ⟨_, _, _, _⟩ := hc
    have p1 := mul_bd (a := a.1) (b := c.1 - c.2) (A := 100) (B := 200) (by omega) (by omega)
    have p2 := mul_bd (a := a.2) (b := -c.2) (A := 100) (B := 100) (by omega) (by omega)
    have p3 := mul_bd (a := a.1) (b := -c.2) (A := 100) (B := 100) (by omega) (by omega)
    have p4 := mul_bd (a := a.2) (b := c.1 - c.2) (A := 100) (B := 200) (by omega) (by omega)
    simp only [Bd]
    omega
  refine ⟨hb, ?_⟩
  obtain ⟨n, hn, p0, p1, p2, hs⟩ := three ha s k
  obtain ⟨n', hn', r0, r1, r2, hs'⟩ := three hc s k
  obtain rfl : n = n' := by omega
  have m0 := one_product ha hc (n := n) hn
  have m1 := one_product ha hc (n := (n + 4) % 6) (by omega)
  have m2 := one_product ha hc (n := (n + 2) % 6) (by omega)
  rw [← hq1, ← hq2] at m0 m1 m2
  obtain ⟨_, _, _, _⟩ := hb
  simp only [powS, h0, h1, h2, i0, i1, i2, p0, p1, p2, r0, r1, r2, m0.1, m0.2, m1.1, m1.2, m2.1, m2.2, ePA, wrap64, Prod.mk.injEq]
  omega
end Go.Proofs.YtjakigncloleaaaDoor
