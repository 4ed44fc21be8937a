/- Plain laws of turning phases: frames and spectrum. -/
import Derived.Test.YtjakigncloleaaaDoorPl2
namespace Go.Proofs.YtjakigncloleaaaDoor
open Go.RowKit
theorem tm_rot {a : Int × Int} (h : Bd 100 a) : tm 4 a = rot 4 a := by
  have st : ∀ {m : Int} {p : Int × Int}, m ≤ 100000 → Bd m p → (mA p.1 p.2 1 1, mB p.1 p.2 1 1) = rot 1 p := by
    intro m p hm hp
    have e := mul_eq p.1 p.2 1 1 (by obtain ⟨_, _, _, _⟩ := hp; simp only [Bd]; omega) (by simp only [Bd]; omega)
    rw [e.1, e.2.1]
    refine Prod.ext ?_ ?_ <;> simp only [rot] <;> omega
  have e1 : tm 1 a = rot 1 a := st (m := 100) (by omega) h
  have e2 : tm 2 a = rot 2 a := by
    show (mA (tm 1 a).1 (tm 1 a).2 1 1, mB (tm 1 a).1 (tm 1 a).2 1 1) = _
    rw [e1, st (m := 200) (by omega) (rot_bd h (by omega)), rot_rot a (by omega) (by omega)]
  have e3 : tm 3 a = rot 3 a := by
    show (mA (tm 2 a).1 (tm 2 a).2 1 1, mB (tm 2 a).1 (tm 2 a).2 1 1) = _
    rw [e2, st (m := 200) (by omega) (rot_bd h (by omega)), rot_rot a (by omega) (by omega)]
  show (mA (tm 3 a).1 (tm 3 a).2 1 1, mB (tm 3 a).1 (tm 3 a).2 1 1) = _
  rw [e3, st (m := 200) (by omega) (rot_bd h (by omega)), rot_rot a (by omega) (by omega)]
theorem six_frame (s : Int) {k : Nat} (hk : k < 6) : (six (frT s k) + six ((k : Int) * s)) % 6 = 0 := by
  have h1 := six_cast (frT s k)
  have h2 := six_cast ((k : Int) * s)
  have h3 := tmod6 s
  have h4 := Int.tmod_add_mul_tdiv s 6
  have h5 : frT s k = -(s.tmod 6) * (k : Int) := by
    unfold frT
    rw [show (k : Int) % 6 = k from by omega]
    rcases (show k = 0 ∨ k = 1 ∨ k = 2 ∨ k = 3 ∨ k = 4 ∨ k = 5 from by omega) with rfl | rfl | rfl | rfl | rfl | rfl <;> rw [w64 _ (by omega) (by omega)]
  rw [h5] at h1
  rw [h5]
  generalize six (-(s.tmod 6) * (k : Int)) = A at *
  generalize six ((k : Int) * s) = B at *
  clear h5
  rcases (show k = 0 ∨ k = 1 ∨ k = 2 ∨ k = 3 ∨ k = 4 ∨ k = 5 from by omega) with rfl | rfl | rfl | rfl | rfl | rfl <;> omega
/-- The phase a stands still in a frame that turns as fast; b stands two sixths behind. -/
theorem still {a : Int × Int} (h : Bd 100 a) (s : Int) {k : Nat} (hk : k < 6) (x : Nat → Int × Int) (hx : x k = ph a s k (tt 0)) : frE x s k = a := by
  unfold frE
  have hb := ph_bd h s k (tt 0)
  rw [hx, tr_rot (m := 200) (by omega) hb (six_le _)]
  obtain ⟨n, hn, p0, _, _, e⟩ := three h s k
  have h0 := six_frame s hk
  rw [p0, rot_rot a (six_le _) hn, ← e, h0]
  rfl
theorem late {a : Int × Int} (h : Bd 100 a) (s : Int) {k : Nat} (hk : k < 6) (x : Nat → Int × Int) (hx : x k = ph a s k (tt 1)) : frE x s k = tm 4 a := by
  unfold frE
  have hb := ph_bd h s k (tt 1)
  rw [hx, tr_rot (m := 200) (by omega) hb (six_le _)]
  obtain ⟨n, hn, _, p1, _, e⟩ := three h s k
  have h0 := six_frame s hk
  rw [p1, rot_rot a (six_le _) (by omega), tm_rot h]
  congr 1
  omega
/-- The spectrum has one element alone. -/
theorem lone {a : Int × Int} (h : Bd 100 a) (s : Int) (x : Nat → Int × Int) (hx : ∀ j, j < 6 → x j = ph a s j (tt 0)) {k : Nat} (hk : k < 6) :
    spS x k 6 = if k = six s then (6 * a.1, 6 * a.2) else (0, 0) := by
  have key : ∀ m : Nat, m < 6 → tr (six (wrap64 (-(k : Int) * m))) (x m) = rot ((m * ((six s + 6 - k) % 6)) % 6) a := by
    intro m hm
    have hb := ph_bd h s m (tt 0)
    rw [hx m hm, tr_rot (m := 200) (by omega) hb (six_le _)]
    obtain ⟨n, hn, p0, _, _, e⟩ := three h s m
    rw [p0, rot_rot a (six_le _) hn, ← e]
    congr 1
    have h1 := six_cast (wrap64 (-(k : Int) * m))
    have h2 := six_cast ((m : Int) * s)
    have h3 := six_cast s
    rcases (show m = 0 ∨ m = 1 ∨ m = 2 ∨ m = 3 ∨ m = 4 ∨ m = 5 from by omega) with rfl | rfl | rfl | rfl | rfl | rfl <;> (rw [w64 _ (by omega) (by omega)] at *; omega)
  have hd : (six s + 6 - k) % 6 < 6 := Nat.mod_lt _ (by omega)
  have hsix := six_le s
  have hiff : (six s + 6 - k) % 6 = 0 ↔ k = six s := by omega
  have e : spS x k 6 = (ePA (ePA (ePA (ePA (ePA (ePA 0 (rot ((0 * ((six s + 6 - k) % 6)) % 6) a).1) (rot ((1 * ((six s + 6 - k) % 6)) % 6) a).1) (rot ((2 * ((six s + 6 - k) % 6)) % 6) a).1) (rot ((3 * ((six s + 6 - k) % 6)) % 6) a).1) (rot ((4 * ((six s + 6 - k) % 6)) % 6) a).1) (rot ((5 * ((six s + 6 - k) % 6)) % 6) a).1,
      ePA (ePA (ePA (ePA (ePA (ePA 0 (rot ((0 * ((six s + 6 - k) % 6)) % 6) a).2) (rot ((1 * ((six s + 6 - k) % 6)) % 6) a).2) (rot ((2 * ((six s + 6 - k) % 6)) % 6) a).2) (rot ((3 * ((six s + 6 - k) % 6)) % 6) a).2) (rot ((4 * ((six s + 6 - k) % 6)) % 6) a).2) (rot ((5 * ((six s + 6 - k) % 6)) % 6) a).2) := by
    simp only [spS]
    rw [key 0 (by omega), key 1 (by omega), key 2 (by omega), key 3 (by omega), key 4 (by omega), key 5 (by omega)]
  rw [e]
  clear e key
  generalize (six s + 6 - k) % 6 = d at *
  obtain ⟨a0, a1⟩ := a
  obtain ⟨g1, g2, g3, g4⟩ := h
  simp only at g1 g2 g3 g4
  rcases (show d = 0 ∨ d = 1 ∨ d = 2 ∨ d = 3 ∨ d = 4 ∨ d = 5 from by omega) with rfl | rfl | rfl | rfl | rfl | rfl
  · rw [if_pos (hiff.1 rfl)]
    refine Prod.ext ?_ ?_ <;> simp only [rot, Nat.reduceMul, Nat.reduceMod, ePA, wrap64] <;> omega
  all_goals
    rw [if_neg (fun hh => by have := hiff.2 hh; omega)]
    refine Prod.ext ?_ ?_ <;> simp only [rot, Nat.reduceMul, Nat.reduceMod, ePA, wrap64] <;> omega
end Go.Proofs.YtjakigncloleaaaDoor
