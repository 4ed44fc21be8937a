/- A drawn region with one float, in a loop. -/
import Derived.Test.YtphlojgmfkgeiaaGreatDoorKa
import Derived.Test.YtphlojgmfkgeiaaGreatDoorWQ
namespace Go.Proofs.YtphlojgmfkgeiaaGreatDoor
open Go Go.RowKit Go.Sort
section
variable {P : Program} {ops : Array Oper} {md : Region.Mode} {Q : Exit → Act → World → Prop} {w0 w1 : World} {X : List Nat}
/-- The start with one float, its slot holding whatever it held. -/
theorem anyB_floatU {l0 : Array Bool} {a0 : Act} {n : Nat} (c f i d : Nat) (u0 : Value) (F : Value → World → Prop) {of oi : Oper} (hn : c + 2 = n)
    (hT : Region.ready md ops (l0.setIfInBounds f true) = [i]) (h0 : Region.ready md ops (l0.setIfInBounds f false) ≠ []) (hF : ∀ j ∈ Region.ready md ops (l0.setIfInBounds f false), j = i ∨ j = f)
    (hof : ops[f]? = some of) (hgf : of.guard = none) (hoi : ops[i]? = some oi) (hgi : oi.guard = none)
    (hl : l0.setIfInBounds f false = l0) (ha : a0.put (some d) u0 = a0) (hL : (l0.setIfInBounds f false).setIfInBounds f true = l0.setIfInBounds f true)
    (hk : ∀ u W W', F u W → Below W.heap.size W W' → F u W')
    (hfl : ∀ u W, Below w1.heap.size w1 W → ∀ K : Act → World → Prop, (∀ u' W', Ex X w0 W' → F u' W' → Below W.heap.size W W' → K (a0.put (some d) u') W') → of.wp P (a0.put (some d) u) W K Q)
    (hst : ∀ (p : Bool) (u : Value) (W : World) (fuel : Nat), c + (!p).toNat ≤ fuel → (p = true → F u W) → Below w1.heap.size w1 W → ∀ K : Act → World → Prop, (∀ a' W', (Ex X w0 W' ∧ anyB P md ops Q X w0 fuel ((l0.setIfInBounds f p).setIfInBounds i true) a' W') → K a' W') → oi.wp P (a0.put (some d) u) W K Q) :
    anyB P md ops Q X w0 n l0 a0 w1 := by
  have h := anyB_fl (c := c) (L := fun p => l0.setIfInBounds f p) (A := fun u => a0.put (some d) u) hT h0 hF hof hgf hoi hgi hL hk hfl hst false u0 w1 n (by simp; omega) (fun h => by cases h) (Below.refl _ _)
  simp only [hl, ha] at h
  exact h
end
/-- A yard with rows of the call's own, its lengths named. -/
def OwResL (w : World) (y : Yd) (m0 m1 m2 : Nat) (e : Ending) (w' : World) : Prop := ∃ A0 A1 A2 c0 c1 c2, e = .returned (.agg #[.slice A0 m0 c0, .slice A1 m1 c1, .slice A2 m2 c2]) ∧ OwRow 66 68 72 w.heap.size y A0 A1 A2 c0 c1 c2 w' ∧ Below w.heap.size w w'
theorem OwRes.lens {w w' : World} {y : Yd} {m0 m1 m2 : Nat} {e : Ending} (h : OwRes 66 68 72 w y e w') (h0 : y.s.length = m0) (h1 : y.w.length = m1) (h2 : y.p.length = m2) : OwResL w y m0 m1 m2 e w' := by
  subst h0 h1 h2
  exact h
theorem at_lenR (y : Yd) (s : Int) : (y.at s).w.length = y.w.length := withL_len _ _
theorem mv_lenR (y : Yd) (s : Int) (k : Nat) : ((y.at s).mv k).w.length = y.w.length := (moved_len _ _).trans (withL_len _ _)
theorem st_next (y : Yd) (s : Int) (k : Nat) : stUp ((y.at s).mv k).w y.w.length = nextS y s k := rfl
end Go.Proofs.YtphlojgmfkgeiaaGreatDoor
