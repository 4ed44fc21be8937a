/- Yards that come out of a call, with an error beside them: one form. -/
import Derived.Test.YtphlojgmfkgeiaaGreatDoorZR
namespace Go.Proofs.YtphlojgmfkgeiaaGreatDoor
open Go.RowKit Go.Sort Go.Shelf
/-- A yard that stays, whatever becomes of blocks that lie elsewhere; the error beside it. -/
def YdU (w : World) (er : Int) (z : Yd) (e : Ending) (w' : World) : Prop :=
  ∃ A0 A1 A2 c0 c1 c2, e = .returned (.tuple #[.agg #[.slice A0 z.s.length c0, .slice A1 z.w.length c1, .slice A2 z.p.length c2], .int .i64 er]) ∧ (∀ X : List Nat, (∀ x ∈ X, x < w.heap.size ∨ w'.heap.size ≤ x) → YdR X w' z A0 A1 A2 z.s.length z.w.length z.p.length) ∧ Below w.heap.size w w'
def okY (er : Int) (z : Yd) : Yd := if er = 0 then z else nilY
theorem okY_ok (z : Yd) : okY 0 z = z := if_pos rfl
theorem okY_no {er : Int} {z : Yd} (h : er ≠ 0) : okY er z = nilY := if_neg h
theorem MvR.u {w : World} {er : Int} {z : Yd} {e : Ending} {w' : World} (h : MvR w er z e w') : YdU w er (okY er z) e w' := by
  rcases h with ⟨rfl, A0, A1, A2, c0, c1, c2, rfl, h2, h3⟩ | ⟨h1, rfl, h3⟩
  · exact ⟨A0, A1, A2, c0, c1, c2, rfl, h2, h3⟩
  · rw [okY_no h1]
    exact ⟨none, none, none, 0, 0, 0, rfl, fun X hX W' h' => nil_yd _ _, h3⟩
theorem YdU.here {w : World} {er : Int} {z : Yd} {e : Ending} {w' : World} (h : YdU w er z e w') : ∃ A0 A1 A2 c0 c1 c2, e = .returned (.tuple #[.agg #[.slice A0 z.s.length c0, .slice A1 z.w.length c1, .slice A2 z.p.length c2], .int .i64 er]) ∧ YdAt w' w'.heap.size A0 A1 A2 z.s.length z.w.length z.p.length z ∧ Below w.heap.size w w' := by
  obtain ⟨A0, A1, A2, c0, c1, c2, h1, h2, h3⟩ := h
  exact ⟨A0, A1, A2, c0, c1, c2, h1, h2 [] (fun x hx => by cases hx) _ (Ex.refl _ _), h3⟩
end Go.Proofs.YtphlojgmfkgeiaaGreatDoor
