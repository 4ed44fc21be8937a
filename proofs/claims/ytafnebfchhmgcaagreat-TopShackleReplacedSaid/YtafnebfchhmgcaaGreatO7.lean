/- Opening outages. -/
import Derived.Test.YtafnebfchhmgcaaGreatOB
import Derived.Test.YtafnebfchhmgcaaGreatV6
namespace Go.Proofs.YtafnebfchhmgcaaGreat
open Go.ChangeShapes Go.WideShapes Go.ChangeAt Go.RowKit Go.Joins Go.Deep
instance : Inhabited Ot := ⟨⟨0, 0, 0⟩⟩
section
variable {H : Type} {enc : TypeId × Value → H} {W : World} {base : Nat} {sp : Nat → Bool} {held : Bool}
set_option maxRecDepth 100000 in
theorem ot_open : ∀ n cs y, DataW.trod enc Tryz.prog W base sp held n 108 cs = some y → ∃ z : Ot, True ∧ cs = z.cells := by
  intro n cs y h
  obtain ⟨hl, k, hall⟩ := cells_all Tryz.underlying108 (by kernel_rfl) (by kernel_rfl) h
  have hl' : cs.length = 3 := hl
  match cs, hl' with
  | [v0, v1, v2], _ =>
    obtain ⟨_, y0, e0, h0⟩ := hall 0 _ rfl
    obtain ⟨_, y1, e1, h1⟩ := hall 1 _ rfl
    obtain ⟨_, y2, e2, h2⟩ := hall 2 _ rfl
    cases e0
    cases e1
    cases e2
    obtain ⟨s, g0, _, _⟩ := DataW.trod_int Tryz.underlying3 h0
    obtain ⟨q, g1, _, _⟩ := DataW.trod_int Tryz.underlying3 h1
    obtain ⟨r, g2, _, _⟩ := DataW.trod_int Tryz.underlying3 h2
    cases g0
    cases g1
    cases g2
    exact ⟨⟨s, q, r⟩, trivial, rfl⟩
set_option maxRecDepth 100000 in
theorem open_outs {r : Reach} {b0 : Nat} {v : Value} {d : DataW H} {ps : List MemPlace} (hv : Value.okWide Tryz.prog W r b0 82 v) (h : DataW.Trod enc Tryz.prog W base sp held 82 v d ps) :
    ∃ A n c, ∃ l : List Ot, v = .slice A n c ∧ (n ≤ maxLen ∧ n ≤ c) ∧ l.length = n ∧ Reads W W.heap.size 3 A n (ots l) := by
  obtain ⟨a, n, c, rfl⟩ := okWide_slice Tryz.underlying82 hv
  obtain ⟨fuel, hf⟩ := h
  obtain ⟨A, n', c', l, e, m, hl, _, hr⟩ := open_rows (f := Ot.cells) (m := 3) (by decide) (fun _ => rfl) Tryz.underlying82 (by kernel_rfl) ot_open hf
  cases e
  exact ⟨_, _, _, l, rfl, m, hl, hr⟩
end
end Go.Proofs.YtafnebfchhmgcaaGreat
