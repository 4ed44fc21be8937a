/- Bypass and Replaced of the program. -/
import Derived.Test.YtjanojmgnpfjeaaGreatDoorDH
import Derived.Test.YtjanojmgnpfjeaaGreatDoorQd
import Derived.Test.YtjanojmgnpfjeaaGreatDoorQl
namespace Go.Proofs.YtjanojmgnpfjeaaGreatDoor
open Go.RowKit Go.Sort Go.Shelf
set_option linter.unusedSimpArgs false
set_option linter.unusedVariables false
attribute [local go_sem] cell_if frozen_if grow_cell
def ArmERes (w : World) (b : Ar) (er : Int) (e : Ending) (w' : World) : Prop := Below w.heap.size w w' ∧ ((er = 0 ∧ ∃ g, e = .returned (.tuple #[.agg #[.slice (some ⟨g, 0, none⟩) b.m.length b.m.length, .int .i64 b.lo, .int .i64 b.hi, .int .i64 b.cur, .int .i64 b.lim], .int .i64 0]) ∧ BlkArm w' g b ∧ w.heap.size ≤ g) ∨ (er ≠ 0 ∧ e = .returned (.tuple #[.agg #[.slice none 0 0, .int .i64 0, .int .i64 0, .int .i64 0, .int .i64 0], .int .i64 er])))
theorem set_set_ {α : Type} (l : List α) (i : Nat) (x z : α) : (l.set i x).set i z = l.set i z := List.set_set ..
theorem set_at {α : Type} {l : List α} {i : Nat} {x z : α} (h : l[i]? = some x) : (l.set i z)[i]? = some z := List.getElem?_set_self (List.getElem?_eq_some_iff.1 h).1
/-- The results of a function that gives an arm in a box, and an error. -/
theorem res_arm {fn : Func} {p q b : Nat} {T : TypeId} {tmps : Array Value} {W : World} {v0 v1 v2 v3 v4 u : Value} (hr : fn.results = #[.cell p 36, .tmp q]) (hp : tmps[p]?.getD undef = .pointer (some ⟨b, 0, none⟩)) (hq : tmps[q]?.getD undef = u) (hk : Blk W b T #[v0, v1, v2, v3, v4]) :
    (results fn tmps).run Tryz.prog W = .ok (.tuple #[.agg #[v0, v1, v2, v3, v4], u]) W := by
  have c0 : W.cell? ⟨b, 0, none⟩ = some v0 := hk.cell 0
  have c1 : W.cell? ⟨b, 1, none⟩ = some v1 := hk.cell 1
  have c2 : W.cell? ⟨b, 2, none⟩ = some v2 := hk.cell 2
  have c3 : W.cell? ⟨b, 3, none⟩ = some v3 := hk.cell 3
  have c4 : W.cell? ⟨b, 4, none⟩ = some v4 := hk.cell 4
  clear hk
  unfold results
  rw [hr]
  simp [go_sem, hp, hq, c0, c1, c2, c3, c4]
end Go.Proofs.YtjanojmgnpfjeaaGreatDoor
