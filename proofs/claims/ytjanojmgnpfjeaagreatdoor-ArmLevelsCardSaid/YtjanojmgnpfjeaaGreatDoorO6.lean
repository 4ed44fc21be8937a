/- Opening a law's arguments, more: a list of floats, an integer. -/
import Derived.Laws.Cover2
import Derived.Test.YtjanojmgnpfjeaaGreatDoorO4
namespace Go.Proofs.YtjanojmgnpfjeaaGreatDoor
open Go.ChangeShapes Go.WideShapes Go.ChangeAt Go.RowKit Go.Joins Go.Deep
theorem trod_float {P : Program} {H : Type} {enc : TypeId × Value → H} {W : World} {base : Nat} {sp : Nat → Bool} {held : Bool} {t : TypeId} {k : FloatKind} (ht : P.underlying t = some (.float k)) : ∀ n cs y, DataW.trod enc P W base sp held n t cs = some y → ∃ z : Nat, cs = [Value.float k z] := by
  intro n cs y h
  cases n with
  | zero => simp [DataW.trod] at h
  | succ n =>
    unfold DataW.trod at h
    rw [ht] at h
    split at h <;> simp_all
section
variable {H : Type} {enc : TypeId × Value → H} {W : World} {base : Nat} {sp : Nat → Bool} {held : Bool}
set_option maxRecDepth 100000 in
theorem open_floats {r : Reach} {b0 : Nat} {v : Value} {d : DataW H} {ps : List MemPlace} (hv : Value.okWide Tryz.prog W r b0 27 v) (h : DataW.Trod enc Tryz.prog W base sp held 27 v d ps) :
    ∃ A n c, ∃ l : List Nat, v = .slice A n c ∧ n ≤ maxLen ∧ l.length = n ∧ Reads W W.heap.size 1 A n (l.map (Value.float .f32)) := by
  have ht : Tryz.prog.underlying 27 = some (.slice 102) := by kernel_rfl
  obtain ⟨a, n, c, rfl⟩ := okWide_slice ht hv
  obtain ⟨fuel, hf⟩ := h
  obtain ⟨A, n', c', l, e, m, hl, _, hr⟩ := open_rows (α := Nat) (Q := fun _ => True) (f := fun z => [Value.float .f32 z]) (m := 1) (by decide) (fun _ => rfl) ht (by kernel_rfl) (fun n cs y h => by
    obtain ⟨z, e⟩ := trod_float (P := Tryz.prog) (by kernel_rfl) n cs y h
    exact ⟨z, trivial, e⟩) hf
  cases e
  rw [flat_one] at hr
  exact ⟨_, _, _, l, rfl, m, hl, hr⟩
set_option maxRecDepth 100000 in
theorem open_int {r : Reach} {b0 : Nat} {v : Value} {d : DataW H} {ps : List MemPlace} (hv : Value.okWide Tryz.prog W r b0 3 v) (h : DataW.Trod enc Tryz.prog W base sp held 3 v d ps) :
    ∃ z : Int, v = .int .i64 z ∧ I64 z := by
  obtain ⟨z, rfl⟩ := okWide_int Tryz.underlying3 hv
  obtain ⟨fuel, hf⟩ := h
  obtain ⟨u, hu, e⟩ := int_open _ _ _ hf
  cases e
  exact ⟨z, rfl, i64_of hu⟩
end
end Go.Proofs.YtjanojmgnpfjeaaGreatDoor
