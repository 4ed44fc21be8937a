/- Opening a law's arguments, more: an order by value, a list of integers, a text. -/
import Derived.Test.YtjanojmgnpfjeaaGreatDoorQp
namespace Go.Proofs.YtjanojmgnpfjeaaGreatDoor
open Go.ChangeShapes Go.WideShapes Go.ChangeAt Go.RowKit Go.Joins Go.Deep
section
variable {H : Type} {enc : TypeId × Value → H} {W : World} {base : Nat} {sp : Nat → Bool} {held : Bool}
set_option maxRecDepth 100000 in
theorem open_od {r : Reach} {b0 : Nat} {v : Value} {d : DataW H} {ps : List MemPlace} (hv : Value.okWide Tryz.prog W r b0 71 v) (h : DataW.Trod enc Tryz.prog W base sp held 71 v d ps) :
    ∃ o : Od, v = .agg #[.int .i64 o.n, .int .i64 o.c] ∧ OdQ o := by
  obtain ⟨cs, rfl, hsz⟩ := okWide_struct Tryz.underlying71 hv
  obtain ⟨fuel, hf⟩ := h
  obtain ⟨l⟩ := cs
  obtain ⟨z, hq, e⟩ := od_open _ _ _ hf
  simp only [Value.cells] at e
  obtain ⟨zn, zc⟩ := z
  subst e
  exact ⟨⟨zn, zc⟩, rfl, hq⟩
theorem flat_one {α β : Type} (f : α → β) : ∀ l : List α, l.flatMap (fun z => [f z]) = l.map f
  | [] => rfl
  | a :: r => by rw [List.flatMap_cons, flat_one f r]; rfl
set_option maxRecDepth 100000 in
theorem open_ints {r : Reach} {b0 : Nat} {v : Value} {d : DataW H} {ps : List MemPlace} (hv : Value.okWide Tryz.prog W r b0 30 v) (h : DataW.Trod enc Tryz.prog W base sp held 30 v d ps) :
    ∃ A n c, ∃ l : List Int, v = .slice A n c ∧ n ≤ maxLen ∧ l.length = n ∧ (∀ z ∈ l, I64 z) ∧ Reads W W.heap.size 1 A n (l.map (.int .i64)) := by
  obtain ⟨a, n, c, rfl⟩ := okWide_slice Tryz.underlying30 hv
  obtain ⟨fuel, hf⟩ := h
  obtain ⟨A, n', c', l, e, m, hl, hq, hr⟩ := open_rows (α := Int) (Q := I64) (f := fun z => [Value.int .i64 z]) (m := 1) (by decide) (fun _ => rfl) Tryz.underlying30 (by kernel_rfl) (fun n cs y h => by
    obtain ⟨z, hz, e⟩ := int_open n cs y h
    exact ⟨z, i64_of hz, e⟩) hf
  cases e
  rw [flat_one] at hr
  exact ⟨_, _, _, l, rfl, m, hl, hq, hr⟩
set_option maxRecDepth 100000 in
theorem open_text {r : Reach} {b0 : Nat} {v : Value} {d : DataW H} {ps : List MemPlace} (hv : Value.okWide Tryz.prog W r b0 9 v) (h : DataW.Trod enc Tryz.prog W base sp held 9 v d ps) :
    ∃ z : ByteArray, v = .string z ∧ z.size ≤ maxLen := by
  obtain ⟨s, rfl⟩ := okWide_string Tryz.underlying9 hv
  obtain ⟨fuel, hf⟩ := h
  obtain ⟨z, hz, e⟩ := str_open _ _ _ hf
  cases e
  exact ⟨s, rfl, hz⟩
end
end Go.Proofs.YtjanojmgnpfjeaaGreatDoor
