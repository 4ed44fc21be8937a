/- Opening a law's arguments, more: goals, names, lists, acts. -/
import Derived.Test.YtphlojgmfkgeiaaGreatDoorKo
namespace Go.Proofs.YtphlojgmfkgeiaaGreatDoor
open Go.ChangeShapes Go.WideShapes Go.ChangeAt Go.RowKit Go.Joins Go.Deep
section
variable {H : Type} {enc : TypeId × Value → H} {W : World} {base : Nat} {sp : Nat → Bool} {held : Bool}
set_option maxRecDepth 100000 in
theorem open_goal {r : Reach} {b0 : Nat} {v : Value} {d : DataW H} {ps : List MemPlace} (hv : Value.okWide Tryz.prog W r b0 28 v) (h : DataW.Trod enc Tryz.prog W base sp held 28 v d ps) :
    ∃ gk gs : ByteArray, v = .agg #[.string gk, .string gs] ∧ gk.size ≤ maxLen ∧ gs.size ≤ maxLen := by
  obtain ⟨v0, v1, y0, y1, n, rfl, _, _, h0, h1⟩ := open_agg2 Tryz.underlying28 (by kernel_rfl) (by kernel_rfl) hv h
  obtain ⟨s, g0, _, z0⟩ := DataW.trod_string Tryz.underlying9 h0
  obtain ⟨k, g1, _, z1⟩ := DataW.trod_string Tryz.underlying9 h1
  cases g0
  cases g1
  exact ⟨s, k, rfl, z0, z1⟩
set_option maxRecDepth 100000 in
theorem open_ints {r : Reach} {b0 : Nat} {v : Value} {d : DataW H} {ps : List MemPlace} (hv : Value.okWide Tryz.prog W r b0 29 v) (h : DataW.Trod enc Tryz.prog W base sp held 29 v d ps) :
    ∃ A n c, ∃ l : List Int, v = .slice A n c ∧ n ≤ maxLen ∧ l.length = n ∧ Reads W W.heap.size 1 A n (l.map (.int .i64)) := by
  obtain ⟨a, n, c, rfl⟩ := okWide_slice Tryz.underlying29 hv
  obtain ⟨fuel, hf⟩ := h
  obtain ⟨A, n', c', l, e, m, hl, hq, hr⟩ := open_rows (α := Int) (Q := fun _ => True) (f := fun z => [Value.int .i64 z]) (m := 1) (by decide) (fun _ => rfl) Tryz.underlying29 (by kernel_rfl) (fun n cs y h => let ⟨z, _, e⟩ := int_open n cs y h; ⟨z, trivial, e⟩) hf
  cases e
  refine ⟨_, _, _, l, rfl, m, hl, ?_⟩
  have e : l.flatMap (fun z => [Value.int .i64 z]) = l.map (.int .i64) := by
    clear hl hr hq
    induction l with
    | nil => rfl
    | cons a r ih => rw [List.flatMap_cons, List.map_cons, ih]; rfl
  rwa [e] at hr
set_option maxRecDepth 100000 in
theorem open_words {r : Reach} {b0 : Nat} {v : Value} {d : DataW H} {ps : List MemPlace} (hv : Value.okWide Tryz.prog W r b0 56 v) (h : DataW.Trod enc Tryz.prog W base sp held 56 v d ps) :
    ∃ A n c, ∃ l : List ByteArray, v = .slice A n c ∧ n ≤ maxLen ∧ l.length = n ∧ (∀ z ∈ l, z.size ≤ maxLen) ∧ Reads W W.heap.size 1 A n (l.map .string) := by
  obtain ⟨a, n, c, rfl⟩ := okWide_slice Tryz.underlying56 hv
  obtain ⟨fuel, hf⟩ := h
  haveI : Inhabited ByteArray := ⟨⟨#[]⟩⟩
  obtain ⟨A, n', c', l, e, m, hl, hq, hr⟩ := open_rows (α := ByteArray) (Q := fun z => z.size ≤ maxLen) (f := fun z => [Value.string z]) (m := 1) (by decide) (fun _ => rfl) Tryz.underlying56 (by kernel_rfl) (fun n cs y h => let ⟨z, hz, e⟩ := str_open n cs y h; ⟨z, hz, e⟩) hf
  cases e
  refine ⟨_, _, _, l, rfl, m, hl, hq, ?_⟩
  have e : l.flatMap (fun z => [Value.string z]) = l.map .string := by
    clear hl hr hq
    induction l with
    | nil => rfl
    | cons a r ih => rw [List.flatMap_cons, List.map_cons, ih]; rfl
  rwa [e] at hr
set_option maxRecDepth 100000 in
theorem open_text {r : Reach} {b0 : Nat} {v : Value} {d : DataW H} {ps : List MemPlace} (hv : Value.okWide Tryz.prog W r b0 9 v) (h : DataW.Trod enc Tryz.prog W base sp held 9 v d ps) :
    ∃ z : ByteArray, v = .string z ∧ z.size ≤ maxLen := by
  obtain ⟨s, rfl⟩ := okWide_string Tryz.underlying9 hv
  obtain ⟨fuel, hf⟩ := h
  obtain ⟨z, hz, e⟩ := str_open _ _ _ hf
  cases e
  exact ⟨s, rfl, hz⟩
end
end Go.Proofs.YtphlojgmfkgeiaaGreatDoor
