/- Opening a law's arguments, more: acts, three names. -/
import Derived.Test.YtphlojgmfkgeiaaGreatDoorKo
namespace Go.Proofs.YtphlojgmfkgeiaaGreatDoor
open Go.ChangeShapes Go.WideShapes Go.ChangeAt Go.RowKit Go.Joins Go.Deep
section
variable {H : Type} {enc : TypeId × Value → H} {W : World} {base : Nat} {sp : Nat → Bool} {held : Bool}
set_option maxRecDepth 100000 in
theorem ac_open : ∀ n cs y, DataW.trod enc Tryz.prog W base sp held n 116 cs = some y → ∃ z : Ac, AcQ z ∧ cs = z.cells := by
  intro n cs y h
  obtain ⟨hl, k, hall⟩ := cells_all Tryz.underlying116 (by kernel_rfl) (by kernel_rfl) h
  have hl' : cs.length = 3 := hl
  match cs, hl' with
  | [v0, v1, v2], _ =>
    obtain ⟨_, y0, e0, h0⟩ := hall 0 _ rfl
    obtain ⟨_, y1, e1, h1⟩ := hall 1 _ rfl
    obtain ⟨_, y2, e2, h2⟩ := hall 2 _ rfl
    cases e0
    cases e1
    cases e2
    obtain ⟨s, g0, _, z0⟩ := DataW.trod_string Tryz.underlying9 h0
    obtain ⟨k, g1, _, z1⟩ := DataW.trod_string Tryz.underlying9 h1
    obtain ⟨m, g2, _, z2⟩ := DataW.trod_string Tryz.underlying9 h2
    cases g0
    cases g1
    cases g2
    exact ⟨⟨s, k, m⟩, ⟨z0, z1, z2⟩, rfl⟩
set_option maxRecDepth 100000 in
theorem open_acts {r : Reach} {b0 : Nat} {v : Value} {d : DataW H} {ps : List MemPlace} (hv : Value.okWide Tryz.prog W r b0 105 v) (h : DataW.Trod enc Tryz.prog W base sp held 105 v d ps) :
    ∃ A n c, ∃ l : List Ac, v = .slice A n c ∧ n ≤ maxLen ∧ Reads W W.heap.size 3 A n (acs l) := by
  obtain ⟨a, n, c, rfl⟩ := okWide_slice Tryz.underlying105 hv
  obtain ⟨fuel, hf⟩ := h
  obtain ⟨A, n', c', l, e, m, hl, hq, hr⟩ := open_rows (f := Ac.cells) (m := 3) (by decide) (fun _ => rfl) Tryz.underlying105 (by kernel_rfl) ac_open hf
  cases e
  exact ⟨_, _, _, l, rfl, m, hr⟩
set_option maxRecDepth 100000 in
theorem open_named {r : Reach} {b0 : Nat} {v : Value} {d : DataW H} {ps : List MemPlace} (hv : Value.okWide Tryz.prog W r b0 92 v) (h : DataW.Trod enc Tryz.prog W base sp held 92 v d ps) :
    ∃ a b c : ByteArray, v = .agg #[.string a, .string b, .string c] := by
  obtain ⟨v0, v1, v2, y0, y1, y2, n, rfl, _, _, h0, h1, h2⟩ := open_agg3 Tryz.underlying92 (by kernel_rfl) (by kernel_rfl) hv h
  obtain ⟨s, g0, _, z0⟩ := DataW.trod_string Tryz.underlying9 h0
  obtain ⟨k, g1, _, z1⟩ := DataW.trod_string Tryz.underlying9 h1
  obtain ⟨m, g2, _, z2⟩ := DataW.trod_string Tryz.underlying9 h2
  cases g0
  cases g1
  cases g2
  exact ⟨s, k, m, rfl⟩
end
end Go.Proofs.YtphlojgmfkgeiaaGreatDoor
