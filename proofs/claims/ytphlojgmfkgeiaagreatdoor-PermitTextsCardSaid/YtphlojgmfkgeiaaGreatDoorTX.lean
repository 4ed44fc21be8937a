/- What the rows' lists give where four variables are laid. -/
import Derived.Test.YtphlojgmfkgeiaaGreatDoorKq
namespace Go.Proofs.YtphlojgmfkgeiaaGreatDoor
open Go.ChangeShapes Go.WideShapes Go.ChangeAt Go.RowKit Go.Joins
set_option maxRecDepth 100000 in
theorem tabs4_of {W : World} (h : laidMetH Tryz.prog Rows.permitTextsRow.laid W) : Tabs W := by
  have h' : laidMet Tryz.prog [("unicode/utf8.acceptRanges", Rows.laid_unicode_utf8_acceptRanges), ("bipole/permit.goals", Rows.laid_bipole_permit_goals), ("bipole/permit.kinds", Rows.laid_bipole_permit_kinds), ("unicode/utf8.first", Rows.laid_unicode_utf8_first)] W := h
  obtain ⟨cs, fuel, p, hv, hd⟩ := laid_cells h' (n := "bipole/permit.kinds") (d := Rows.laid_bipole_permit_kinds) (.tail _ (.tail _ (.head _))) gK tK
  obtain ⟨ds, fuel', p', hv', hd'⟩ := laid_cells h' (n := "bipole/permit.goals") (d := Rows.laid_bipole_permit_goals) (.tail _ (.head _)) gG tG
  have e := three_words hd
  have e' := three_words hd'
  have hlt : ∀ {b i v}, W.cell? ⟨b, i, none⟩ = some v → b < W.heap.size := by
    intro b i v hc
    rcases Nat.lt_or_ge b W.heap.size with h1 | h1
    · exact h1
    · simp [World.cell?, Array.getElem?_eq_none h1] at hc
  have c := fun i => World.var?_cell gK hv i
  have d := fun i => World.var?_cell gG hv' i
  have ec : cs = #[.string ⟨#[98, 114, 101, 97, 107, 101, 114]⟩, .string ⟨#[105, 115, 111, 108, 97, 116, 111, 114]⟩, .string ⟨#[101, 97, 114, 116, 104]⟩] := by apply Array.toList_inj.1; rw [e]
  have ed : ds = #[.string ⟨#[101, 110, 101, 114, 103, 105, 122, 101, 100]⟩, .string ⟨#[100, 101, 97, 100]⟩, .string ⟨#[115, 101, 99, 117, 114, 101, 100]⟩] := by apply Array.toList_inj.1; rw [e']
  subst ec
  subst ed
  exact ⟨c 0, c 1, c 2, d 0, d 1, d 2, hlt (c 0), hlt (d 0)⟩
def litV4 : DataW Unit → List Value
  | .lit (.int k n) => [.int k n]
  | _ => []
def aggV4 : DataW Unit → List Value
  | .agg l => l.flatMap litV4
  | d => litV4 d
def agg2V4 : DataW Unit → List Value
  | .agg l => l.flatMap aggV4
  | _ => []
/-- A world for the witness: the four variables as they were laid. -/
noncomputable def laidWorld4 (os : Os) : World :=
  { laidWorld_ os with heap := ((laidWorld_ os).heap.modify 4 (hold_ (agg2V4 Rows.laid_unicode_utf8_acceptRanges).toArray)).modify 3 (hold_ (aggV4 Rows.laid_unicode_utf8_first).toArray) }
end Go.Proofs.YtphlojgmfkgeiaaGreatDoor
