/- What the rows' lists give where five variables are laid. -/
import Derived.Test.YtjanojmgnpfjeaaGreatDoorO4
namespace Go.Proofs.YtjanojmgnpfjeaaGreatDoor
open Go.ChangeShapes Go.WideShapes Go.ChangeAt Go.RowKit Go.Joins
set_option maxRecDepth 100000 in
theorem tabT5_of {W : World} (h : laidMetH Tryz.prog Rows.armTextsRow.laid W) : TabT W := by
  have h' : laidMet Tryz.prog [("math/bits.deBruijn32tab", Rows.laid_math_bits_deBruijn32tab), ("math/bits.deBruijn64tab", Rows.laid_math_bits_deBruijn64tab), ("internal/strconv.uint64pow10", Rows.laid_internal_strconv_uint64pow10), ("unicode/utf8.acceptRanges", Rows.laid_unicode_utf8_acceptRanges), ("unicode/utf8.first", Rows.laid_unicode_utf8_first)] W := h
  obtain ⟨cs, fuel, p, hv, hd⟩ := laid_cells h' (n := "internal/strconv.uint64pow10") (d := Rows.laid_internal_strconv_uint64pow10) (.tail _ (.tail _ (.head _))) gP tP
  have e : (Rows.laid_internal_strconv_uint64pow10 : DataW Unit) = Lib.tabData .u64 Lib.pow10Tab := by kernel_rfl
  rw [e] at hd
  unfold TabT Lib.TabIs
  rw [hv, ← Lib.cells_of_tab Tryz.underlying272 Tryz.underlying222 (by kernel_rfl) (by kernel_rfl) hd]
def litV4 : DataW Unit → List Value
  | .lit (.int k n) => [.int k n]
  | _ => []
def aggV4 : DataW Unit → List Value
  | .agg l => l.flatMap litV4
  | d => litV4 d
def agg2V4 : DataW Unit → List Value
  | .agg l => l.flatMap aggV4
  | _ => []
/-- A world for the witness: the five variables as they were laid. -/
noncomputable def laidWorld5 (os : Os) : World :=
  { laidWorld_ os with heap := ((laidWorld_ os).heap.modify 6 (hold_ (agg2V4 Rows.laid_unicode_utf8_acceptRanges).toArray)).modify 5 (hold_ (aggV4 Rows.laid_unicode_utf8_first).toArray) }
end Go.Proofs.YtjanojmgnpfjeaaGreatDoor
