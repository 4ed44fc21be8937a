/- Contracts of phasor: bytes of telegrams. -/
import Derived.Test.YtjakigncloleaaaDoorProg
import Derived.Test.YtjakigncloleaaaDoorA2
namespace Go.Proofs.YtjakigncloleaaaDoor
open Go.RowKit
attribute [local go_sem] cell_if frozen_if
theorem elemU8 : Elem Tryd.prog 96 5 1 1 := elem_of Tryd.underlying96 (z := .int .u8 0) (by kernel_rfl) rfl (by decide)
/-- A byte string of the call's own, and what became of the rest. -/
def Bytes (base : Nat) (w0 : World) (l : Nat) (xs : List Value) (e : Ending) (w : World) : Prop :=
  ∃ g cap, e = .returned (.slice (some ⟨g, 0, none⟩) l cap) ∧ Own w base 5 1 g l cap xs ∧ Below base w0 w
theorem word_any (base g l cap : Nat) (xs : List Value) (n : Int) (w : World) (hown : Own w base 5 1 g l cap xs) (hb : base ≤ w.heap.size) (hl : l ≤ 1000) :
    Calls Tryd.prog 62 #[.slice (some ⟨g, 0, none⟩) l cap, .int .i64 n] w (Bytes base w (l + 2) (xs ++ [.int .u8 (n / 256 % 256), .int .u8 (n % 256)])) := by
  have HO := Lib.hid hown
  clear hown
  go_enter Tryd.func62, Tryd.ntmps62
  go_wp2_with (at_builtin; refine wpList_app 96 5 1 1 elemU8 rfl (.tmp 5) (.tmp 11) rfl base _ l xs rfl HO.out 2 rfl rfl ?h1 (by decide) ?h3 (by omega) hb ?_)
  case h1 => exact ⟨rfl, rfl⟩
  case h3 => unfold maxLen; omega
  intro g' cap' w' hown' hb' _ _
  go_wp2
  go_ret
  exact ⟨g', cap', rfl, hown', hb'⟩
theorem long_any (base g l cap : Nat) (xs : List Value) (n : Int) (w : World) (hown : Own w base 5 1 g l cap xs) (hb : base ≤ w.heap.size) (hl : l ≤ 900) :
    Calls Tryd.prog 64 #[.slice (some ⟨g, 0, none⟩) l cap, .int .i64 n] w (Bytes base w (l + 4) (xs ++ [.int .u8 (n / 65536 / 256 % 256), .int .u8 (n / 65536 % 256)] ++ [.int .u8 (n / 256 % 256), .int .u8 (n % 256)])) := by
  go_enter Tryd.func64, Tryd.ntmps64
  go_wp2_with fail
  refine (word_any base g l cap xs (n / 65536) _ hown hb (by omega)).mono ?_
  rintro e w1 ⟨g1, cap1, rfl, ho1, hb1⟩
  have hs1 := hb1.size
  go_wp2_with fail
  refine (word_any base g1 (l + 2) cap1 _ n _ ho1 (by omega) (by omega)).mono ?_
  rintro e w2 ⟨g2, cap2, rfl, ho2, hb2⟩
  go_wp2
  go_ret
  exact ⟨g2, cap2, rfl, ho2, hb1.trans hb2⟩
end Go.Proofs.YtjakigncloleaaaDoor
