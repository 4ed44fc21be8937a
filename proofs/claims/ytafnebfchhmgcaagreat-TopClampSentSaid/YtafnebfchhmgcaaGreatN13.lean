/- The pair of the law: its plain facts. -/
import Derived.Test.YtafnebfchhmgcaaGreatN12
import Derived.Test.YtafnebfchhmgcaaGreatN8
namespace Go.Proofs.YtafnebfchhmgcaaGreat
open Go Go.RowKit Go.Sort Go.Shelf
/-- The pair, and its order. -/
def pairA : Ar := ⟨[⟨⟨#[97]⟩, 20, false, false⟩, ⟨⟨#[98]⟩, 30, false, false⟩], 10, 40, 9, 2⟩
def pairO : List Od := [⟨1, 4⟩]
theorem pair_e : wrkE pairA pairO = 0 := by decide +kernel
theorem pair_w : wrkV pairA pairO = 176 := by decide +kernel
theorem pair_l : logV pairA pairO = [[24, 30]] := by decide +kernel
theorem pair_s : smp 20 = 1067450368 ∧ smp 24 = 1069547520 ∧ smp 30 = 1072693248 := by decide +kernel
theorem pair_x : sampE 1067450368 = 0 ∧ sampE 1069547520 = 0 ∧ sampE 1072693248 = 0 := by decide +kernel
end Go.Proofs.YtafnebfchhmgcaaGreat
