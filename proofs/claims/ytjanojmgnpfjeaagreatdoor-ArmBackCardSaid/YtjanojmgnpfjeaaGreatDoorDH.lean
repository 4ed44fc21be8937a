/- find, Reserve of the program. -/
import Derived.Test.YtjanojmgnpfjeaaGreatDoorDC
namespace Go.Proofs.YtjanojmgnpfjeaaGreatDoor
open Go.RowKit Go.Sort Go.Shelf
set_option linter.unusedSimpArgs false
set_option linter.unusedVariables false
attribute [local go_sem] cell_if frozen_if grow_cell
def resE (a : Ar) (m : Int) : Int := or0 (firstE [armE a, ckR m 0 16]) (whenE (decide (((usL a).length : Int) - m < 0)) 18)
def resV (a : Ar) (m : Int) : Int := if resE a m = 0 then ((usL a).length : Int) - m else 0
end Go.Proofs.YtjanojmgnpfjeaaGreatDoor
