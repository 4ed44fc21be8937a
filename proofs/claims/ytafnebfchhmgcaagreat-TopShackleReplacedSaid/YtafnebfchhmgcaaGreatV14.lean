/- The check of modules and outages. -/
import Derived.Test.YtafnebfchhmgcaaGreatV13
namespace Go.Proofs.YtafnebfchhmgcaaGreat
open Go Go.RowKit Go.Sort Go.Shelf
set_option linter.unusedSimpArgs false
set_option linter.unusedVariables false
attribute [local go_sem] cell_if frozen_if grow_cell
set_option maxRecDepth 100000 in
set_option maxHeartbeats 4000000 in
theorem vcheck_any (Bm Bo : Nat) (Am Ao : Option Addr) (nm cm no co : Nat) (ms : List Vm) (os : List Ot) (w : World) (hV : VmsOk ms) (hO : OutOk os) (hm : Reads w Bm 4 Am nm (vms ms)) (ho : Reads w Bo 3 Ao no (ots os)) (hBm : Bm ≤ w.heap.size) (hBo : Bo ≤ w.heap.size) (hc : nm ≤ cm) :
    Calls Tryz.prog 102 #[.slice Am nm cm, .slice Ao no co] w fun e w' => e = .returned (.int .i64 0) ∧ Below w.heap.size w w' := by
  have HM := Lib.hid (CheckM_any Bm Am nm cm ms w hV hm hBm hc)
  have HO := Lib.hid (fun W (hW : Below w.heap.size w W) => CheckOutO_any Bo Ao no co os W hO (ho.below (hW.mono hBo)) (by have := hW.size; omega))
  clear hV hO hm ho
  go_enter Tryz.func102, Tryz.ntmps102
  go_wp2_with fail
  refine HM.out.mono ?_
  rintro e w1 ⟨rfl, hb1⟩
  have HB1 := Lib.hid hb1
  clear hb1
  go_wp2_with fail
  refine (HO.out _ HB1.out).mono ?_
  rintro e w2 ⟨rfl, hb2⟩
  have HB2 := Lib.hid (HB1.out.trans (hb2.mono HB1.out.size))
  clear hb2
  have hr3 : Reads (w2.alloc (.cells #[.int .i64 0, .int .i64 0] 31)) (w2.heap.size + 1) 1 (some ⟨w2.heap.size, 0, none⟩) 2 (([0, 0] : List Int).map (.int .i64)) := Reads.blk (Blk.new _ _ _) rfl
  have HR3 := Lib.hid hr3
  clear hr3
  go_wp2_with fail
  refine (vfirst_any _ _ 2 2 [0, 0] _ HR3.out (by unfold maxLen; omega)).mono ?_
  rw [show firstE [0, 0] = 0 from rfl]
  rintro e w4 ⟨rfl, hw4⟩
  have HB4 : Hid (Below w.heap.size w w4) := Lib.hid (by rw [← hw4]; exact HB2.out.trans (((Below.refl _ _).alloc (Nat.le_refl _) _).mono HB2.out.size))
  clear hw4
  go_wp2_with fail
  go_ret
  exact ⟨rfl, HB4.out⟩
end Go.Proofs.YtafnebfchhmgcaaGreat
