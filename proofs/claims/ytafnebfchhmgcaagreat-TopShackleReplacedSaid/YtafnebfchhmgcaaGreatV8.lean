/- The shackle's fixed example. -/
import Derived.Test.YtafnebfchhmgcaaGreatV5
import Derived.Test.YtafnebfchhmgcaaGreatQk
namespace Go.Proofs.YtafnebfchhmgcaaGreat
open Go Go.RowKit Go.Sort Go.Shelf
set_option linter.unusedSimpArgs false
set_option linter.unusedVariables false
attribute [local go_sem] cell_if frozen_if grow_cell
def trioA : Ar := ⟨[⟨⟨#[97]⟩, 120, true, false⟩, ⟨⟨#[98]⟩, 150, false, false⟩, ⟨⟨#[99]⟩, 110, false, false⟩], 100, 200, 20, 2⟩
def trioO : Od := ⟨1, 10⟩
def trioT : List Od := [⟨0, 1⟩, ⟨1, 4⟩]
theorem trio_e : choE trioA trioO = 0 := by decide +kernel
theorem trio_l : choL trioA trioO = [2] := by decide +kernel
theorem trio_t : TrOk trioT := ⟨by decide, by decide, fun i h => by
  match i, h with
  | 0, _ => exact (show (0 : Int) < 1 by decide)
  | i + 1, h => exact absurd h (by simp [trioT]), by decide⟩
theorem trio_c : ∀ v, v < 12 → cntT (xrL trioT) v = if v = 0 ∨ v = 2 then 1 else 0 := by decide +kernel
theorem trio_eq (w : World) : (binOp .eql 102 (.agg #[.int .i64 1, .int .i64 0, .int .i64 1, .int .i64 0, .int .i64 0, .int .i64 0, .int .i64 0, .int .i64 0, .int .i64 0, .int .i64 0, .int .i64 0, .int .i64 0]) (.agg #[.int .i64 1, .int .i64 0, .int .i64 1, .int .i64 0, .int .i64 0, .int .i64 0, .int .i64 0, .int .i64 0, .int .i64 0, .int .i64 0, .int .i64 0, .int .i64 0])).run Tryz.prog w = .ok (.bool true) w := by kernel_rfl
set_option maxRecDepth 100000 in
set_option maxHeartbeats 2000000 in
theorem shackleArm_any (w : World) : Calls Tryz.prog 31 #[] w fun e w' => e = .returned (.bool true) ∧ Below w.heap.size w w' := by
  have hcs : (#[.int .i64 (cntT (xrL trioT) 0), .int .i64 (cntT (xrL trioT) 1), .int .i64 (cntT (xrL trioT) 2), .int .i64 (cntT (xrL trioT) 3), .int .i64 (cntT (xrL trioT) 4), .int .i64 (cntT (xrL trioT) 5), .int .i64 (cntT (xrL trioT) 6), .int .i64 (cntT (xrL trioT) 7), .int .i64 (cntT (xrL trioT) 8), .int .i64 (cntT (xrL trioT) 9), .int .i64 (cntT (xrL trioT) 10), .int .i64 (cntT (xrL trioT) 11)] : Array Value) = #[.int .i64 1, .int .i64 0, .int .i64 1, .int .i64 0, .int .i64 0, .int .i64 0, .int .i64 0, .int .i64 0, .int .i64 0, .int .i64 0, .int .i64 0, .int .i64 0] := by
    rw [trio_c 0 (by omega), trio_c 1 (by omega), trio_c 2 (by omega), trio_c 3 (by omega), trio_c 4 (by omega), trio_c 5 (by omega), trio_c 6 (by omega), trio_c 7 (by omega), trio_c 8 (by omega), trio_c 9 (by omega), trio_c 10 (by omega), trio_c 11 (by omega)]
    rfl
  have HCs := Lib.hid hcs
  clear hcs
  go_enter Tryz.func31, Tryz.ntmps31
  go_upto_region 2 with fail
  refine wp_world ?_
  intro x1 hW
  have hL : Below w.heap.size w x1 := by rw [hW]; exact bl_
  have b1 : Blk x1 w.heap.size 115 #[.string ⟨#[97]⟩, .int .i64 120, .bool true, .bool false, .string ⟨#[98]⟩, .int .i64 150, .bool false, .bool false, .string ⟨#[99]⟩, .int .i64 110, .bool false, .bool false] := by rw [hW]; exact bk_
  have b2 : Blk x1 (w.heap.size + 1) 36 #[.slice (some ⟨w.heap.size, 0, none⟩) 3 3, .int .i64 100, .int .i64 200, .int .i64 20, .int .i64 2] := by rw [hW]; exact bk_
  have hs1 : w.heap.size + 1 ≤ x1.heap.size := by rw [hW]; simp
  clear hW
  have cA := b2.cell
  have lA := b2.lt
  have hM : MsAt x1 x1.heap.size (some ⟨w.heap.size, 0, none⟩) 3 trioA.m := Reads.blk_at (pre := []) (post := []) b1 rfl rfl rfl |>.more (by omega)
  have hF : FitA trioA := ⟨by decide, by decide⟩
  have HCh := Lib.hid (Choose_any x1.heap.size (some ⟨w.heap.size, 0, none⟩) 3 3 trioA trioO x1 hM (Nat.le_refl _) hF (Nat.le_refl _))
  unfold ChoRes at HCh
  rw [trio_e, trio_l] at HCh
  have HL := Lib.hid hL
  clear hM hF hL b1
  go_wp2_with fail
  refine HCh.out.mono ?_
  rintro e x2 ⟨v, rfl, hown, _, hb2⟩
  obtain ⟨A2, c2, rfl, _, _, hr2⟩ := own_form hown
  have HR2 : Hid (Reads x2 x2.heap.size 1 A2 1 (([2] : List Int).map (.int .i64))) := Lib.hid hr2
  have HL2 := Lib.hid (HL.out.trans (hb2.mono HL.out.size))
  clear hown hr2 hb2 cA lA b2 HCh HL
  go_wp2_with fail
  refine (Switchings_any (x2.heap.size + 1) (some ⟨x2.heap.size, 0, none⟩) 2 2 trioT _ (Reads.blk_at (pre := []) (post := []) (Blk.new x2 98 #[.int .i64 0, .int .i64 1, .int .i64 1, .int .i64 4]) rfl rfl rfl) (by simp) trio_t).mono ?_
  rw [HCs.out]
  rintro e x3 ⟨rfl, hb3⟩
  have hb3' := ((Below.refl x2.heap.size x2).alloc (Nat.le_refl _) (.cells #[.int .i64 0, .int .i64 1, .int .i64 1, .int .i64 4] 98)).trans (hb3.mono (by simp))
  have HR3 := Lib.hid ((HR2.out.below hb3').more hb3'.size)
  have HL3 := Lib.hid (HL2.out.trans (hb3'.mono HL2.out.size))
  clear hb3 hb3' HR2 HL2 HCs
  have hr3 : Reads ((x3.alloc (.cells #[.int .i64 1, .int .i64 0, .int .i64 1, .int .i64 0, .int .i64 0, .int .i64 0, .int .i64 0, .int .i64 0, .int .i64 0, .int .i64 0, .int .i64 0, .int .i64 0] 102)).alloc (.cells #[.int .i64 2] 3)) (x3.heap.size + 1 + 1) 1 (some ⟨x3.heap.size + 1, 0, none⟩) 1 ((([2] : List Int)).map (Value.int .i64)) := by
    have := Reads.new (size := 1) (x3.alloc (.cells #[.int .i64 1, .int .i64 0, .int .i64 1, .int .i64 0, .int .i64 0, .int .i64 0, .int .i64 0, .int .i64 0, .int .i64 0, .int .i64 0, .int .i64 0, .int .i64 0] 102)) ((([2] : List Int)).map (Value.int .i64)).toArray 3 1 rfl
    simpa using this
  have HR4 := Lib.hid hr3
  clear hr3
  have he := trio_eq
  go_wp2_with fail
  refine (SameInts_any x3.heap.size (x3.heap.size + 1 + 1) A2 (some ⟨x3.heap.size + 1, 0, none⟩) 1 1 c2 1 [2] [2] _ ((HR3.out.alloc (Nat.le_refl _) _).alloc (by simp) _) HR4.out (by simp; omega) (by simp) (by unfold maxLen; omega) (by unfold maxLen; omega)).mono ?_
  rw [sameI_self]
  rintro e x4 ⟨rfl, hb4⟩
  have cB := (Blk.kept (((Blk.new x3 102 #[.int .i64 1, .int .i64 0, .int .i64 1, .int .i64 0, .int .i64 0, .int .i64 0, .int .i64 0, .int .i64 0, .int .i64 0, .int .i64 0, .int .i64 0, .int .i64 0]).alloc (.cells #[.int .i64 2] 3))) hb4)
  have HL4 := Lib.hid (HL3.out.trans ((((Below.refl x3.heap.size x3).alloc (Nat.le_refl _) (.cells #[.int .i64 1, .int .i64 0, .int .i64 1, .int .i64 0, .int .i64 0, .int .i64 0, .int .i64 0, .int .i64 0, .int .i64 0, .int .i64 0, .int .i64 0, .int .i64 0] 102)).alloc (by simp) (.cells #[.int .i64 2] 3)).trans (hb4.mono (by simp; omega)) |>.mono HL3.out.size))
  have cC := cB.cell
  have lC := cB.lt
  clear hb4 cB HR3
  go_wp2_with fail
  go_ret
  exact ⟨rfl, HL4.out⟩
end Go.Proofs.YtafnebfchhmgcaaGreat
