/- The law's side: lists copied. -/
import Derived.Test.YtphlojgmfkgeiaaGreatDoorKr
namespace Go.Proofs.YtphlojgmfkgeiaaGreatDoor
open Go.RowKit Go.Sort Go.Shelf
set_option linter.unusedSimpArgs false
set_option linter.unusedVariables false
attribute [local go_sem] cell_if frozen_if grow_cell
def CopyRes (w : World) (n : Nat) (xs : List Value) (e : Ending) (w' : World) : Prop := ∃ A cap, e = .returned (.slice A n cap) ∧ Reads w' w'.heap.size 1 A n xs ∧ Below w.heap.size w w'
theorem ints_any (B : Nat) (A : Option Addr) (n c : Nat) (l : List Int) (w : World) (hr : Reads w B 1 A n (l.map (.int .i64))) (hB : B ≤ w.heap.size) (hn : n ≤ 1000) :
    Calls Tryz.prog 22 #[.slice A n c] w (CopyRes w n (l.map (.int .i64))) := by
  have HR := Lib.hid hr
  clear hr
  go_enter Tryz.func22, Tryz.ntmps22
  go_wp2_with (at_builtin; refine wpList_plain rfl fun K hK => ?_; refine wp_spread 29 3 1 8 elemInt (.tmp 3) (.tmp 4) rfl w.heap.size w.heap.size rfl (Own.new w w.heap.size 3 1 0 #[] (Nat.le_refl _) rfl (by unfold maxLen; decide)) A n c B (l.map (.int .i64)) rfl (HR.out.alloc hB _) (one_int l) (by unfold maxLen; omega) (by omega) (by simp) ?_)
  intro v' w' hown hg _
  obtain ⟨A', cap', rfl, _, _, hrd⟩ := own_form hown
  have HD := Lib.hid hrd
  have HB := Lib.hid ((((Below.refl _ w).alloc (Nat.le_refl _) (.cells #[] 3)).grown hg (by simp) (fun k e => by cases e; exact Nat.le_refl _) : Below w.heap.size w w'))
  clear hown hg hrd
  refine hK _ _ ?_
  go_wp2
  go_ret
  exact ⟨A', cap', rfl, HD.out, HB.out⟩
theorem words_any (B : Nat) (A : Option Addr) (n c : Nat) (l : List ByteArray) (w : World) (hr : Reads w B 1 A n (l.map .string)) (hB : B ≤ w.heap.size) (hn : n ≤ 1000) :
    Calls Tryz.prog 54 #[.slice A n c] w (CopyRes w n (l.map .string)) := by
  have HR := Lib.hid hr
  clear hr
  go_enter Tryz.func54, Tryz.ntmps54
  go_wp2_with (at_builtin; refine wpList_plain rfl fun K hK => ?_; refine wp_spread 56 9 1 16 elemStr (.tmp 3) (.tmp 4) rfl w.heap.size w.heap.size rfl (Own.new w w.heap.size 9 1 0 #[] (Nat.le_refl _) rfl (by unfold maxLen; decide)) A n c B (l.map .string) rfl (HR.out.alloc hB _) (fun v hv => by obtain ⟨x, _, rfl⟩ := List.mem_map.1 hv; rfl) (by unfold maxLen; omega) (by omega) (by simp) ?_)
  intro v' w' hown hg _
  obtain ⟨A', cap', rfl, _, _, hrd⟩ := own_form hown
  have HD := Lib.hid hrd
  have HB := Lib.hid ((((Below.refl _ w).alloc (Nat.le_refl _) (.cells #[] 9)).grown hg (by simp) (fun k e => by cases e; exact Nat.le_refl _) : Below w.heap.size w w'))
  clear hown hg hrd
  refine hK _ _ ?_
  go_wp2
  go_ret
  exact ⟨A', cap', rfl, HD.out, HB.out⟩
end Go.Proofs.YtphlojgmfkgeiaaGreatDoor
