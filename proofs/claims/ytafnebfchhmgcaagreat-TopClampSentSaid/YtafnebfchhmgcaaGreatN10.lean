/- The law's own copies of an arm and of orders. -/
import Derived.Test.YtafnebfchhmgcaaGreatN9
import Derived.Test.YtafnebfchhmgcaaGreatDA
namespace Go.Proofs.YtafnebfchhmgcaaGreat
open Go Go.RowKit Go.Sort Go.Shelf
set_option linter.unusedSimpArgs false
set_option linter.unusedVariables false
attribute [local go_sem] cell_if frozen_if grow_cell
set_option maxRecDepth 100000 in
set_option maxHeartbeats 2000000 in
theorem clampOrders_any (B : Nat) (A : Option Addr) (n c : Nat) (l : List Od) (w : World) (hr : Reads w B 2 A n (ods l)) (hB : B ≤ w.heap.size) (hn : n ≤ 1000) :
    Calls Tryz.prog 10 #[.slice A n c] w (OdsRes w l n) := by
  obtain ⟨hl, ha⟩ := od_at hr
  have HL := Lib.hid hl
  have HA := Lib.hid ha
  clear hl ha hr
  go_enter Tryz.func10, Tryz.ntmps10
  go_wp2_with fail
  go_loopw [3, 8] (fun v i wr => ∃ k : Nat, k ≤ n ∧ i = .int .i64 k ∧ wr.ownsRow w.heap.size 45 2 v k (ods (l.take k)) ∧ Below w.heap.size w wr) (fun _ i _ => n - (intOf i).toNat)
  case atStart => exact ⟨0, by omega, rfl, World.ownsRow_nil _ _ _ _, bl_⟩
  case round =>
    obtain ⟨k, hk, rfl, hO, hb⟩ := hrel
    have hs := hb.size
    by_cases hlt : k < n
    · have hkl : k < l.length := by rw [HL.out]; exact hlt
      obtain ⟨b, o, eA, hbb, hz⟩ := HA.out k hkl
      have kb : ∀ i, wr.cell? ⟨b, i, none⟩ = w.cell? ⟨b, i, none⟩ := fun i => hb.cell (p := ⟨b, i, none⟩) (by simp; omega)
      simp only [← kb] at hz
      clear kb
      have hbw : b < wr.heap.size := by omega
      subst eA
      have HS : Hid (ods (l.take (k + 1)) = ods (l.take k) ++ l[k].cells) := by
        unfold ods
        rw [List.take_succ_eq_append_getElem hkl, List.flatMap_append]
        exact Lib.hid (by simp)
      generalize l[k] = x at *
      obtain ⟨on, oc⟩ := x
      obtain ⟨z0, z1⟩ := hz
      dsimp only at z0 z1 HS
      have hb1 : Below wr.heap.size wr (wr.alloc (.cells #[.int .i64 on, .int .i64 oc] 46)) := bl_
      have HO2 := Lib.hid (own_kept hO hb1)
      have HB2 := Lib.hid (hb.trans (hb1.mono hs))
      clear hO hb1
      go_wp2_with (at_builtin; refine wpList_app 38 45 2 16 elemOd rfl (.tmp 12) (.tmp 14) rfl w.heap.size _ k (ods (l.take k)) rfl HO2.out 1 (by show Value.slice (some ⟨wr.heap.size + 1, 0, none⟩) 1 1 = _; simp) rfl (by intro u hu; simp at hu; rcases hu with rfl | rfl <;> rfl) (by decide) ?h3 ?h4 ?h5 ?_)
      case h3 => unfold maxLen; omega
      case h4 => omega
      case h5 => simp; omega
      intro g' cap' w' hown' hb' hk' hs'
      have HO := Lib.hid hown'
      have HLw := Lib.hid (HB2.out.trans (hb'.mono (by simp)))
      clear hown' hb' hk'
      go_wp2
      go_roundw
      case rel => exact ⟨k + 1, by omega, by go_num, by rw [HS.out]; exact HO.out, HLw.out⟩
      case measure => simp [intOf]; omega
    · obtain rfl : k = n := by omega
      rw [List.take_of_length_le (by rw [HL.out]; exact Nat.le_refl _)] at hO
      obtain ⟨A2, c2, rfl, hc, _, hrd⟩ := own_form hO
      have HR := Lib.hid hrd
      clear hO hrd
      go_wp2
      go_ret
      exact ⟨A2, c2, rfl, HR.out, hc, hb⟩
end Go.Proofs.YtafnebfchhmgcaaGreat
