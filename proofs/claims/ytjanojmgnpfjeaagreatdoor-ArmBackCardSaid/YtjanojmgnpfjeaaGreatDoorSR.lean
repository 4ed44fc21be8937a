/- The reference's digits: the words' integers. -/
import Derived.Test.YtjanojmgnpfjeaaGreatDoorSQ
import Derived.Test.YtjanojmgnpfjeaaGreatDoorQo
namespace Go.Proofs.YtjanojmgnpfjeaaGreatDoor
open Go.RowKit Go.Sort Go.Shelf
set_option linter.unusedSimpArgs false
set_option linter.unusedVariables false
attribute [local go_sem] cell_if frozen_if grow_cell
def digOk (x : ByteArray) : Bool := intOk x.data.toList
set_option maxRecDepth 100000 in
set_option maxHeartbeats 4000000 in
theorem digits_any (B : Nat) (A : Option Addr) (n c : Nat) (xs : List ByteArray) (w : World) (hr : Reads w B 1 A n (xs.map .string)) (hB : B ≤ w.heap.size) (hn : n ≤ 100000) (hsz : ∀ x ∈ xs, x.size ≤ maxLen) :
    Calls Tryz.prog 88 #[.slice A n c] w fun e w' => ∃ v, e = .returned (.tuple #[v, .bool (xs.all digOk)]) ∧ (xs.all digOk = true → w'.ownsRow w.heap.size 3 1 v n (xs.map fun x => Value.int .i64 (digR x))) ∧ Below w.heap.size w w' := by
  obtain ⟨hl, ha⟩ := enc_at hr
  have HL := Lib.hid hl
  have HA := Lib.hid ha
  have HSZ := Lib.hid hsz
  clear hl ha hr hsz
  go_enter Tryz.func88, Tryz.ntmps88
  go_wp2_with fail
  go_loopw [4, 5, 6, 7] (fun v i _ _ wr => ∃ k : Nat, k ≤ n ∧ i = .int .i64 (k : Int) ∧ Hid (wr.ownsRow w.heap.size 3 1 v k ((xs.take k).map fun x => Value.int .i64 (digR x))) ∧ (xs.take k).all digOk = true ∧ Below w.heap.size w wr) (fun _ i _ _ _ => n - (intOf i).toNat)
  case atStart => exact ⟨0, by omega, rfl, Lib.hid (World.ownsRow_nil _ _ _ _), rfl, bl_⟩
  case round =>
    obtain ⟨k, hk, rfl, HO, hall, hb⟩ := hrel
    have hs := hb.size
    have HALL := Lib.hid hall
    clear hall
    by_cases hlt : k < n
    · have hkl : k < xs.length := by rw [HL.out]; exact hlt
      obtain ⟨b, o, eA, hbb, z0⟩ := HA.out k hkl
      have kb : ∀ i, wr.cell? ⟨b, i, none⟩ = w.cell? ⟨b, i, none⟩ := fun i => hb.cell (p := ⟨b, i, none⟩) (by simp; omega)
      rw [← kb] at z0
      clear kb
      have hbw : b < wr.heap.size := by omega
      subst eA
      have hxs := HSZ.out _ (List.getElem_mem hkl)
      have HD := Lib.hid (fun W => Digits_any xs[k] W hxs)
      have hTk : xs.take (k + 1) = xs.take k ++ [xs[k]] := List.take_succ_eq_append_getElem hkl
      have hAllK : Hid (digOk xs[k] = false → xs.all digOk = false) := Lib.hid (fun h => by
        rw [List.all_eq_false]
        exact ⟨_, List.getElem_mem hkl, by rw [h]; decide⟩)
      have HTk := Lib.hid hTk
      clear hTk hxs
      generalize hx : xs[k] = x at *
      have hok : Hid (digOk x = intOk x.data.toList) := Lib.hid rfl
      have HX := Lib.hid hx
      clear hx
      cases hq : intOk x.data.toList with
      | false =>
        rw [hq] at HD
        have HN := Lib.hid (hAllK.out (by rw [hok.out, hq]))
        clear hq
        go_wp2_with fail
        refine (HD.out _).mono ?_
        rintro e w1 ⟨rfl, rfl⟩
        go_wp2_with fail
        go_ret2
        exact ⟨.slice none 0 0, by rw [HN.out]; rfl, fun h => absurd (HN.out.symm.trans h) (by decide), hb⟩
      | true =>
        rw [hq] at HD
        have HQ := Lib.hid hq
        clear hq
        go_wp2_with fail
        refine (HD.out _).mono ?_
        rintro e w1 ⟨rfl, rfl⟩
        go_wp2_with (at_builtin; refine wpList_app 30 3 1 8 elemInt rfl (.tmp 24) (.tmp 26) rfl w.heap.size _ k _ rfl HO.out 1 rfl rfl ?h1 (by decide) ?h3 (by omega) (by omega) ?_)
        case h1 => rfl
        case h3 => unfold maxLen; omega
        intro g' cap' w' hown' hb' _ hs'
        have HO' := Lib.hid hown'
        clear hown'
        go_wp2
        go_roundw
        case rel => exact ⟨k + 1, by omega, by go_num, Lib.hid (by rw [HTk.out, List.map_append]; simpa using HO'.out), by rw [HTk.out, List.all_append, HALL.out, List.all_cons, hok.out, HQ.out]; rfl, hb.trans hb'⟩
        case measure => simp [intOf]; omega
    · obtain rfl : k = n := by omega
      have hT : xs.take k = xs := List.take_of_length_le (by rw [HL.out]; exact Nat.le_refl _)
      rw [hT] at HO HALL
      go_wp2_with fail
      go_ret2
      exact ⟨_, by rw [HALL.out]; rfl, fun _ => HO.out, hb⟩
end Go.Proofs.YtjanojmgnpfjeaaGreatDoor
