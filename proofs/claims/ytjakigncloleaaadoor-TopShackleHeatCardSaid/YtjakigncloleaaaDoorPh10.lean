/- Contracts of phasor: checksum, CheckTelegram. -/
import Derived.Test.YtjakigncloleaaaDoorPh9
import Derived.Test.YtjakigncloleaaaDoorPh2
namespace Go.Proofs.YtjakigncloleaaaDoor
open Go.RowKit Go.Sort
attribute [local go_sem] cell_if frozen_if grow_cell
def ckS (x b : Int) : Int := (263 * x + b) % 16777199
def cks (bs : List Int) : Int := bs.foldl ckS 1
theorem cks_bound (bs : List Int) : 0 ≤ cks bs ∧ cks bs < 16777199 := by
  unfold cks
  suffices h : ∀ (bs : List Int) (x : Int), 0 ≤ x ∧ x < 16777199 → 0 ≤ bs.foldl ckS x ∧ bs.foldl ckS x < 16777199 from h bs 1 (by omega)
  intro bs
  induction bs with
  | nil => intro x h; exact h
  | cons b r ih => intro x _; exact ih _ (by unfold ckS; omega)
theorem cks_snoc (bs : List Int) (k : Nat) (h : k < bs.length) : cks (bs.take (k + 1)) = ckS (cks (bs.take k)) bs[k] := by
  unfold cks
  rw [List.take_succ_eq_append_getElem h, List.foldl_append]
  rfl
theorem checksum_any (B : Nat) (A : Option Addr) (n c : Nat) (bs : List Int) (w : World) (hr : Reads w B 1 A n (bs.map (.int .u8))) (hn : n ≤ maxLen) (hb : ∀ b ∈ bs, 0 ≤ b ∧ b ≤ 255) :
    Calls Tryd.prog 63 #[.slice A n c] w fun e w' => e = .returned (.int .i64 (cks bs)) ∧ w = w' := by
  unfold maxLen at hn
  have hl : bs.length = n := by simpa using hr.1
  have Hl := Lib.hid hl; clear hl
  have Hb := Lib.hid hb; clear hb
  go_enter Tryd.func63, Tryd.ntmps63
  go_wp2
  go_loop [3, 8] (fun x i => ∃ k : Nat, k ≤ n ∧ i = .int .i64 k ∧ x = .int .i64 (cks (bs.take k))) (fun _ i => n - (intOf i).toNat)
  case atStart => exact ⟨0, Nat.zero_le _, rfl, rfl⟩
  case round =>
    obtain ⟨k, hk, rfl, rfl⟩ := hrel
    obtain ⟨hc1, hc2⟩ := cks_bound (bs.take k)
    by_cases hlt : k < n
    · obtain ⟨b, o, u, rfl, _, hu, hc⟩ := hr.at_ hlt
      have hkl : k < bs.length := by rw [Hl.out]; exact hlt
      obtain rfl : u = .int .u8 bs[k] := by simpa [hkl] using hu.symm
      obtain ⟨b1, b2⟩ := Hb.out bs[k] (List.getElem_mem hkl)
      have Hd : Hid (cks (bs.take (k + 1)) = ckS (cks (bs.take k)) bs[k]) := cks_snoc bs k hkl
      clear hu
      generalize bs[k] = z at *
      generalize cks (bs.take k) = x at *
      go_wp2
      go_round
      case rel => exact ⟨k + 1, by omega, by go_num, by rw [Hd.out]; rfl⟩
      case measure => simp [intOf]; omega
    · obtain rfl : k = n := by omega
      go_wp2
      go_ret
      exact ⟨by rw [List.take_of_length_le (by rw [Hl.out]; exact Nat.le_refl _)]; rfl, rfl⟩

theorem elemErrno : Elem Tryd.prog 102 33 1 8 := elem_of Tryd.underlying102 (z := .int .i64 0) (by kernel_rfl) rfl (by decide)
def Errs (w0 : World) (n : Nat) (zs : List Int) (e : Ending) (w : World) : Prop :=
  ∃ A cap, e = .returned (.slice A n cap) ∧ Reads w w.heap.size 1 A n (zs.map (.int .i64)) ∧ Below w0.heap.size w0 w
theorem clos_tel (z : Int) (w : World) : Calls Tryd.prog 75 #[.int .i64 z] w fun e w' => e = .returned (.int .i64 (ckR z (-32768) 32767)) ∧ w = w' := by
  go_enter Tryd.func75, Tryd.ntmps75
  go_wp2_with (go_at_call 57; refine (within_any _ _ _ _).mono ?_; rintro e w1 ⟨rfl, rfl⟩)
  go_ret
  exact ⟨rfl, rfl⟩
theorem map_snoc {α β : Type} (f : α → β) (l : List α) (k : Nat) (h : k < l.length) : (l.map f).take (k + 1) = (l.map f).take k ++ [f l[k]] := by
  rw [List.take_succ_eq_append_getElem (by simpa using h), List.getElem_map]
set_option maxHeartbeats 400000 in
theorem mapped_any (B : Nat) (A : Option Addr) (n c : Nat) (zs : List Int) (w : World) (hr : Reads w B 1 A n (zs.map (.int .i64))) (hB : B ≤ w.heap.size) (hn : n ≤ 1000) :
    Calls Tryd.prog 74 #[.slice A n c, .func (.func 75) #[] #[]] w (Errs w n (zs.map fun z => ckR z (-32768) 32767)) := by
  have hl : zs.length = n := by simpa using hr.1
  have Hl := Lib.hid hl; clear hl
  have HR := Lib.hid hr; clear hr
  go_enter Tryd.func74, Tryd.ntmps74
  go_wp2
  go_loopw [5, 10] (fun v i wr => ∃ k : Nat, k ≤ n ∧ i = .int .i64 k ∧ wr.ownsRow w.heap.size 33 1 v k ((zs.map fun z => Value.int .i64 (ckR z (-32768) 32767)).take k) ∧ Below w.heap.size w wr) (fun _ i _ => n - (intOf i).toNat)
  case atStart => exact ⟨0, Nat.zero_le _, rfl, World.ownsRow_nil _ _ _ _, Below.refl _ _⟩
  case round =>
    obtain ⟨k, hk, rfl, hown, hb⟩ := hrel
    have hsb := hb.size
    have HO := Lib.hid hown
    clear hown
    by_cases hlt : k < n
    · obtain ⟨b, o, u, rfl, _, hu, hc⟩ := (HR.out.below (hb.mono hB)).at_ hlt
      have hkl : k < zs.length := by rw [Hl.out]; exact hlt
      obtain rfl : u = .int .i64 zs[k] := by simpa [hkl] using hu.symm
      have Hd := Lib.hid (map_snoc (fun z => Value.int .i64 (ckR z (-32768) 32767)) zs k hkl)
      clear hu
      generalize zs[k] = z at *
      go_wp2_with (first | (go_at_call 75; refine (clos_tel _ _).mono ?_; rintro e w1 ⟨rfl, rfl⟩) | (at_builtin; refine wpList_app 102 33 1 8 elemErrno rfl (.tmp 14) (.tmp 18) rfl w.heap.size _ k _ rfl HO.out 1 rfl rfl ?h1 (by decide) ?h3 (by omega) hsb ?_))
      case h1 => rfl
      case h3 => unfold maxLen; omega
      intro g' cap' w' hown' hb' _ hs'
      go_wp2
      go_roundw
      case rel => exact ⟨k + 1, by omega, by go_num, by rw [Hd.out]; exact hown', hb.trans hb'⟩
      case measure => simp [intOf]; omega
    · obtain rfl : k = n := by omega
      obtain ⟨A', cap', rfl, _, _, hrd⟩ := own_form HO.out
      have HD := Lib.hid hrd
      clear hrd
      go_wp2
      go_ret
      refine ⟨A', cap', rfl, ?_, hb⟩
      have := HD.out
      rw [List.take_of_length_le (by rw [List.length_map, Hl.out]; exact Nat.le_refl _)] at this
      rw [List.map_map]
      exact this
end Go.Proofs.YtjakigncloleaaaDoor
