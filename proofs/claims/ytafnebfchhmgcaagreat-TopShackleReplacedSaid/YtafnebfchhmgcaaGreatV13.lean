/- Modules that have to be replaced: the program's check. -/
import Derived.Test.YtafnebfchhmgcaaGreatV12
import Derived.Laws.EntriesVeiled
namespace Go.Proofs.YtafnebfchhmgcaaGreat
open Go Go.RowKit Go.Sort Go.Shelf
set_option linter.unusedSimpArgs false
set_option linter.unusedVariables false
attribute [local go_sem] cell_if frozen_if grow_cell
/-- Modules without an error. -/
structure VmsOk (l : List Vm) : Prop where
  ok : ∀ x ∈ l, VmOk x
  ne : ∀ i, (h : i < l.length) → ∀ y ∈ l.take i, sEq y.n l[i].n = false
  len : l.length ≤ 8
set_option maxRecDepth 100000 in
set_option maxHeartbeats 4000000 in
theorem eachM_any (B : Nat) (A : Option Addr) (n c bx : Nat) (l : List Vm) (w : World) (hV : VmsOk l) (hr : Reads w B 4 A n (vms l)) (hB : B ≤ w.heap.size) (hc : n ≤ c) (hx : Blk w bx 87 #[.slice A n c]) :
    Calls Tryz.prog 168 #[.slice A n c, .func (.func 169) #[] #[.pointer (some ⟨bx, 0, none⟩)]] w fun e w' => e = .returned (.int .i64 0) ∧ Below w.heap.size w w' := by
  obtain ⟨hl, ha⟩ := vm_at hr
  have HL := Lib.hid hl
  have HA := Lib.hid ha
  have HR := Lib.hid hr
  have HV := Lib.hid hV
  have HX := Lib.hid hx
  have h8 := hV.len
  rw [hl] at h8
  clear hl ha hr hV hx
  go_enter Tryz.func168, Tryz.ntmps168
  go_wp2_with fail
  go_loopw [10] (fun i wr => ∃ k : Nat, k ≤ n ∧ i = .int .i64 k ∧ Below w.heap.size w wr) (fun i _ => n - (intOf i).toNat)
  case atStart => exact ⟨0, by omega, rfl, Below.refl _ _⟩
  case round =>
    obtain ⟨k, hk, rfl, hb⟩ := hrel
    have HB2 := Lib.hid hb
    have hs := hb.size
    clear hb
    by_cases hlt : k < n
    · have hkl : k < l.length := by rw [HL.out]; exact hlt
      obtain ⟨b, o, eA, hbb, z0, z1, z2, z3⟩ := HA.out k hkl
      have kb : ∀ i, wr.cell? ⟨b, i, none⟩ = w.cell? ⟨b, i, none⟩ := fun i => HB2.out.cell (p := ⟨b, i, none⟩) (by simp; omega)
      rw [← kb] at z0 z1 z2 z3
      clear kb
      have hbw : b < wr.heap.size := by omega
      have hok := HV.out.ok _ (List.getElem_mem hkl)
      have hne := HV.out.ne k hkl
      generalize l[k] = x at *
      have hb1 : Below wr.heap.size wr (wr.alloc (.cells #[.string x.n, .int .i64 x.f, .int .i64 x.b, .int .i64 x.h] 90)) := (Below.refl _ _).alloc (Nat.le_refl _) _
      have hb2 := HB2.out.trans (hb1.mono hs)
      have HC := Lib.hid (clm_any k bx B x A n c l _ (HX.out.kept hb2) (HR.out.below (hb2.mono hB)) (by have := hb2.size; omega) (by omega) hc h8 hok hne)
      have HB3 := Lib.hid hb2
      obtain ⟨xn, xf, xb, xh⟩ := x
      dsimp only at z0 z1 z2 z3 HC HB3
      subst eA
      clear hb1 hb2 hok hne
      go_wp2_with fail
      refine HC.out.mono ?_
      rintro e w1 ⟨rfl, hb4⟩
      have HB4 := Lib.hid (HB3.out.trans (hb4.mono (by simp; omega)))
      clear hb4 HC
      go_wp2_with fail
      go_roundw
      case rel => exact ⟨k + 1, by omega, by go_num, HB4.out⟩
      case measure => simp [intOf]; omega
    · obtain rfl : k = n := by omega
      go_wp2_with fail
      go_ret
      exact ⟨rfl, HB2.out⟩
set_option maxRecDepth 100000 in
set_option maxHeartbeats 4000000 in
theorem CheckM_any (B : Nat) (A : Option Addr) (n c : Nat) (l : List Vm) (w : World) (hV : VmsOk l) (hr : Reads w B 4 A n (vms l)) (hB : B ≤ w.heap.size) (hc : n ≤ c) :
    Calls Tryz.prog 146 #[.slice A n c] w fun e w' => e = .returned (.int .i64 0) ∧ Below w.heap.size w w' := by
  have hl := (vm_at hr).1
  have h8 := hV.len
  rw [hl] at h8
  have HE := Lib.hid (eachM_any B A n c w.heap.size l (w.alloc (.cells #[.slice A n c] 87)) hV (hr.alloc hB _) (by simp; omega) hc (Blk.new _ _ _))
  clear hr hV hl
  go_enter Tryz.func146, Tryz.ntmps146
  go_wp2_with fail
  refine HE.out.mono ?_
  rintro e w1 ⟨rfl, hb⟩
  have HB := Lib.hid (((Below.refl w.heap.size w).alloc (Nat.le_refl _) (.cells #[.slice A n c] 87)).trans (hb.mono (by simp)))
  clear hb
  go_wp2_with fail
  go_ret
  exact ⟨rfl, HB.out⟩
end Go.Proofs.YtafnebfchhmgcaaGreat
