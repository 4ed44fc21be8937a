/- The law's side: small; lists and yards that stay. -/
import Derived.Test.YtphlojgmfkgeiaaGreatDoorKo
namespace Go.Proofs.YtphlojgmfkgeiaaGreatDoor
open Go.RowKit Go.Sort Go.Shelf
set_option linter.unusedSimpArgs false
set_option linter.unusedVariables false
attribute [local go_sem] cell_if frozen_if grow_cell
def smallB (y : Yd) : Bool := shortY y && smallY y && (yardE y == 0)
theorem small_any (A0 A1 A2 : Option Addr) (n0 n1 n2 c0 c1 c2 : Nat) (y : Yd) (w : World) (hY : YdAt w w.heap.size A0 A1 A2 n0 n1 n2 y) (h0 : n0 ≤ maxLen) (h1 : n1 ≤ maxLen) (h2 : n2 ≤ maxLen) (hW : Wide y) :
    Calls Tryz.prog 39 #[.agg #[.slice A0 n0 c0, .slice A1 n1 c1, .slice A2 n2 c2]] w fun e w' => e = .returned (.bool (smallB y)) ∧ Below w.heap.size w w' := by
  have HSh := Lib.hid (fun W (hW : Below w.heap.size w W) => Short_any w.heap.size A0 A1 A2 n0 n1 n2 c0 c1 c2 y W (hY.below hW) hW.size h0 h1 h2)
  have HSm := Lib.hid (fun W => Small_any A0 A1 A2 n0 n1 n2 c0 c1 c2 y W (sec_at hY.hs).1 (sw_at hY.hw).1)
  have HC := Lib.hid (fun W (hW' : Below w.heap.size w W) (hS : shortY y = true) => rCheckYard_any w.heap.size A0 A1 A2 n0 n1 n2 c0 c1 c2 y W (hY.below hW') hW'.size (hW.fits hS))
  unfold smallB
  clear hY h0 h1 h2 hW
  cases hS : shortY y with
  | false =>
    rw [hS] at HSh
    go_enter Tryz.func39, Tryz.ntmps39
    go_wp2_with fail
    refine (HSh.out _ bl_).mono ?_
    (rintro e w1 ⟨rfl, hb1⟩; have hs1 := hb1.size; (try simp at hs1))
    go_wp2_with fail
    go_ret
    exact ⟨by first | rfl | (simp; done), bl_⟩
  | true =>
    rw [hS] at HSh
    have HC' := Lib.hid (fun W hW => HC.out W hW hS)
    clear HC hS
    generalize smallY y = q at *
    generalize yardE y = ee at *
    cases q with
    | false =>
      go_enter Tryz.func39, Tryz.ntmps39
      go_wp2_with fail
      refine (HSh.out _ bl_).mono ?_
      (rintro e w1 ⟨rfl, hb1⟩; have hs1 := hb1.size; (try simp at hs1))
      obtain ⟨hc1, hf1⟩ := ifs_of hb1; have hs1 := hb1.size; (try simp at hs1)
      go_wp2_with fail
      refine (HSm.out _).mono ?_
      (rintro e w2 ⟨rfl, hb2⟩; have hs2 := hb2.size; (try simp at hs2))
      go_wp2_with fail
      go_ret
      exact ⟨by first | rfl | (simp; done), bl_⟩
    | true =>
      go_enter Tryz.func39, Tryz.ntmps39
      go_wp2_with fail
      refine (HSh.out _ bl_).mono ?_
      (rintro e w1 ⟨rfl, hb1⟩; have hs1 := hb1.size; (try simp at hs1))
      obtain ⟨hc1, hf1⟩ := ifs_of hb1; have hs1 := hb1.size; (try simp at hs1)
      go_wp2_with fail
      refine (HSm.out _).mono ?_
      (rintro e w2 ⟨rfl, hb2⟩; have hs2 := hb2.size; (try simp at hs2))
      obtain ⟨hc2, hf2⟩ := ifs_of hb2; have hs2 := hb2.size; (try simp at hs2)
      go_wp2_with fail
      refine (HC'.out _ bl_).mono ?_
      (rintro e w3 ⟨rfl, hb3⟩; have hs3 := hb3.size; (try simp at hs3))
      go_wp2_with fail
      go_ret
      exact ⟨by first | rfl | (simp; done), bl_⟩
end Go.Proofs.YtphlojgmfkgeiaaGreatDoor
