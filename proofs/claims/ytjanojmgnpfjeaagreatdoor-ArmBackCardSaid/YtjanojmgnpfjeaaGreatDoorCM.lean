/- The document's examples of arms: what the program answers. -/
import Derived.Test.YtjanojmgnpfjeaaGreatDoorQo
import Derived.Test.YtjanojmgnpfjeaaGreatDoorCK
import Derived.Test.YtjanojmgnpfjeaaGreatDoorCJ
import Derived.Test.YtjanojmgnpfjeaaGreatDoorQn
import Derived.Test.YtjanojmgnpfjeaaGreatDoorQl
import Derived.Test.YtjanojmgnpfjeaaGreatDoorQk
import Derived.Test.YtjanojmgnpfjeaaGreatDoorQf
import Derived.Test.YtjanojmgnpfjeaaGreatDoorQh
import Derived.Test.YtjanojmgnpfjeaaGreatDoorQd
namespace Go.Proofs.YtjanojmgnpfjeaaGreatDoor
open Go Go.RowKit Go.Sort Go.Shelf
set_option linter.unusedSimpArgs false
set_option linter.unusedVariables false
attribute [local go_sem] cell_if frozen_if grow_cell
def Sh (W : World) (g : Nat) : Prop := BlkArm W g shA
theorem Sh.at {W : World} {g : Nat} (h : Sh W g) : MsAt W (g + 1) (some ⟨g, 0, none⟩) 4 shA.m := BlkArm.at h rfl
theorem Sh.kept {W W' : World} {g : Nat} (h : Sh W g) (hb : Below W.heap.size W W') : Sh W' g := Blk.kept h hb
theorem Sh.lt {W : World} {g : Nat} (h : Sh W g) : g + 1 ≤ W.heap.size := Blk.lt h
theorem shF : FitA shA := ⟨by decide, by intro x hx; simp [shA] at hx; rcases hx with rfl | rfl | rfl | rfl <;> decide⟩
theorem shown_any (w : World) : Calls Tryz.prog 48 #[] w fun e w' => ∃ g, e = .returned (.agg #[.slice (some ⟨g, 0, none⟩) 4 4, .int .i64 100, .int .i64 200, .int .i64 20, .int .i64 2]) ∧ Sh w' g ∧ w.heap.size ≤ g ∧ Below w.heap.size w w' := by
  go_enter Tryz.func48, Tryz.ntmps48
  go_wp2_with fail
  have K : Blk ((w.alloc (.cells #[.slice (some ⟨w.heap.size + 1, 0, none⟩) 4 4, .int .i64 100, .int .i64 200, .int .i64 20, .int .i64 2] 36)).alloc (.cells (mds shA.m).toArray 107)) w.heap.size 36 #[.slice (some ⟨w.heap.size + 1, 0, none⟩) 4 4, .int .i64 100, .int .i64 200, .int .i64 20, .int .i64 2] := bk_
  have K1 : Blk ((w.alloc (.cells #[.slice (some ⟨w.heap.size + 1, 0, none⟩) 4 4, .int .i64 100, .int .i64 200, .int .i64 20, .int .i64 2] 36)).alloc (.cells (mds shA.m).toArray 107)) (w.heap.size + 1) 107 (mds shA.m).toArray := Blk.new_at _ _ (by simp)
  have hb : Below w.heap.size w ((w.alloc (.cells #[.slice (some ⟨w.heap.size + 1, 0, none⟩) 4 4, .int .i64 100, .int .i64 200, .int .i64 20, .int .i64 2] 36)).alloc (.cells (mds shA.m).toArray 107)) := bl_
  change bodyPost _ _ _ _ _ ((w.alloc (.cells #[.slice (some ⟨w.heap.size + 1, 0, none⟩) 4 4, .int .i64 100, .int .i64 200, .int .i64 20, .int .i64 2] 36)).alloc (.cells (mds shA.m).toArray 107))
  generalize ((w.alloc (.cells #[.slice (some ⟨w.heap.size + 1, 0, none⟩) 4 4, .int .i64 100, .int .i64 200, .int .i64 20, .int .i64 2] 36)).alloc (.cells (mds shA.m).toArray 107)) = W at *
  have ck := K.cell
  exact bodyPost_ret (v := .agg #[.slice (some ⟨w.heap.size + 1, 0, none⟩) 4 4, .int .i64 100, .int .i64 200, .int .i64 20, .int .i64 2]) (by simp [results, Tryz.results48, go_sem, ck]) rfl ⟨w.heap.size + 1, rfl, K1, by omega, hb⟩
theorem ex_us {W : World} {g : Nat} (h : Sh W g) : Calls Tryz.prog 47 #[.agg #[.slice (some ⟨g, 0, none⟩) 4 4, .int .i64 100, .int .i64 200, .int .i64 20, .int .i64 2]] W (IntsERes W [0, 1, 2] 0) := by
  have := Usable_any (g + 1) (some ⟨g, 0, none⟩) 4 4 shA W h.at h.lt shF (Nat.le_refl _)
  rw [sh_ok, sh_us] at this
  exact this
theorem ex_vo {W : World} {g : Nat} (h : Sh W g) : Calls Tryz.prog 49 #[.agg #[.slice (some ⟨g, 0, none⟩) 4 4, .int .i64 100, .int .i64 200, .int .i64 20, .int .i64 2]] W fun e w' => e = .returned (.tuple #[.int .i64 120, .int .i64 0]) ∧ Below W.heap.size W w' := by
  have := Voltage_any (g + 1) (some ⟨g, 0, none⟩) 4 4 shA W h.at h.lt shF (Nat.le_refl _) sh_ok
  rw [sh_volt] at this
  exact this
theorem ex_sp {W : World} {g : Nat} (h : Sh W g) : Calls Tryz.prog 50 #[.agg #[.slice (some ⟨g, 0, none⟩) 4 4, .int .i64 100, .int .i64 200, .int .i64 20, .int .i64 2]] W fun e w' => e = .returned (.tuple #[.int .i64 40, .int .i64 0]) ∧ Below W.heap.size W w' := by
  have := Spread_any (g + 1) (some ⟨g, 0, none⟩) 4 4 shA W h.at h.lt shF (Nat.le_refl _) sh_ok
  rw [sh_spread] at this
  exact this
theorem ex_en {W : World} {g : Nat} (h : Sh W g) : Calls Tryz.prog 51 #[.agg #[.slice (some ⟨g, 0, none⟩) 4 4, .int .i64 100, .int .i64 200, .int .i64 20, .int .i64 2]] W fun e w' => e = .returned (.tuple #[.int .i64 49000, .int .i64 0]) ∧ Below W.heap.size W w' := by
  have := Energy_any (g + 1) (some ⟨g, 0, none⟩) 4 4 shA W h.at h.lt shF (Nat.le_refl _) sh_ok
  rw [sh_ener] at this
  exact this
theorem ex_ch {W : World} {g : Nat} (n c er : Int) (zs : List Int) (h : Sh W g) (he : choE shA ⟨n, c⟩ = er) (hz : choL shA ⟨n, c⟩ = zs) : Calls Tryz.prog 34 #[.agg #[.slice (some ⟨g, 0, none⟩) 4 4, .int .i64 100, .int .i64 200, .int .i64 20, .int .i64 2], .agg #[.int .i64 n, .int .i64 c]] W (ChoRes W er zs) := by
  have := Choose_any (g + 1) (some ⟨g, 0, none⟩) 4 4 shA ⟨n, c⟩ W h.at h.lt shF (Nat.le_refl _)
  rw [he, hz] at this
  exact this
theorem sh_e1 : choE shA ⟨1, 10⟩ = 0 := by decide +kernel
theorem sh_l1 : choL shA ⟨1, 10⟩ = [2] := by decide +kernel
theorem sh_e2 : choE shA ⟨1, -10⟩ = 0 := by decide +kernel
theorem sh_l2 : choL shA ⟨1, -10⟩ = [1] := by decide +kernel
theorem sh_e3 : choE shA ⟨2, 10⟩ = 0 := by decide +kernel
theorem sh_l3 : choL shA ⟨2, 10⟩ = [0, 2] := by decide +kernel
theorem sh_e4 : choE shA ⟨2, -10⟩ = 0 := by decide +kernel
theorem sh_l4 : choL shA ⟨2, -10⟩ = [0, 1] := by decide +kernel
theorem sh_e5 : choE shA ⟨4, 0⟩ = 18 := by decide +kernel
theorem sh_l5 : choL shA ⟨4, 0⟩ = [] := by decide +kernel
theorem sh_e6 : choE shA ⟨1, 21⟩ = 31 := by decide +kernel
theorem sh_l6 : choL shA ⟨1, 21⟩ = [] := by decide +kernel
theorem sh_we : wrkE shA [⟨1, 10⟩] = 0 := by
  unfold wrkE
  rw [fol_all sh_work.1]
  decide +kernel
theorem sh_wv : wrkV shA [⟨1, 10⟩] = 2300 := by unfold wrkV; rw [sh_we, if_pos rfl, sh_work.2]
theorem sh_lv : logV shA [⟨1, 10⟩] = [[120, 150, 120, 180]] := by
  unfold logV
  rw [sh_we, if_pos rfl]
  decide +kernel
def Or1 (W : World) (b : Nat) : Prop := Blk W b 73 #[.int .i64 1, .int .i64 10]
theorem Or1.at {W : World} {b : Nat} (h : Or1 W b) : Reads W (b + 1) 2 (some ⟨b, 0, none⟩) 1 (ods [⟨1, 10⟩]) := Reads.blk (size := 2) (n := 1) h rfl
theorem ex_wo {W : World} {g b : Nat} (h : Sh W g) (hb : Or1 W b) : Calls Tryz.prog 52 #[.agg #[.slice (some ⟨g, 0, none⟩) 4 4, .int .i64 100, .int .i64 200, .int .i64 20, .int .i64 2], .slice (some ⟨b, 0, none⟩) 1 1] W fun e w' => e = .returned (.tuple #[.int .i64 2300, .int .i64 0]) ∧ Below W.heap.size W w' := by
  have := Work_any (g + 1) (b + 1) (some ⟨g, 0, none⟩) (some ⟨b, 0, none⟩) 4 4 1 1 shA [⟨1, 10⟩] W h.at h.lt shF (Nat.le_refl _) hb.at (Blk.lt hb) (by decide)
  rw [sh_we, sh_wv] at this
  exact this
theorem ex_lo {W : World} {g b : Nat} (h : Sh W g) (hb : Or1 W b) : Calls Tryz.prog 56 #[.agg #[.slice (some ⟨g, 0, none⟩) 4 4, .int .i64 100, .int .i64 200, .int .i64 20, .int .i64 2], .slice (some ⟨b, 0, none⟩) 1 1] W (LogRes W 0 [[120, 150, 120, 180]]) := by
  have := Log_any (g + 1) (b + 1) (some ⟨g, 0, none⟩) (some ⟨b, 0, none⟩) 4 4 1 1 shA [⟨1, 10⟩] W h.at h.lt shF (Nat.le_refl _) hb.at (Blk.lt hb) (by decide)
  rw [sh_we, sh_lv] at this
  exact this
theorem sh_se : stpE shA ⟨1, 10⟩ = 0 := by decide +kernel
def shB : List Md := [⟨⟨#[97]⟩, 120, false, false⟩, ⟨⟨#[98]⟩, 150, false, false⟩, ⟨⟨#[99]⟩, 120, true, false⟩, ⟨⟨#[100]⟩, 180, false, true⟩]
theorem ex_st {W : World} {g : Nat} (h : Sh W g) : Calls Tryz.prog 35 #[.agg #[.slice (some ⟨g, 0, none⟩) 4 4, .int .i64 100, .int .i64 200, .int .i64 20, .int .i64 2], .agg #[.int .i64 1, .int .i64 10]] W fun e w' => Below W.heap.size W w' ∧ ∃ g', e = .returned (.tuple #[.agg #[.slice (some ⟨g', 0, none⟩) 4 4, .int .i64 100, .int .i64 200, .int .i64 20, .int .i64 2], .int .i64 0]) ∧ Blk w' g' 107 (mds shB).toArray := by
  have := Step_any (g + 1) (some ⟨g, 0, none⟩) 4 4 shA ⟨1, 10⟩ W h.at h.lt shF (Nat.le_refl _)
  rw [sh_se] at this
  refine this.mono ?_
  rintro e w' ⟨hb, ⟨_, g', rfl, hg, _⟩ | ⟨h0, _⟩⟩
  · have e : (stepA shA ⟨1, 10⟩).m = shB := by
      have hc := sh_c1
      show stepMs (choiceA shA ⟨1, 10⟩) 10 0 shA.m = shB
      rw [hc]
      rfl
    rw [e] at hg
    exact ⟨hb, g', rfl, hg⟩
  · exact absurd rfl h0
theorem ex_bo {W : World} {g : Nat} (h : Sh W g) : Calls Tryz.prog 54 #[.agg #[.slice (some ⟨g, 0, none⟩) 4 4, .int .i64 100, .int .i64 200, .int .i64 20, .int .i64 2], .agg #[.int .i64 1, .int .i64 10]] W fun e w' => e = .returned (.tuple #[.int .i64 50, .int .i64 0]) ∧ Below W.heap.size W w' := by
  have := Bound_any (g + 1) (some ⟨g, 0, none⟩) 4 4 shA ⟨1, 10⟩ W h.at h.lt shF (Nat.le_refl _)
  rw [sh_e1, show bouV shA ⟨1, 10⟩ = 50 by unfold bouV; rw [sh_e1, if_pos rfl, sh_bound]] at this
  exact this
theorem ex_gu {W : World} {g : Nat} (h : Sh W g) : Calls Tryz.prog 55 #[.agg #[.slice (some ⟨g, 0, none⟩) 4 4, .int .i64 100, .int .i64 200, .int .i64 20, .int .i64 2]] W fun e w' => e = .returned (.tuple #[.int .i64 0, .int .i64 0]) ∧ Below W.heap.size W w' := by
  have := Guaranteed_any (g + 1) (some ⟨g, 0, none⟩) 4 4 shA W h.at h.lt shF (Nat.le_refl _) sh_ok
  rw [sh_guar] at this
  exact this
def shM : List Md := [⟨⟨#[97]⟩, 180, true, false⟩, ⟨⟨#[98]⟩, 150, false, false⟩, ⟨⟨#[99]⟩, 190, false, false⟩, ⟨⟨#[100]⟩, 180, false, true⟩]
theorem ex_mi {W : World} {g : Nat} (h : Sh W g) : Calls Tryz.prog 12 #[.agg #[.slice (some ⟨g, 0, none⟩) 4 4, .int .i64 100, .int .i64 200, .int .i64 20, .int .i64 2]] W fun e w' => Below W.heap.size W w' ∧ ∃ g', e = .returned (.tuple #[.agg #[.slice (some ⟨g', 0, none⟩) 4 4, .int .i64 100, .int .i64 200, .int .i64 20, .int .i64 2], .int .i64 0]) ∧ Blk w' g' 107 (mds shM).toArray := by
  refine (Mirrored_any (g + 1) (some ⟨g, 0, none⟩) 4 4 shA W h.at h.lt shF (Nat.le_refl _) sh_ok).mono ?_
  rintro e w' ⟨g', rfl, hg, _, hb⟩
  exact ⟨hb, g', rfl, hg⟩
def shT : ByteArray := ⟨#[97, 114, 109, 32, 49, 48, 48, 32, 50, 48, 48, 32, 50, 48, 32, 50, 10, 109, 111, 100, 117, 108, 101, 32, 97, 32, 49, 50, 48, 32, 111, 110, 10, 109, 111, 100, 117, 108, 101, 32, 98, 32, 49, 53, 48, 32, 111, 102, 102, 10, 109, 111, 100, 117, 108, 101, 32, 99, 32, 49, 49, 48, 32, 111, 102, 102, 10, 109, 111, 100, 117, 108, 101, 32, 100, 32, 49, 56, 48, 32, 98, 121, 112, 97, 115, 115, 101, 100, 10]⟩
theorem sh_print : printB shA = shT := by
  unfold printB shT
  simp [jB, headW, textB, stB, itoB, shA, Lib.join, Lib.itoa, Lib.decDigits]
  decide +kernel
theorem ex_pr {W : World} {g : Nat} (h : Sh W g) (hT : TabT W) : Calls Tryz.prog 23 #[.agg #[.slice (some ⟨g, 0, none⟩) 4 4, .int .i64 100, .int .i64 200, .int .i64 20, .int .i64 2]] W fun e w' => e = .returned (.tuple #[.string shT, .int .i64 0]) ∧ Below W.heap.size W w' := by
  have := Print_any (g + 1) (some ⟨g, 0, none⟩) 4 4 shA W h.at h.lt shF (Nat.le_refl _) sh_ok hT
  rw [sh_print] at this
  exact this
def shS : List Nat := [1082130432, 0, 3229614080, 1098907648]
def shV (x : Nat) : Int := if x = 1082130432 then 64 else if x = 0 then 0 else if x = 3229614080 then -64 else 256
theorem shS_ok : SampsOk shS shV := by
  intro x hx
  simp [shS] at hx
  rcases hx with rfl | rfl | rfl | rfl
  · exact ⟨(floatBits .mul .f32 1098907648 1082130432).getD 0, ⟨⟨(floatBits .sub .f32 1082130432 1082130432).getD 0, by decide +kernel, by decide +kernel⟩, by decide +kernel, by decide +kernel, by decide +kernel, by decide +kernel, by decide +kernel, by decide⟩⟩
  · exact ⟨(floatBits .mul .f32 1098907648 0).getD 0, ⟨⟨(floatBits .sub .f32 0 0).getD 0, by decide +kernel, by decide +kernel⟩, by decide +kernel, by decide +kernel, by decide +kernel, by decide +kernel, by decide +kernel, by decide⟩⟩
  · exact ⟨(floatBits .mul .f32 1098907648 3229614080).getD 0, ⟨⟨(floatBits .sub .f32 3229614080 3229614080).getD 0, by decide +kernel, by decide +kernel⟩, by decide +kernel, by decide +kernel, by decide +kernel, by decide +kernel, by decide +kernel, by decide⟩⟩
  · exact ⟨(floatBits .mul .f32 1098907648 1098907648).getD 0, ⟨⟨(floatBits .sub .f32 1098907648 1098907648).getD 0, by decide +kernel, by decide +kernel⟩, by decide +kernel, by decide +kernel, by decide +kernel, by decide +kernel, by decide +kernel, by decide⟩⟩
theorem sh_lev : (shS.map fun x => levI (usL shA).length 64 (shV x)) = [3, 2, 0, 3] := by
  rw [sh_us]
  decide
def SmpAt (W : World) (b : Nat) : Prop := Blk W b 102 #[.float .f32 1082130432, .float .f32 0, .float .f32 3229614080, .float .f32 1098907648]
theorem SmpAt.at {W : World} {b : Nat} (h : SmpAt W b) : Reads W (b + 1) 1 (some ⟨b, 0, none⟩) 4 (shS.map (Value.float .f32)) := Reads.blk (size := 1) (n := 4) h rfl
theorem ex_le {W : World} {g b : Nat} (h : Sh W g) (hb : SmpAt W b) : Calls Tryz.prog 9 #[.agg #[.slice (some ⟨g, 0, none⟩) 4 4, .int .i64 100, .int .i64 200, .int .i64 20, .int .i64 2], .slice (some ⟨b, 0, none⟩) 4 4, .int .i64 64] W (LevRes W [3, 2, 0, 3]) := by
  have := Levels_ok (g + 1) (b + 1) (some ⟨g, 0, none⟩) (some ⟨b, 0, none⟩) 4 4 4 4 shA shS 64 shV W h.at h.lt shF (Nat.le_refl _) sh_ok hb.at (Blk.lt hb) (by decide) shS_ok (by decide)
  rw [sh_lev] at this
  exact this
def eqF (x z : Nat) : Bool := FloatKind.f32.format.order x z == some .eq
def sameF : List Nat → List Nat → Bool
  | [], [] => true
  | x :: r, z :: t => eqF x z && sameF r t
  | _, _ => false
theorem sameF_len : ∀ (xs ys : List Nat), xs.length ≠ ys.length → sameF xs ys = false
  | [], [], h => absurd rfl h
  | [], _ :: _, _ => rfl
  | _ :: _, [], _ => rfl
  | x :: r, z :: t, h => by
    rw [sameF, sameF_len r t (by simpa using h)]
    simp
set_option maxRecDepth 100000 in
theorem SameSamples_any (B1 B2 : Nat) (A1 A2 : Option Addr) (n1 n2 c1 c2 : Nat) (xs ys : List Nat) (w : World) (h1 : Reads w B1 1 A1 n1 (xs.map (Value.float .f32))) (h2 : Reads w B2 1 A2 n2 (ys.map (Value.float .f32))) (hB1 : B1 ≤ w.heap.size) (hB2 : B2 ≤ w.heap.size) (hn : n1 ≤ maxLen) (hm : n2 ≤ maxLen) :
    Calls Tryz.prog 57 #[.slice A1 n1 c1, .slice A2 n2 c2] w fun e w' => e = .returned (.bool (sameF xs ys)) ∧ Below w.heap.size w w' := by
  unfold maxLen at hn hm
  have hl1 : xs.length = n1 := by simpa using h1.1
  have hl2 : ys.length = n2 := by simpa using h2.1
  have HL1 := Lib.hid hl1
  have HL2 := Lib.hid hl2
  clear hl1 hl2
  by_cases hne : n1 = n2
  · subst hne
    go_enter Tryz.func57, Tryz.ntmps57
    go_wp2_with fail
    go_loopw [5] (fun i wr => ∃ k : Nat, k ≤ n1 ∧ i = .int .i64 k ∧ sameF xs ys = sameF (xs.drop k) (ys.drop k) ∧ Below w.heap.size w wr) (fun i _ => n1 - (intOf i).toNat)
    case atStart => exact ⟨0, by omega, rfl, rfl, bl_⟩
    case round =>
      obtain ⟨k, hk, rfl, hf, hb⟩ := hrel
      have Hf := Lib.hid hf; clear hf
      by_cases hlt : k < n1
      · obtain ⟨b, o, u, rfl, hbb, hu, hc⟩ := (h1.below (hb.mono hB1)).at_ hlt
        obtain ⟨b', o', u', rfl, hbb', hu', hc'⟩ := (h2.below (hb.mono hB2)).at_ hlt
        have hs := hb.size
        have hl1 : b < wr.heap.size := by omega
        have hl2 : b' < wr.heap.size := by omega
        have hkl : k < xs.length := by rw [HL1.out]; exact hlt
        have hkl' : k < ys.length := by rw [HL2.out]; exact hlt
        obtain rfl : u = (Value.float .f32) xs[k] := by simpa [hkl] using hu.symm
        obtain rfl : u' = (Value.float .f32) ys[k] := by simpa [hkl'] using hu'.symm
        have Hd : Hid (xs.drop k = xs[k] :: xs.drop (k + 1)) := List.drop_eq_getElem_cons hkl
        have Hd' : Hid (ys.drop k = ys[k] :: ys.drop (k + 1)) := List.drop_eq_getElem_cons hkl'
        clear hu hu'
        generalize xs[k] = x at *
        generalize ys[k] = z at *
        go_wp2_with fail
        (refine wp_region_all_below (by kernel_rfl) (by kernel_rfl) ?_; (repeat (go_big_quiet_step (fail))); refine wpQuiet_nil ?_)
        intro w1 hb1
        obtain ⟨hc1, hf1⟩ := ifs_of hb1; have hs1 := hb1.size; (try simp at hs1)
        generalize hqq : (FloatKind.f32.format.order x z != some Ordering.eq) = q
        have Hq : Hid (eqF x z = !q) := by show _ = _; rw [← hqq]; unfold eqF; simp [bne]
        clear hqq
        cases q with
        | false =>
          go_wp2_with fail
          go_roundw
          case rel => exact ⟨k + 1, by omega, by go_num, by rw [Hf.out, Hd.out, Hd'.out, sameF]; simp [Hq.out], bl_⟩
          case measure => simp [intOf]; omega
        | true =>
          go_wp2_with fail
          go_ret
          exact ⟨by rw [Hf.out, Hd.out, Hd'.out, sameF]; simp [Hq.out], bl_⟩
      · obtain rfl : k = n1 := by omega
        go_wp2_with fail
        go_ret
        exact ⟨by rw [Hf.out, List.drop_eq_nil_of_le (by rw [HL1.out]; exact Nat.le_refl _), List.drop_eq_nil_of_le (by rw [HL2.out]; exact Nat.le_refl _)]; rfl, bl_⟩
  · have e : sameF xs ys = false := sameF_len xs ys (by rw [HL1.out, HL2.out]; exact hne)
    have hq : ((n1 : Int) != (n2 : Int)) = true := by simp; omega
    rw [e]
    clear e
    go_enter Tryz.func57, Tryz.ntmps57
    go_wp2_with fail
    go_ret
    exact ⟨by first | rfl | (simp; done), bl_⟩
end Go.Proofs.YtjanojmgnpfjeaaGreatDoor
