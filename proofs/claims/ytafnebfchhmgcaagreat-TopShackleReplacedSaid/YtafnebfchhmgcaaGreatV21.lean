/- Plans of replacement: the spares that a plan needs, with no deliveries: one for each module. -/
import Derived.Test.YtafnebfchhmgcaaGreatV20
namespace Go.Proofs.YtafnebfchhmgcaaGreat
open Go Go.RowKit Go.Sort Go.Shelf
set_option linter.unusedSimpArgs false
set_option linter.unusedVariables false
attribute [local go_sem] cell_if frozen_if grow_cell
theorem eachD_nil (g : Value) (w : World) : Calls Tryz.prog 107 #[.slice none 0 0, g] w fun e w' => e = .returned (.int .i64 0) ∧ w = w' := by
  go_enter Tryz.func107, Tryz.ntmps107
  go_wp2_with fail
  go_loopw [10] (fun s10 wr => s10 = .int .i64 0 ∧ w = wr) (fun _ _ => 0)
  case atStart => exact ⟨rfl, rfl⟩
  case round =>
    obtain ⟨rfl, rfl⟩ := hrel
    go_wp2_with fail
    go_ret
    exact ⟨rfl, rfl⟩
/-- How many entries of a plan lie below an index. -/
def useN (ks : List Int) (k : Nat) : Nat := ks.countP fun z => decide (z < (k : Int))
def eqN (ks : List Int) (k : Nat) : Nat := ks.countP fun z => decide (z = (k : Int))
theorem useN_zero {ks : List Int} (h : ∀ z ∈ ks, 0 ≤ z) : useN ks 0 = 0 := by
  unfold useN
  rw [List.countP_eq_zero]
  intro z hz
  have := h z hz
  simp
  omega
theorem useN_succ (ks : List Int) (k : Nat) : useN ks (k + 1) = useN ks k + eqN ks k := by
  unfold useN eqN
  induction ks with
  | nil => rfl
  | cons z r ih =>
    rw [List.countP_cons, List.countP_cons, List.countP_cons, ih]
    by_cases h1 : z < (k : Int)
    · have h2 : z < (k : Int) + 1 := by omega
      have h3 : ¬ z = (k : Int) := by omega
      simp [h1, h2, h3]
      omega
    · by_cases h3 : z = (k : Int)
      · subst h3
        have h2 : decide ((k : Int) < ((k + 1 : Nat) : Int)) = true := decide_eq_true (by omega)
        have h4 : decide ((k : Int) < (k : Int)) = false := decide_eq_false (by omega)
        have h5 : decide ((k : Int) = (k : Int)) = true := decide_eq_true rfl
        rw [h2, h4, h5]
        simp only [if_true, Bool.false_eq_true, if_false]
        omega
      · have h2 : ¬ z < ((k + 1 : Nat) : Int) := by omega
        have h2' : ¬ z < (k : Int) + 1 := by omega
        simp [h1, h2', h3]
theorem useN_all {ks : List Int} {n : Nat} (h : ∀ z ∈ ks, z < (n : Int)) : useN ks n = ks.length := by
  unfold useN
  rw [List.countP_eq_length]
  intro z hz
  have := h z hz
  simpa using this
theorem useN_le (ks : List Int) (k : Nat) : useN ks k ≤ ks.length := List.countP_le_length
theorem eqN_le (ks : List Int) (k : Nat) : eqN ks k ≤ ks.length := List.countP_le_length
theorem eqN_take (ks : List Int) (k : Nat) {j : Nat} (h : j < ks.length) : eqN (ks.take (j + 1)) k = eqN (ks.take j) k + (if ks[j] = (k : Int) then 1 else 0) := by
  unfold eqN
  rw [List.take_succ_eq_append_getElem h, List.countP_append, List.countP_cons, List.countP_nil]
  by_cases he : ks[j] = (k : Int)
  · simp [he]
  · simp [he]
set_option maxRecDepth 100000 in
set_option maxHeartbeats 8000000 in
theorem Spares_any (B Bp : Nat) (Am Ao Ap : Option Addr) (nm cm no co cp : Nat) (ms : List Vm) (os : List Ot) (ks : List Int) (w : World) (hrm : Reads w B 4 Am nm (vms ms)) (hro : Reads w B 3 Ao no (ots os)) (hB : B ≤ w.heap.size) (hr : Reads w Bp 1 Ap nm (ks.map (.int .i64))) (hBp : Bp ≤ w.heap.size) (hV : VmsOk ms) (hO : OutOk os) (hP : PlOk ms os ks) (hc : nm ≤ cm) :
    Calls Tryz.prog 44 #[.slice Am nm cm, .slice Ao no co, .slice Ap nm cp, .slice none 0 0] w fun e w' => e = .returned (.tuple #[.int .i64 (nm : Int), .int .i64 0]) ∧ Below w.heap.size w w' := by
  obtain ⟨hl, ha⟩ := int_at hr
  obtain ⟨hlo, hao⟩ := ot_at hro
  have hlm := (vm_at hrm).1
  have h8 : nm ≤ 8 := by rw [← hlm]; exact hV.len
  have h6 : no ≤ 6 := by rw [← hlo]; exact hO.len
  have HVc := Lib.hid (vcheck_any B B Am Ao nm cm no co ms os w hV hO hrm hro hB hB hc)
  have HCp := Lib.hid (fun W (hW : Below w.heap.size w W) => checkPlan_any B Bp Am Ao Ap nm cm no co cp ms os ks W (hrm.below (hW.mono hB)) (hro.below (hW.mono hB)) (by have := hW.size; omega) (hr.below (hW.mono hBp)) (by have := hW.size; omega) hV hO hP)
  have HL := Lib.hid hl
  have HA := Lib.hid ha
  have HLo := Lib.hid hlo
  have HAo := Lib.hid hao
  have HU0 := Lib.hid (useN_zero (ks := ks) fun z hz => (hP.ok.rng z hz).1)
  have HUn : Hid (useN ks no = nm) := Lib.hid (by rw [← hl]; exact useN_all fun z hz => by rw [← hlo]; exact (hP.ok.rng z hz).2)
  clear hrm hro hr hV hO hP hlm hlo hl ha hao
  go_enter Tryz.func44, Tryz.ntmps44
  go_wp2_with fail
  refine HVc.out.mono ?_
  rintro e w1 ⟨rfl, hb1⟩
  have HL1 := Lib.hid hb1
  clear hb1
  go_wp2_with fail
  refine (HCp.out _ HL1.out).mono ?_
  rintro e w2 ⟨rfl, hb2⟩
  have HL2 := Lib.hid (HL1.out.trans (hb2.mono HL1.out.size))
  clear hb2
  go_wp2_with fail
  refine (vwhen_any _ _ _).mono ?_
  rintro e w3 ⟨rfl, rfl⟩
  have hr3 : Reads (w2.alloc (.cells #[.int .i64 0, .int .i64 0] 31)) (w2.heap.size + 1) 1 (some ⟨w2.heap.size, 0, none⟩) 2 (([0, 0] : List Int).map (.int .i64)) := Reads.blk (Blk.new _ _ _) rfl
  have HR3 := Lib.hid hr3
  clear hr3
  rw [show whenE false 5 = 0 from rfl]
  go_wp2_with fail
  refine (vfirst_any _ _ 2 2 [0, 0] _ HR3.out (by unfold maxLen; omega)).mono ?_
  rw [show firstE [0, 0] = 0 from rfl]
  rintro e w4 ⟨rfl, hw4⟩
  have HL4 : Hid (Below w.heap.size w w4) := Lib.hid (by rw [← hw4]; exact HL2.out.trans (((Below.refl _ _).alloc (Nat.le_refl _) _).mono HL2.out.size))
  clear hw4 HR3
  go_wp2_with fail
  refine (eachD_nil _ _).mono ?_
  rintro e w5 ⟨rfl, rfl⟩
  go_wp2_with fail
  refine (vals_any _).mono ?_
  rintro e w5 ⟨rfl, hw5⟩
  have HL5 : Hid (Below w.heap.size w w5) := Lib.hid (by rw [← hw5]; exact HL4.out.trans (((Below.refl _ _).alloc (Nat.le_refl _) _).mono HL4.out.size))
  have HSo := Lib.hid (sortedf_nil w4.heap.size (.func (.func 111) #[] #[]) w5 (by rw [← hw5]; exact Blk.new _ _ _))
  clear hw5
  go_wp2_with fail
  refine HSo.out.mono ?_
  rintro e w6 ⟨rfl, hb6⟩
  have HL6 := Lib.hid (HL5.out.trans (hb6.mono HL5.out.size))
  clear hb6
  go_wp2_with fail
  go_loopw [14, 15, 52] (fun s14 s15 s52 wr => ∃ k : Nat, k ≤ no ∧ s52 = .int .i64 (k : Int) ∧ s14 = .int .i64 (useN ks k : Nat) ∧ s15 = .int .i64 (useN ks k : Nat) ∧ Below w.heap.size w wr) (fun _ _ s52 _ => no - (intOf s52).toNat)
  case atStart => exact ⟨0, by omega, rfl, by rw [HU0.out]; rfl, by rw [HU0.out]; rfl, HL6.out⟩
  case round =>
    obtain ⟨k, hk, rfl, rfl, rfl, hb⟩ := hrel
    have HB := Lib.hid hb
    have hsr := hb.size
    clear hb
    by_cases hlt : k < no
    · skip
      have hkl : k < os.length := by rw [HLo.out]; exact hlt
      have hkI : (k : Int) < (no : Int) := by omega
      obtain ⟨b, o, eA, hbb, z0, z1, z2⟩ := HAo.out k hkl
      have kb : ∀ i, wr.cell? ⟨b, i, none⟩ = w.cell? ⟨b, i, none⟩ := fun i => HB.out.cell (p := ⟨b, i, none⟩) (by simp; omega)
      rw [← kb] at z0 z1 z2
      have hbw : b < wr.heap.size := by omega
      have HUs := Lib.hid (useN_succ ks k)
      have hu1 := useN_le ks k
      have hu2 := eqN_le ks k
      rw [HL.out] at hu1 hu2
      generalize os[k] = y at *
      obtain ⟨yt, yh, yc⟩ := y
      dsimp only at z0 z1 z2
      subst eA
      clear kb
      have HB1 : Hid (Below w.heap.size w (wr.alloc (.cells #[.int .i64 yt, .int .i64 yh, .int .i64 yc] 109))) := Lib.hid (HB.out.alloc hsr _)
      go_wp2_with fail
      go_loopw [18, 59] (fun s18 s59 wr => s18 = .int .i64 0 ∧ s59 = .int .i64 0 ∧ Below w.heap.size w wr) (fun _ _ _ => 0)
      case atStart => exact ⟨rfl, rfl, HB1.out⟩
      case round =>
        obtain ⟨rfl, rfl, hb⟩ := hrel
        have HB2 := Lib.hid hb
        clear hb z0 z1 z2 HB HB1
        go_wp2_with fail
        go_loopw [15, 75] (fun s15 s75 wr => ∃ j : Nat, j ≤ nm ∧ s75 = .int .i64 (j : Int) ∧ s15 = .int .i64 ((useN ks k + eqN (ks.take j) k : Nat) : Int) ∧ Below w.heap.size w wr) (fun _ s75 _ => nm - (intOf s75).toNat)
        case atStart => exact ⟨0, by omega, rfl, by simp [eqN], HB2.out⟩
        case round =>
          obtain ⟨j, hj, rfl, rfl, hb⟩ := hrel
          have HB3 := Lib.hid hb
          have hs3 := hb.size
          clear hb
          by_cases hltj : j < nm
          · skip
            have hjl : j < ks.length := by rw [HL.out]; exact hltj
            have hjI : (j : Int) < (nm : Int) := by omega
            obtain ⟨b2, o2, eB, hbb2, y0⟩ := HA.out j hjl
            have kb : ∀ i, wr.cell? ⟨b2, i, none⟩ = w.cell? ⟨b2, i, none⟩ := fun i => HB3.out.cell (p := ⟨b2, i, none⟩) (by simp; omega)
            rw [← kb] at y0
            have hbw2 : b2 < wr.heap.size := by omega
            have HEt := Lib.hid (eqN_take ks k hjl)
            have he2 : eqN (ks.take j) k ≤ nm := by have := eqN_le (ks.take j) k; rw [List.length_take] at this; omega
            generalize ks[j] = z at *
            generalize eqN (ks.take j) k = q at *
            generalize useN ks k = u at *
            subst eB
            clear kb
            by_cases hz : z = (k : Int)
            · have hzd : decide (z = (k : Int)) = true := decide_eq_true hz
              rw [if_pos hz] at HEt
              subst hz
              have hw1 : IntKind.i64.wrap (((u + q : Nat) : Int) + 1) = ((u + q : Nat) : Int) + 1 := by rw [IntKind.wrap_i64]; omega
              go_wp2_with fail
              go_roundw
              case rel => exact ⟨j + 1, by omega, by go_num, by rw [HEt.out]; go_num, HB3.out⟩
              case measure => simp [intOf]; omega
            · have hzd : decide (z = (k : Int)) = false := decide_eq_false hz
              have hzd2 : (z == (k : Int)) = false := by simpa using hz
              rw [if_neg hz] at HEt
              go_wp2_with fail
              go_roundw
              case rel => exact ⟨j + 1, by omega, by go_num, by rw [HEt.out]; rfl, HB3.out⟩
              case measure => simp [intOf]; omega
          · skip
            obtain rfl : j = nm := by omega
            have hEt : eqN (ks.take j) k = eqN ks k := by rw [List.take_of_length_le (by rw [HL.out]; exact Nat.le_refl _)]
            have hj2 : ¬ (j : Int) < (j : Int) := by omega
            rw [hEt]
            rw [← HUs.out]
            have hle : useN ks k ≤ useN ks (k + 1) := by rw [HUs.out]; omega
            have hle2 : useN ks (k + 1) ≤ j := by have := useN_le ks (k + 1); rw [HL.out] at this; exact this
            clear hEt HUs hu2
            obtain ⟨u2, hu2⟩ : ∃ u2, useN ks (k + 1) = u2 := ⟨_, rfl⟩
            have HU2 := Lib.hid hu2
            rw [hu2] at hle hle2 ⊢
            generalize useN ks k = u at *
            clear hu2
            have hw1 : IntKind.i64.wrap ((u2 : Int) - 0) = (u2 : Int) := by rw [IntKind.wrap_i64]; omega
            have hw2 : IntKind.i64.wrap (u2 : Int) = (u2 : Int) := by rw [IntKind.wrap_i64]; omega
            rcases Nat.lt_or_ge u u2 with hx | hx
            · have hx1 : (u : Int) < (u2 : Int) := by omega
              have hx2 : ¬ (u2 : Int) < (u : Int) := by omega
              go_wp2_with fail
              go_roundw
              case rel => exact ⟨k + 1, by omega, by go_num, by rw [HU2.out] <;> congr 1 <;> omega, by rw [HU2.out], HB3.out⟩
              case measure => simp [intOf]; omega
            · obtain rfl : u = u2 := by omega
              have hx2 : ¬ (u : Int) < (u : Int) := by omega
              go_wp2_with fail
              go_roundw
              case rel => exact ⟨k + 1, by omega, by go_num, by rw [HU2.out] <;> congr 1 <;> omega, by rw [HU2.out], HB3.out⟩
              case measure => simp [intOf]; omega
    · skip
      obtain rfl : k = no := by omega
      rw [HUn.out]
      go_wp2_with fail
      go_ret2
      exact ⟨rfl, HB.out⟩
end Go.Proofs.YtafnebfchhmgcaaGreat
