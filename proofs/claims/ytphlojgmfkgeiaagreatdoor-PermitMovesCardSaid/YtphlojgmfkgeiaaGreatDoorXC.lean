/- Reference: Grant. -/
import Derived.Test.YtphlojgmfkgeiaaGreatDoorXA
namespace Go.Proofs.YtphlojgmfkgeiaaGreatDoor
open Go.RowKit Go.Sort Go.Shelf
set_option linter.unusedSimpArgs false
set_option linter.unusedVariables false
attribute [local go_sem] cell_if frozen_if grow_cell
def g1R (y : Yd) (nm sc : ByteArray) : Int := firstE [nameE nm, whenE (hasW (y.p.map Pm.n) nm) 9, whenE (decide (secAtB y sc < 0)) 10]
def g2R (y : Yd) (sc : ByteArray) : Int := firstE [whenE (!secB y (secAtB y sc)) 21, whenE ((y.p.length : Int) == 8) 5]
def grantR (y : Yd) (nm sc : ByteArray) : Int := or0 (g1R y nm sc) (g2R y sc)
theorem or0_assoc (a b c : Int) : or0 (or0 a b) c = or0 a (or0 b c) := by
  by_cases ha : a = 0
  · rw [or0_pos ha, or0_pos ha]
  · rw [or0_neg ha, or0_neg ha, or0_neg ha]
theorem first3_or (a b c : Int) : firstE [a, b, c] = or0 a (or0 b c) := by
  rw [firstE_cons, first2_or]
theorem grantE_R {y : Yd} (h : yardE y = 0) (nm sc : ByteArray) : grantE y nm sc = grantR y nm sc := by
  have h8 := (yard_ok h).1.p8
  have e : decide (8 ≤ (y.p.length : Int)) = ((y.p.length : Int) == 8) := by
    rw [Bool.eq_iff_iff]
    simp
    omega
  unfold grantE grantR gr1E gr2E g1R g2R
  rw [h, e, first2_or, first2_or, first3_or, or0_pos rfl, or0_assoc, or0_assoc, or0_assoc]
theorem OwRow.app {T0 T1 T2 : TypeId} {base : Nat} {y : Yd} {A0 A1 A2 : Option Addr} {c0 c1 c2 g' cap' : Nat} {w w' : World} {z : List Pm} (h : OwRow T0 T1 T2 base y A0 A1 A2 c0 c1 c2 w) (hk : ∀ k t c, Blk w k t c → (Value.slice A2 y.p.length c2).ownBlock ≠ some k → Blk w' k t c) (h0 : T0 ≠ T2) (h1 : T1 ≠ T2) (hn : w'.ownsRow base T2 2 (.slice (some ⟨g', 0, none⟩) z.length cap') z.length (pms z)) : OwRow T0 T1 T2 base { y with p := z } A0 A1 (some ⟨g', 0, none⟩) c0 c1 cap' w' :=
  ⟨row_kept h.r0 fun k c hb => (hk k _ c hb (row_own_neW h.r2 hb h0)).trans hb.symm, row_kept h.r1 fun k c hb => (hk k _ c hb (row_own_neW h.r2 hb h1)).trans hb.symm, hn⟩
theorem pm_find (y : Yd) (nm : ByteArray) {n : Nat} (h : y.p.length = n) : decide (0 ≤ findI ((y.p.map Pm.n).take n) nm) = hasW (y.p.map Pm.n) nm := by
  rw [find_has, List.take_of_length_le (by simp [h])]
set_option maxRecDepth 100000 in
set_option maxHeartbeats 4000000 in
theorem rGrant_any (B : Nat) (A0 A1 A2 : Option Addr) (n0 n1 n2 c0 c1 c2 : Nat) (y : Yd) (w : World) (hY : YdAt w B A0 A1 A2 n0 n1 n2 y) (hB : B ≤ w.heap.size) (hP : Parts y) (nm sc : ByteArray) (hnm : nm.size ≤ maxLen) : Calls Tryz.prog 65 #[.agg #[.slice A0 n0 c0, .slice A1 n1 c1, .slice A2 n2 c2], .string nm, .string sc] w (MvR w (grantR y nm sc) (grantY y nm sc)) := by
  have hl0 := (sec_at hY.hs).1
  have hl1 := (sw_at hY.hw).1
  have hl2 := (pm_at hY.hp).1
  have h8 := hP.n8
  have h8' := hP.w8
  have h8'' := hP.p8
  have hbd := secAtB_bd y sc
  have HC := Lib.hid (fun W (hW : Below w.heap.size w W) => FindSec_any B A0 A1 A2 n0 n1 n2 c0 c1 c2 y sc W (hY.below (hW.mono hB)) (by have := hW.size; omega) (by omega))
  have HFp := Lib.hid (fun W (hW : Below w.heap.size w W) => FindPermit_any B A0 A1 A2 n0 n1 n2 c0 c1 c2 y nm n2 W (hY.below (hW.mono hB)) (by have := hW.size; omega) (Nat.le_refl _) (by unfold maxLen; omega))
  have HCN := Lib.hid (fun W => CheckName_any nm W hnm)
  have HFh := Lib.hid (pm_find y nm hl2)
  have HM : Hid (grantR y nm sc = or0 (g1R y nm sc) (g2R y sc)) := Lib.hid rfl
  have HM1 : Hid (g1R y nm sc = firstE [nameE nm, whenE (hasW (y.p.map Pm.n) nm) 9, whenE (decide (secAtB y sc < 0)) 10]) := Lib.hid rfl
  have HM2 : Hid (g2R y sc = firstE [whenE (!secB y (secAtB y sc)) 21, whenE ((n2 : Int) == 8) 5]) := by show _ = _; rw [g2R, hl2]
  rw [← HFh.out] at HM1
  clear HFh
  generalize findI ((y.p.map Pm.n).take n2) nm = fi at *
  have HW2 := Lib.hid (fun W => rWhen_any (decide (0 ≤ fi)) 9 W)
  have HW3 := Lib.hid (fun W => rWhen_any (decide (secAtB y sc < 0)) 10 W)
  generalize nameE nm = a1 at *
  generalize ha2 : whenE (decide (0 ≤ fi)) 9 = a2 at *
  clear ha2
  by_cases hg1 : g1R y nm sc = 0
  case neg =>
    have HR : Hid (grantR y nm sc = g1R y nm sc) := by show _ = _; rw [HM.out, or0_neg hg1]
    rw [HR.out]
    generalize ha3 : whenE (decide (secAtB y sc < 0)) 10 = a3 at *
    generalize secAtB y sc = si at *
    clear hY hP hbd HM HM2 HR ha3 hl0 hl1 hl2
    generalize g1R y nm sc = ee at *
    have HEQ := Lib.hid HM1.out.symm
    clear HM1
    go_enter Tryz.func65, Tryz.ntmps65
    go_wp2_with fail
    refine (HC.out _ bl_).mono ?_
    (rintro e w1 ⟨rfl, hb1⟩; have hs1 := hb1.size; (try simp at hs1))
    obtain ⟨hc1, hf1⟩ := ifs_of hb1; have hs1 := hb1.size; (try simp at hs1)
    go_wp2_with fail
    (refine wp_region_calm [] [0, 1, 2, 3, 4, 5, 6, 7, 8, 9, 10, 11, 12] 3 (by kernel_rfl) rfl (by kernel_rfl) (by kernel_rfl) (by kernel_rfl) ?_; simp only [pickB, List.filterMap_cons, List.filterMap_nil, List.getElem?_toArray, List.getElem?_cons_zero, List.getElem?_cons_succ]; (repeat (first | ((with_reducible refine quietL_plain rfl (fun K hK => ?_)); (apply Exists.intro; refine ⟨fun wx hx => ?_, ?_⟩; (· (have hcx := ifs_ex hx); simp [go_sem, *, ↓IntWalk.iteOmega] <;> (first | rfl | exact ⟨rfl, rfl⟩ | (have hbx := Ex.belowW hx; have hby : Below w.heap.size w wx := bl_; first | (with_reducible exact calls_B (calls_below (HW2.out _))) | (with_reducible exact calls_B (calls_below (HW3.out _))) | (with_reducible exact calls_B (calls_below (HCN.out _))) | (with_reducible exact calls_B (HFp.out _ (by assumption)))))); (simp only [Act.put, List.setIfInBounds_toArray, List.set_cons_zero, List.set_cons_succ]; refine hK _ ?_; clear hK K))) | ((with_reducible refine quietL_skip (by with_unfolding_all rfl) ?_); simp only [Act.put, List.setIfInBounds_toArray, List.set_cons_zero, List.set_cons_succ]) | ((with_reducible refine quietL_want (by with_unfolding_all rfl) (fun K hK => ?_)); (apply Exists.intro; refine ⟨fun wx hx => ?_, ?_⟩; (· (have hcx := ifs_ex hx); simp [go_sem, *, ↓IntWalk.iteOmega] <;> (first | rfl | exact ⟨rfl, rfl⟩ | (have hbx := Ex.belowW hx; have hby : Below w.heap.size w wx := bl_; first | (with_reducible exact calls_B (calls_below (HW2.out _))) | (with_reducible exact calls_B (calls_below (HW3.out _))) | (with_reducible exact calls_B (calls_below (HCN.out _))) | (with_reducible exact calls_B (HFp.out _ (by assumption)))))); (simp only [Act.put, List.setIfInBounds_toArray, List.set_cons_zero, List.set_cons_succ]; refine hK _ ?_; clear hK K))))); refine quietL_nil ?_)
    (refine anyB_one (i := 13) (by kernel_rfl) rfl rfl ?_; intro w7 hb7 K hK; obtain ⟨hc7, hf7⟩ := ifs_of hb7; have hs7 := hb7.size; (try simp at hs7); go_wp2; refine ⟨xs_, ?_⟩)
    (refine anyB_one (i := 14) (by kernel_rfl) rfl rfl ?_; intro w8 hb8 K hK; obtain ⟨hc8, hf8⟩ := ifs_of hb8; have hs8 := hb8.size; (try simp at hs8); go_wp2_with fail; refine (rFirst_any (w7.heap.size + 1) _ 3 3 [a1, a2, a3] _ ((by simpa using Reads.new (size := 1) w7 (([a1, a2, a3]).map (.int .i64)).toArray 3 3 rfl : Reads (w7.alloc (.cells (([a1, a2, a3]).map (.int .i64)).toArray 3)) (w7.heap.size + 1) 1 (some ⟨w7.heap.size, 0, none⟩) 3 (([a1, a2, a3]).map (.int .i64))).below (hb8.mono (by simp))) (by unfold maxLen; decide)).mono ?_; rintro e w8' ⟨rfl, rfl⟩; go_wp2; refine ⟨xs_, ?_⟩)
    rw [HEQ.out]
    (refine anyB_one (i := 15) (by kernel_rfl) rfl rfl ?_; intro w9 hb9 K hK; obtain ⟨hc9, hf9⟩ := ifs_of hb9; have hs9 := hb9.size; (try simp at hs9); go_wp2; refine ⟨xs_, ?_⟩)
    (refine anyB_end (by kernel_rfl) ?_; intro wa hba; obtain ⟨hca, hfa⟩ := ifs_of hba; have hsa := hba.size; (try simp at hsa); simp only [Calm]; go_wp2_with fail)
    refine bodyPost_ret (v := .tuple #[zeroY, .int .i64 ee]) ?_ rfl (Or.inr ⟨hg1, rfl, bl_⟩)
    have ck := (bk_ : Blk wa (w.heap.size + 1) 26 #[.slice none 0 0, .slice none 0 0, .slice none 0 0])
    have ck := (((ck.set_ 0 (.slice none 0 0)).set_ 1 (.slice none 0 0)).set_ 2 (.slice none 0 0)).cell
    simp [results, Tryz.results65, go_sem, zeroY, ck]
  case pos =>
    have hge : 0 ≤ secAtB y sc := by
      have h1 := HM1.out
      rw [hg1, first3_or] at h1
      have h2 := whenE_zero (by decide) (or0_zero (or0_zero h1.symm).2).2
      simpa using h2
    have hin := (secAtB_bd y sc).2 hge
    have HU := Lib.hid (fun W (hW : Below w.heap.size w W) => IsSecured_any B A0 A1 A2 n0 n1 n2 c0 c1 c2 y W (hY.below (hW.mono hB)) (by have := hW.size; omega) hP _ hin)
    have HOw := Lib.hid (fun W (hW : Below w.heap.size w W) => rOwn_any B A0 A1 A2 n0 n1 n2 c0 c1 c2 y W (hY.below (hW.mono hB)) (by have := hW.size; omega) (by omega) (by omega) (by omega))
    have HR : Hid (grantR y nm sc = g2R y sc) := by show _ = _; rw [HM.out, or0_pos hg1]
    rw [HR.out]
    rw [hg1] at HM1
    have hlt : ¬ secAtB y sc < 0 := by omega
    have HWa := Lib.hid (fun W => rWhen_any (!secB y (secAtB y sc)) 21 W)
    have HWb := Lib.hid (fun W => rWhen_any ((n2 : Int) == 8) 5 W)
    have HGY : Hid (grantY y nm sc = { y with p := y.p ++ [⟨nm, secAtB y sc⟩] }) := Lib.hid rfl
    have HL2 := Lib.hid hl2
    generalize ha3 : whenE (decide (secAtB y sc < 0)) 10 = a3 at *
    clear ha3
    have HEQ := Lib.hid HM1.out.symm
    clear hY hP hbd HM HM1 HR hg1 hge hin hl0 hl1 hl2
    generalize whenE (!secB y (secAtB y sc)) 21 = b1 at *
    generalize whenE ((n2 : Int) == 8) 5 = b2 at *
    generalize secB y (secAtB y sc) = sq at *
    have HEQ2 := Lib.hid HM2.out.symm
    clear HM2
    generalize g2R y sc = g2 at *
    by_cases hg2 : g2 = 0
    case neg =>
      generalize grantY y nm sc = zy at *
      clear HGY HOw
      generalize secAtB y sc = si at *
      go_enter Tryz.func65, Tryz.ntmps65
      go_wp2_with fail
      refine (HC.out _ bl_).mono ?_
      (rintro e w1 ⟨rfl, hb1⟩; have hs1 := hb1.size; (try simp at hs1))
      obtain ⟨hc1, hf1⟩ := ifs_of hb1; have hs1 := hb1.size; (try simp at hs1)
      go_wp2_with fail
      (refine wp_region_calm [] [0, 1, 2, 3, 4, 5, 6, 7, 8, 9, 10, 11, 12] 3 (by kernel_rfl) rfl (by kernel_rfl) (by kernel_rfl) (by kernel_rfl) ?_; simp only [pickB, List.filterMap_cons, List.filterMap_nil, List.getElem?_toArray, List.getElem?_cons_zero, List.getElem?_cons_succ]; (repeat (first | ((with_reducible refine quietL_plain rfl (fun K hK => ?_)); (apply Exists.intro; refine ⟨fun wx hx => ?_, ?_⟩; (· (have hcx := ifs_ex hx); simp [go_sem, *, ↓IntWalk.iteOmega] <;> (first | rfl | exact ⟨rfl, rfl⟩ | (have hbx := Ex.belowW hx; have hby : Below w.heap.size w wx := bl_; first | (with_reducible exact calls_B (calls_below (HW2.out _))) | (with_reducible exact calls_B (calls_below (HW3.out _))) | (with_reducible exact calls_B (calls_below (HCN.out _))) | (with_reducible exact calls_B (HFp.out _ (by assumption)))))); (simp only [Act.put, List.setIfInBounds_toArray, List.set_cons_zero, List.set_cons_succ]; refine hK _ ?_; clear hK K))) | ((with_reducible refine quietL_skip (by with_unfolding_all rfl) ?_); simp only [Act.put, List.setIfInBounds_toArray, List.set_cons_zero, List.set_cons_succ]) | ((with_reducible refine quietL_want (by with_unfolding_all rfl) (fun K hK => ?_)); (apply Exists.intro; refine ⟨fun wx hx => ?_, ?_⟩; (· (have hcx := ifs_ex hx); simp [go_sem, *, ↓IntWalk.iteOmega] <;> (first | rfl | exact ⟨rfl, rfl⟩ | (have hbx := Ex.belowW hx; have hby : Below w.heap.size w wx := bl_; first | (with_reducible exact calls_B (calls_below (HW2.out _))) | (with_reducible exact calls_B (calls_below (HW3.out _))) | (with_reducible exact calls_B (calls_below (HCN.out _))) | (with_reducible exact calls_B (HFp.out _ (by assumption)))))); (simp only [Act.put, List.setIfInBounds_toArray, List.set_cons_zero, List.set_cons_succ]; refine hK _ ?_; clear hK K))))); refine quietL_nil ?_)
      (refine anyB_one (i := 13) (by kernel_rfl) rfl rfl ?_; intro w7 hb7 K hK; obtain ⟨hc7, hf7⟩ := ifs_of hb7; have hs7 := hb7.size; (try simp at hs7); go_wp2; refine ⟨xs_, ?_⟩)
      (refine anyB_one (i := 14) (by kernel_rfl) rfl rfl ?_; intro w8 hb8 K hK; obtain ⟨hc8, hf8⟩ := ifs_of hb8; have hs8 := hb8.size; (try simp at hs8); go_wp2_with fail; refine (rFirst_any (w7.heap.size + 1) _ 3 3 [a1, a2, a3] _ ((by simpa using Reads.new (size := 1) w7 (([a1, a2, a3]).map (.int .i64)).toArray 3 3 rfl : Reads (w7.alloc (.cells (([a1, a2, a3]).map (.int .i64)).toArray 3)) (w7.heap.size + 1) 1 (some ⟨w7.heap.size, 0, none⟩) 3 (([a1, a2, a3]).map (.int .i64))).below (hb8.mono (by simp))) (by unfold maxLen; decide)).mono ?_; rintro e w8' ⟨rfl, rfl⟩; go_wp2; refine ⟨xs_, ?_⟩)
      rw [HEQ.out]
      (refine anyB_one (i := 15) (by kernel_rfl) rfl rfl ?_; intro w9 hb9 K hK; obtain ⟨hc9, hf9⟩ := ifs_of hb9; have hs9 := hb9.size; (try simp at hs9); go_wp2; refine ⟨xs_, ?_⟩)
      (refine anyB_end (by kernel_rfl) ?_; intro wa hba; obtain ⟨hca, hfa⟩ := ifs_of hba; have hsa := hba.size; (try simp at hsa); simp only [Calm]; go_wp2_with fail)
      (refine wp_region_calm [] [0, 1, 2, 3, 4, 5, 6, 7, 8, 9] 3 (by kernel_rfl) rfl (by kernel_rfl) (by kernel_rfl) (by kernel_rfl) ?_; simp only [pickB, List.filterMap_cons, List.filterMap_nil, List.getElem?_toArray, List.getElem?_cons_zero, List.getElem?_cons_succ]; (repeat (first | ((with_reducible refine quietL_plain rfl (fun K hK => ?_)); (apply Exists.intro; refine ⟨fun wx hx => ?_, ?_⟩; (· (have hcx := ifs_ex hx); simp [go_sem, *, ↓IntWalk.iteOmega] <;> (first | rfl | exact ⟨rfl, rfl⟩ | (have hbx := Ex.belowW hx; have hby : Below w.heap.size w wx := bl_; first | (with_reducible exact calls_B (calls_below (HWa.out _))) | (with_reducible exact calls_B (calls_below (HWb.out _))) | exact calls_B (HU.out _ (by assumption))))); (simp only [Act.put, List.setIfInBounds_toArray, List.set_cons_zero, List.set_cons_succ]; refine hK _ ?_; clear hK K))) | ((with_reducible refine quietL_skip (by with_unfolding_all rfl) ?_); simp only [Act.put, List.setIfInBounds_toArray, List.set_cons_zero, List.set_cons_succ]) | ((with_reducible refine quietL_want (by with_unfolding_all rfl) (fun K hK => ?_)); (apply Exists.intro; refine ⟨fun wx hx => ?_, ?_⟩; (· (have hcx := ifs_ex hx); simp [go_sem, *, ↓IntWalk.iteOmega] <;> (first | rfl | exact ⟨rfl, rfl⟩ | (have hbx := Ex.belowW hx; have hby : Below w.heap.size w wx := bl_; first | (with_reducible exact calls_B (calls_below (HWa.out _))) | (with_reducible exact calls_B (calls_below (HWb.out _))) | exact calls_B (HU.out _ (by assumption))))); (simp only [Act.put, List.setIfInBounds_toArray, List.set_cons_zero, List.set_cons_succ]; refine hK _ ?_; clear hK K))))); refine quietL_nil ?_)
      (refine anyB_one (i := 10) (by kernel_rfl) rfl rfl ?_; intro wb hbb K hK; obtain ⟨hcb, hfb⟩ := ifs_of hbb; have hsb := hbb.size; (try simp at hsb); go_wp2; refine ⟨xs_, ?_⟩)
      (refine anyB_one (i := 11) (by kernel_rfl) rfl rfl ?_; intro wc hbc K hK; obtain ⟨hcc, hfc⟩ := ifs_of hbc; have hsc := hbc.size; (try simp at hsc); go_wp2_with fail; refine (rFirst_any (wb.heap.size + 1) _ 2 2 [b1, b2] _ ((by simpa using Reads.new (size := 1) wb (([b1, b2]).map (.int .i64)).toArray 3 2 rfl : Reads (wb.alloc (.cells (([b1, b2]).map (.int .i64)).toArray 3)) (wb.heap.size + 1) 1 (some ⟨wb.heap.size, 0, none⟩) 2 (([b1, b2]).map (.int .i64))).below (hbc.mono (by simp))) (by unfold maxLen; decide)).mono ?_; rintro e wc' ⟨rfl, rfl⟩; go_wp2; refine ⟨xs_, ?_⟩)
      rw [HEQ2.out]
      (refine anyB_one (i := 12) (by kernel_rfl) rfl rfl ?_; intro wd hbd K hK; obtain ⟨hcd, hfd⟩ := ifs_of hbd; have hsd := hbd.size; (try simp at hsd); go_wp2; refine ⟨xs_, ?_⟩)
      (refine anyB_end (by kernel_rfl) ?_; intro we hbe; obtain ⟨hce, hfe⟩ := ifs_of hbe; have hse := hbe.size; (try simp at hse); simp only [Calm]; go_wp2_with fail)
      refine bodyPost_ret (v := .tuple #[zeroY, .int .i64 g2]) ?_ rfl (Or.inr ⟨hg2, rfl, bl_⟩)
      have ck := (bk_ : Blk we (w.heap.size + 1) 26 #[.slice none 0 0, .slice none 0 0, .slice none 0 0])
      have ck := (((ck.set_ 0 (.slice none 0 0)).set_ 1 (.slice none 0 0)).set_ 2 (.slice none 0 0)).cell
      simp [results, Tryz.results65, go_sem, zeroY, ck]
    case pos =>
      subst hg2
      generalize secAtB y sc = si at *
      go_enter Tryz.func65, Tryz.ntmps65
      go_wp2_with fail
      refine (HC.out _ bl_).mono ?_
      (rintro e w1 ⟨rfl, hb1⟩; have hs1 := hb1.size; (try simp at hs1))
      obtain ⟨hc1, hf1⟩ := ifs_of hb1; have hs1 := hb1.size; (try simp at hs1)
      go_wp2_with fail
      (refine wp_region_calm [] [0, 1, 2, 3, 4, 5, 6, 7, 8, 9, 10, 11, 12] 3 (by kernel_rfl) rfl (by kernel_rfl) (by kernel_rfl) (by kernel_rfl) ?_; simp only [pickB, List.filterMap_cons, List.filterMap_nil, List.getElem?_toArray, List.getElem?_cons_zero, List.getElem?_cons_succ]; (repeat (first | ((with_reducible refine quietL_plain rfl (fun K hK => ?_)); (apply Exists.intro; refine ⟨fun wx hx => ?_, ?_⟩; (· (have hcx := ifs_ex hx); simp [go_sem, *, ↓IntWalk.iteOmega] <;> (first | rfl | exact ⟨rfl, rfl⟩ | (have hbx := Ex.belowW hx; have hby : Below w.heap.size w wx := bl_; first | (with_reducible exact calls_B (calls_below (HW2.out _))) | (with_reducible exact calls_B (calls_below (HW3.out _))) | (with_reducible exact calls_B (calls_below (HCN.out _))) | (with_reducible exact calls_B (HFp.out _ (by assumption)))))); (simp only [Act.put, List.setIfInBounds_toArray, List.set_cons_zero, List.set_cons_succ]; refine hK _ ?_; clear hK K))) | ((with_reducible refine quietL_skip (by with_unfolding_all rfl) ?_); simp only [Act.put, List.setIfInBounds_toArray, List.set_cons_zero, List.set_cons_succ]) | ((with_reducible refine quietL_want (by with_unfolding_all rfl) (fun K hK => ?_)); (apply Exists.intro; refine ⟨fun wx hx => ?_, ?_⟩; (· (have hcx := ifs_ex hx); simp [go_sem, *, ↓IntWalk.iteOmega] <;> (first | rfl | exact ⟨rfl, rfl⟩ | (have hbx := Ex.belowW hx; have hby : Below w.heap.size w wx := bl_; first | (with_reducible exact calls_B (calls_below (HW2.out _))) | (with_reducible exact calls_B (calls_below (HW3.out _))) | (with_reducible exact calls_B (calls_below (HCN.out _))) | (with_reducible exact calls_B (HFp.out _ (by assumption)))))); (simp only [Act.put, List.setIfInBounds_toArray, List.set_cons_zero, List.set_cons_succ]; refine hK _ ?_; clear hK K))))); refine quietL_nil ?_)
      (refine anyB_one (i := 13) (by kernel_rfl) rfl rfl ?_; intro w7 hb7 K hK; obtain ⟨hc7, hf7⟩ := ifs_of hb7; have hs7 := hb7.size; (try simp at hs7); go_wp2; refine ⟨xs_, ?_⟩)
      (refine anyB_one (i := 14) (by kernel_rfl) rfl rfl ?_; intro w8 hb8 K hK; obtain ⟨hc8, hf8⟩ := ifs_of hb8; have hs8 := hb8.size; (try simp at hs8); go_wp2_with fail; refine (rFirst_any (w7.heap.size + 1) _ 3 3 [a1, a2, a3] _ ((by simpa using Reads.new (size := 1) w7 (([a1, a2, a3]).map (.int .i64)).toArray 3 3 rfl : Reads (w7.alloc (.cells (([a1, a2, a3]).map (.int .i64)).toArray 3)) (w7.heap.size + 1) 1 (some ⟨w7.heap.size, 0, none⟩) 3 (([a1, a2, a3]).map (.int .i64))).below (hb8.mono (by simp))) (by unfold maxLen; decide)).mono ?_; rintro e w8' ⟨rfl, rfl⟩; go_wp2; refine ⟨xs_, ?_⟩)
      rw [HEQ.out]
      (refine anyB_one (i := 15) (by kernel_rfl) rfl rfl ?_; intro w9 hb9 K hK; obtain ⟨hc9, hf9⟩ := ifs_of hb9; have hs9 := hb9.size; (try simp at hs9); go_wp2; refine ⟨xs_, ?_⟩)
      (refine anyB_end (by kernel_rfl) ?_; intro wa hba; obtain ⟨hca, hfa⟩ := ifs_of hba; have hsa := hba.size; (try simp at hsa); simp only [Calm]; go_wp2_with fail)
      (refine wp_region_calm [] [0, 1, 2, 3, 4, 5, 6, 7, 8, 9] 3 (by kernel_rfl) rfl (by kernel_rfl) (by kernel_rfl) (by kernel_rfl) ?_; simp only [pickB, List.filterMap_cons, List.filterMap_nil, List.getElem?_toArray, List.getElem?_cons_zero, List.getElem?_cons_succ]; (repeat (first | ((with_reducible refine quietL_plain rfl (fun K hK => ?_)); (apply Exists.intro; refine ⟨fun wx hx => ?_, ?_⟩; (· (have hcx := ifs_ex hx); simp [go_sem, *, ↓IntWalk.iteOmega] <;> (first | rfl | exact ⟨rfl, rfl⟩ | (have hbx := Ex.belowW hx; have hby : Below w.heap.size w wx := bl_; first | (with_reducible exact calls_B (calls_below (HWa.out _))) | (with_reducible exact calls_B (calls_below (HWb.out _))) | exact calls_B (HU.out _ (by assumption))))); (simp only [Act.put, List.setIfInBounds_toArray, List.set_cons_zero, List.set_cons_succ]; refine hK _ ?_; clear hK K))) | ((with_reducible refine quietL_skip (by with_unfolding_all rfl) ?_); simp only [Act.put, List.setIfInBounds_toArray, List.set_cons_zero, List.set_cons_succ]) | ((with_reducible refine quietL_want (by with_unfolding_all rfl) (fun K hK => ?_)); (apply Exists.intro; refine ⟨fun wx hx => ?_, ?_⟩; (· (have hcx := ifs_ex hx); simp [go_sem, *, ↓IntWalk.iteOmega] <;> (first | rfl | exact ⟨rfl, rfl⟩ | (have hbx := Ex.belowW hx; have hby : Below w.heap.size w wx := bl_; first | (with_reducible exact calls_B (calls_below (HWa.out _))) | (with_reducible exact calls_B (calls_below (HWb.out _))) | exact calls_B (HU.out _ (by assumption))))); (simp only [Act.put, List.setIfInBounds_toArray, List.set_cons_zero, List.set_cons_succ]; refine hK _ ?_; clear hK K))))); refine quietL_nil ?_)
      (refine anyB_one (i := 10) (by kernel_rfl) rfl rfl ?_; intro wb hbb K hK; obtain ⟨hcb, hfb⟩ := ifs_of hbb; have hsb := hbb.size; (try simp at hsb); go_wp2; refine ⟨xs_, ?_⟩)
      (refine anyB_one (i := 11) (by kernel_rfl) rfl rfl ?_; intro wc hbc K hK; obtain ⟨hcc, hfc⟩ := ifs_of hbc; have hsc := hbc.size; (try simp at hsc); go_wp2_with fail; refine (rFirst_any (wb.heap.size + 1) _ 2 2 [b1, b2] _ ((by simpa using Reads.new (size := 1) wb (([b1, b2]).map (.int .i64)).toArray 3 2 rfl : Reads (wb.alloc (.cells (([b1, b2]).map (.int .i64)).toArray 3)) (wb.heap.size + 1) 1 (some ⟨wb.heap.size, 0, none⟩) 2 (([b1, b2]).map (.int .i64))).below (hbc.mono (by simp))) (by unfold maxLen; decide)).mono ?_; rintro e wc' ⟨rfl, rfl⟩; go_wp2; refine ⟨xs_, ?_⟩)
      rw [HEQ2.out]
      (refine anyB_one (i := 12) (by kernel_rfl) rfl rfl ?_; intro wd hbd K hK; obtain ⟨hcd, hfd⟩ := ifs_of hbd; have hsd := hbd.size; (try simp at hsd); go_wp2; refine ⟨xs_, ?_⟩)
      (refine anyB_end (by kernel_rfl) ?_; intro we hbe; obtain ⟨hce, hfe⟩ := ifs_of hbe; have hse := hbe.size; (try simp at hse); simp only [Calm]; go_wp2_with fail)
      refine (HOw.out _ bl_).mono ?_
      rintro e wf ⟨D0, D1, D2, d0, d1, d2, rfl, hO, hbf⟩
      have hsf := hbf.size
      obtain ⟨hcf, hff⟩ := ifs_of hbf; have hsf := hbf.size; (try simp at hsf)
      have HOf := Lib.hid hO
      clear hO
      have HO0 := Lib.hid (HOf.out.kept (bl_ : Below wf.heap.size wf (wf.alloc (.cells #[.slice D0 y.s.length d0, .slice D1 y.w.length d1, .slice D2 y.p.length d2] 26))))
      have HZ0 := Lib.hid (show Blk (wf.alloc (.cells #[.slice D0 y.s.length d0, .slice D1 y.w.length d1, .slice D2 y.p.length d2] 26)) (w.heap.size + 1) 26 #[.slice none 0 0, .slice none 0 0, .slice none 0 0] from bk_)
      have HBf := Lib.hid (bl_ : Below w.heap.size w (wf.alloc (.cells #[.slice D0 y.s.length d0, .slice D1 y.w.length d1, .slice D2 y.p.length d2] 26)))
      go_wp2_with (at_builtin; refine wpList_app 24 72 2 24 elemPmR rfl (.tmp 56) (.tmp 60) rfl we.heap.size _ y.p.length _ rfl HO0.out.r2 1 (by show Value.slice (some ⟨wf.heap.size + 1, 0, none⟩) 1 1 = _; simp) rfl (by intro u hu; simp at hu; rcases hu with rfl | rfl <;> rfl) (by decide) ?h3 ?h4 ?h5 ?_)
      case h3 => unfold maxLen; omega
      case h4 => omega
      case h5 => simp; omega
      intro g' cap' w' hown' hb' hk' hs'
      have hown2 : w'.ownsRow we.heap.size 72 2 (.slice (some ⟨g', 0, none⟩) (y.p ++ [(⟨nm, si⟩ : Pm)]).length cap') (y.p ++ [(⟨nm, si⟩ : Pm)]).length (pms (y.p ++ [(⟨nm, si⟩ : Pm)])) := by
        rw [pms_snoc, List.length_append]
        exact hown'
      have hOn := HO0.out.app (z := y.p ++ [⟨nm, si⟩]) hk' (by decide) (by decide) hown2
      have b11 := hk' _ _ _ (Blk.new wf 26 #[.slice D0 y.s.length d0, .slice D1 y.w.length d1, .slice D2 y.p.length d2]) (row_own_neW HO0.out.r2 (Blk.new wf 26 _) (by decide))
      have bz := hk' _ _ _ HZ0.out (row_own_neW HO0.out.r2 HZ0.out (by decide))
      have hbl := HBf.out.trans (hb'.mono (by omega))
      have hnz : wf.heap.size ≠ w.heap.size + 1 := by omega
      have hO1 := hOn.far (i := 2) b11 (.slice (some ⟨g', 0, none⟩) (y.p.length + 1) cap') (by decide) (by decide) (by decide)
      have bz1 := bz.far (p := ⟨wf.heap.size, 2, none⟩) (fun e => hnz e.symm) (.slice (some ⟨g', 0, none⟩) (y.p.length + 1) cap')
      have hO6 := ((hO1.far (i := 0) bz1 (.slice D0 y.s.length d0) (by decide) (by decide) (by decide)).far (i := 1) (bz1.set_ 0 _) (.slice D1 y.w.length d1) (by decide) (by decide) (by decide)).far (i := 2) ((bz1.set_ 0 _).set_ 1 _) (.slice (some ⟨g', 0, none⟩) (y.p.length + 1) cap') (by decide) (by decide) (by decide)
      have hbl6 := (((hbl.setCell (p := ⟨wf.heap.size, 2, none⟩) (by simp; omega) (.slice (some ⟨g', 0, none⟩) (y.p.length + 1) cap')).setCell (p := ⟨w.heap.size + 1, 0, none⟩) (by simp) (.slice D0 y.s.length d0)).setCell (p := ⟨w.heap.size + 1, 1, none⟩) (by simp) (.slice D1 y.w.length d1)).setCell (p := ⟨w.heap.size + 1, 2, none⟩) (by simp) (.slice (some ⟨g', 0, none⟩) (y.p.length + 1) cap')
      have ck := (((bz1.set_ 0 (.slice D0 y.s.length d0)).set_ 1 (.slice D1 y.w.length d1)).set_ 2 (.slice (some ⟨g', 0, none⟩) (y.p.length + 1) cap')).cell
      have HO6 := Lib.hid (And.intro hO6 hbl6)
      have c11 := b11.cell
      have f11 := b11.frozen
      have l11 := b11.lt
      have cz := bz.cell
      have fz := bz.frozen
      have lz := bz.lt
      clear hO6 hbl6 hO1 bz1 hOn hbl b11 bz hk' hown' hown2 hb'
      go_wp2
      refine bodyPost_ret (v := .tuple #[.agg #[.slice D0 y.s.length d0, .slice D1 y.w.length d1, .slice (some ⟨g', 0, none⟩) (y.p.length + 1) cap'], .int .i64 0]) ?_ rfl (YdRRes.mv (Or.inl ⟨rfl, D0, D1, some ⟨g', 0, none⟩, d0, d1, cap', ?_, ?_, HO6.out.2⟩))
      · simp [results, Tryz.results65, go_sem, ck]
      · rw [HGY.out]
        show Ending.returned (.tuple #[.agg #[_, _, .slice _ (y.p.length + 1) _], _]) = .returned (.tuple #[.agg #[_, _, .slice _ (y.p ++ [_]).length _], _])
        rw [List.length_append]; rfl
      · rw [HGY.out]
        exact HO6.out.1.low (by omega)
end Go.Proofs.YtphlojgmfkgeiaaGreatDoor
