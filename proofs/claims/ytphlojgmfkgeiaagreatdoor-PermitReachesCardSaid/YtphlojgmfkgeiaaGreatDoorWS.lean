/- Reference: goals. -/
import Derived.Test.YtphlojgmfkgeiaaGreatDoorKo
import Derived.Test.YtphlojgmfkgeiaaGreatDoorKg
import Derived.Test.YtphlojgmfkgeiaaGreatDoorKk
namespace Go.Proofs.YtphlojgmfkgeiaaGreatDoor
open Go.RowKit Go.Sort Go.Shelf
set_option linter.unusedSimpArgs false
set_option linter.unusedVariables false
attribute [local go_sem] cell_if frozen_if grow_cell
theorem find_idx {α : Type} (f : α → ByteArray) (s : ByteArray) : ∀ (l : List α) (k : Nat), findFrom k (l.map f) s = idxP (fun x => (f x).toList == s.toList) k l
  | [], _ => rfl
  | x :: r, k => by
    rw [List.map_cons, findFrom_cons, idxP_cons, find_idx f s r (k + 1)]
theorem sec_find (y : Yd) (nm : ByteArray) {n : Nat} (h : y.s.length = n) : findI ((y.s.map Sec.n).take n) nm = secAtB y nm := by
  rw [List.take_of_length_le (by simp [h])]
  exact find_idx _ _ _ _
theorem FindSec_any (B : Nat) (A0 A1 A2 : Option Addr) (n0 n1 n2 c0 c1 c2 : Nat) (y : Yd) (nm : ByteArray) (w : World) (hY : YdAt w B A0 A1 A2 n0 n1 n2 y) (hB : B ≤ w.heap.size) (h9 : n0 ≤ 9) :
    Calls Tryz.prog 91 #[.agg #[.slice A0 n0 c0, .slice A1 n1 c1, .slice A2 n2 c2], .string nm, .int .i64 n0] w fun e w' => e = .returned (.int .i64 (secAtB y nm)) ∧ Below w.heap.size w w' := by
  have h := FindSection_any B A0 A1 A2 n0 n1 n2 c0 c1 c2 y nm n0 w hY hB (Nat.le_refl _) (by unfold maxLen; omega)
  rw [sec_find y nm (sec_at hY.hs).1] at h
  exact h
theorem goal_kinds {gk : ByteArray} (h : goalB gk = true) : gk.toList = energizedL ∨ gk.toList = deadL ∨ gk.toList = securedL := by
  unfold goalB hasW goalsL at h
  simp only [List.any_cons, List.any_nil, Bool.or_false, Bool.or_eq_true] at h
  rcases h with h | h | h
  · left; rw [← eq_of_beq h]; decide +kernel
  · right; left; rw [← eq_of_beq h]; decide +kernel
  · right; right; rw [← eq_of_beq h]; decide +kernel
theorem those_hasR {p : Int → Bool} {n : Nat} {i : Int} (hi : i ∈ rng n) : hasI (those n p) i = p i := by
  rw [Bool.eq_iff_iff, hasI_iff]
  unfold those
  rw [List.mem_filter]
  exact ⟨fun h => h.2, fun h => ⟨hi, h⟩⟩
set_option maxRecDepth 100000 in
set_option maxHeartbeats 2000000 in
theorem rHolds_any (B : Nat) (A0 A1 A2 : Option Addr) (n0 n1 n2 c0 c1 c2 : Nat) (y : Yd) (w : World) (hY : YdAt w B A0 A1 A2 n0 n1 n2 y) (hB : B ≤ w.heap.size) (hP : Parts y) (gk gs : ByteArray) (hk : goalB gk = true) (h0 : 0 ≤ secAtB y gs) :
    Calls Tryz.prog 92 #[.agg #[.slice A0 n0 c0, .slice A1 n1 c1, .slice A2 n2 c2], .agg #[.string gk, .string gs]] w fun e w' => e = .returned (.bool (holdsB gk gs y)) ∧ Below w.heap.size w w' := by
  have hl0 := (sec_at hY.hs).1
  have h8 := hP.n8
  have hin := (secAtB_bd y gs).2 h0
  have HF := Lib.hid (fun W (hW : Below w.heap.size w W) => FindSec_any B A0 A1 A2 n0 n1 n2 c0 c1 c2 y gs W (hY.below (hW.mono hB)) (by have := hW.size; omega) (by omega))
  have HE := Lib.hid (fun W (hW : Below w.heap.size w W) => IsEnergized_any B A0 A1 A2 n0 n1 n2 c0 c1 c2 y W (hY.below (hW.mono hB)) (by have := hW.size; omega) hP _ hin)
  rcases goal_kinds hk with e | e | e
  · have HS := Lib.hid (fun W (hW : Below w.heap.size w W) => (Sections_en B A0 A1 A2 n0 n1 n2 c0 c1 c2 y W (hY.below (hW.mono hB)) (by have := hW.size; omega) hP gk (by rw [e]; decide +kernel) (by rw [e]; decide +kernel) (by rw [e]; decide +kernel) (by rw [e]; decide +kernel)).mono fun _ _ h => h.res)
    have HV : Hid (holdsB gk gs y = hasI (those y.s.length (energB y)) (secAtB y gs)) := by show _ = _; rw [those_hasR hin]; unfold holdsB; rw [e]; rfl
    have hl := those_len y.s.length (energB y)
    have e1 : (gk.toList == [100, 101, 97, 100]) = false := by rw [e]; decide +kernel
    rw [HV.out]
    generalize those y.s.length (energB y) = l at *
    generalize secAtB y gs = i at *
    clear hY hP HE HV hk h0 hin e
    go_enter Tryz.func92, Tryz.ntmps92
    go_wp2_with fail
    refine (HF.out _ bl_).mono ?_
    (rintro e w1 ⟨rfl, hb1⟩; have hs1 := hb1.size; (try simp at hs1))
    obtain ⟨hc1, hf1⟩ := ifs_of hb1; have hs1 := hb1.size; (try simp at hs1)
    go_wp2_with fail
    refine (HS.out _ bl_).mono ?_
    (rintro e wb ⟨Ab, capb, rfl, hrb, hbb⟩; have hsb := hbb.size; have HRb := Lib.hid hrb; clear hrb; (try simp at hsb))
    go_wp2_with fail
    refine (HasInt_any _ Ab l.length capb l i _ HRb.out (by unfold maxLen; omega)).mono ?_
    rintro e w3 ⟨rfl, rfl⟩
    go_wp2_with fail
    go_ret
    exact ⟨rfl, bl_⟩
  · have HV : Hid (holdsB gk gs y = !energB y (secAtB y gs)) := by show _ = _; unfold holdsB; rw [e]; rfl
    have e1 : (gk.toList == [100, 101, 97, 100]) = true := by rw [e]; decide +kernel
    rw [HV.out]
    generalize energB y (secAtB y gs) = q at *
    generalize secAtB y gs = i at *
    clear hY hP HV hk h0 hin e
    go_enter Tryz.func92, Tryz.ntmps92
    go_wp2_with fail
    refine (HF.out _ bl_).mono ?_
    (rintro e w1 ⟨rfl, hb1⟩; have hs1 := hb1.size; (try simp at hs1))
    obtain ⟨hc1, hf1⟩ := ifs_of hb1; have hs1 := hb1.size; (try simp at hs1)
    go_wp2_with fail
    refine (HE.out _ bl_).mono ?_
    (rintro e w2 ⟨rfl, hb2⟩; have hs2 := hb2.size; (try simp at hs2))
    go_wp2_with fail
    go_ret
    exact ⟨rfl, bl_⟩
  · have HS := Lib.hid (fun W (hW : Below w.heap.size w W) => (Sections_sc B A0 A1 A2 n0 n1 n2 c0 c1 c2 y W (hY.below (hW.mono hB)) (by have := hW.size; omega) hP gk (by rw [e]; decide +kernel) (by rw [e]; decide +kernel) (by rw [e]; decide +kernel) (by rw [e]; decide +kernel)).mono fun _ _ h => h.res)
    have HV : Hid (holdsB gk gs y = hasI (those y.s.length (secB y)) (secAtB y gs)) := by show _ = _; rw [those_hasR hin]; unfold holdsB; rw [e]; rfl
    have hl := those_len y.s.length (secB y)
    have e1 : (gk.toList == [100, 101, 97, 100]) = false := by rw [e]; decide +kernel
    rw [HV.out]
    generalize those y.s.length (secB y) = l at *
    generalize secAtB y gs = i at *
    clear hY hP HE HV hk h0 hin e
    go_enter Tryz.func92, Tryz.ntmps92
    go_wp2_with fail
    refine (HF.out _ bl_).mono ?_
    (rintro e w1 ⟨rfl, hb1⟩; have hs1 := hb1.size; (try simp at hs1))
    obtain ⟨hc1, hf1⟩ := ifs_of hb1; have hs1 := hb1.size; (try simp at hs1)
    go_wp2_with fail
    refine (HS.out _ bl_).mono ?_
    (rintro e wb ⟨Ab, capb, rfl, hrb, hbb⟩; have hsb := hbb.size; have HRb := Lib.hid hrb; clear hrb; (try simp at hsb))
    go_wp2_with fail
    refine (HasInt_any _ Ab l.length capb l i _ HRb.out (by unfold maxLen; omega)).mono ?_
    rintro e w3 ⟨rfl, rfl⟩
    go_wp2_with fail
    go_ret
    exact ⟨rfl, bl_⟩
set_option maxRecDepth 100000 in
set_option maxHeartbeats 2000000 in
theorem rCheckGoal_any (B : Nat) (A0 A1 A2 : Option Addr) (n0 n1 n2 c0 c1 c2 : Nat) (y : Yd) (w : World) (hY : YdAt w B A0 A1 A2 n0 n1 n2 y) (hB : B ≤ w.heap.size) (h9 : n0 ≤ 9) (gk gs : ByteArray) :
    Calls Tryz.prog 23 #[.agg #[.slice A0 n0 c0, .slice A1 n1 c1, .slice A2 n2 c2], .agg #[.string gk, .string gs]] w fun e w' => e = .returned (.int .i64 (firstE [whenE (!goalB gk) 13, whenE (decide (secAtB y gs < 0)) 10])) ∧ Below w.heap.size w w' := by
  have HF := Lib.hid (fun W (hW : Below w.heap.size w W) => FindSec_any B A0 A1 A2 n0 n1 n2 c0 c1 c2 y gs W (hY.below (hW.mono hB)) (by have := hW.size; omega) h9)
  have HHW := Lib.hid (fun W g (hr : Reads W W.heap.size 1 (some ⟨g, 0, none⟩) 3 (goalsL.map .string)) => HasWord_any W.heap.size (some ⟨g, 0, none⟩) 3 3 goalsL gk W hr (by unfold maxLen; decide))
  have HW1 := Lib.hid (fun W => rWhen_any (!goalB gk) 13 W)
  have HW2 := Lib.hid (fun W => rWhen_any (decide (secAtB y gs < 0)) 10 W)
  unfold goalB at *
  clear hY
  generalize hasW goalsL gk = q at *
  generalize whenE (!q) 13 = a1 at *
  generalize whenE (decide (secAtB y gs < 0)) 10 = a2 at *
  generalize secAtB y gs = i at *
  go_enter Tryz.func23, Tryz.ntmps23
  go_wp2_with fail
  (refine wp_region_calm [] [1, 2, 6, 7, 8, 9, 10, 11] 10 (by kernel_rfl) rfl (by kernel_rfl) (by kernel_rfl) (by kernel_rfl) ?_; simp only [pickB, List.filterMap_cons, List.filterMap_nil, List.getElem?_toArray, List.getElem?_cons_zero, List.getElem?_cons_succ]; (repeat (first | ((with_reducible refine quietL_plain rfl (fun K hK => ?_)); (apply Exists.intro; refine ⟨fun wx hx => ?_, ?_⟩; (· (have hcx := ifs_ex hx); simp [go_sem, *, ↓IntWalk.iteOmega] <;> (first | rfl | exact ⟨rfl, rfl⟩ | fail)); (simp only [Act.put, List.setIfInBounds_toArray, List.set_cons_zero, List.set_cons_succ]; refine hK _ ?_; clear hK K))) | ((with_reducible refine quietL_skip (by with_unfolding_all rfl) ?_); simp only [Act.put, List.setIfInBounds_toArray, List.set_cons_zero, List.set_cons_succ]) | ((with_reducible refine quietL_want (by with_unfolding_all rfl) (fun K hK => ?_)); (apply Exists.intro; refine ⟨fun wx hx => ?_, ?_⟩; (· (have hcx := ifs_ex hx); simp [go_sem, *, ↓IntWalk.iteOmega] <;> (first | rfl | exact ⟨rfl, rfl⟩ | fail)); (simp only [Act.put, List.setIfInBounds_toArray, List.set_cons_zero, List.set_cons_succ]; refine hK _ ?_; clear hK K))))); refine quietL_nil ?_)
  (refine anyB_one (i := 0) (by kernel_rfl) rfl rfl ?_; intro w2 hb2 K hK; obtain ⟨hc2, hf2⟩ := ifs_of hb2; have hs2 := hb2.size; (try simp at hs2); go_wp2; refine ⟨xs_, ?_⟩)
  (refine anyB_one (i := 3) (by kernel_rfl) rfl rfl ?_; intro w3 hb3 K hK; obtain ⟨hc3, hf3⟩ := ifs_of hb3; have hs3 := hb3.size; (try simp at hs3); go_wp2_with fail)
  refine (HHW.out _ w2.heap.size (((Reads.new (size := 1) w2 #[Value.string ⟨#[101, 110, 101, 114, 103, 105, 122, 101, 100]⟩, .string ⟨#[100, 101, 97, 100]⟩, .string ⟨#[115, 101, 99, 117, 114, 101, 100]⟩] 9 3 rfl : Reads (w2.alloc (.cells #[Value.string ⟨#[101, 110, 101, 114, 103, 105, 122, 101, 100]⟩, .string ⟨#[100, 101, 97, 100]⟩, .string ⟨#[115, 101, 99, 117, 114, 101, 100]⟩] 9)) (w2.heap.size + 1) 1 (some ⟨w2.heap.size, 0, none⟩) 3 (goalsL.map .string)).below (hb3.mono (by simp))).more (by simpa using hs3))).mono ?_
  rintro e w4 ⟨rfl, rfl⟩
  (go_wp2; refine ⟨xs_, ?_⟩)
  (refine anyB_one (i := 4) (by kernel_rfl) rfl rfl ?_; intro w5 hb5 K hK; obtain ⟨hc5, hf5⟩ := ifs_of hb5; have hs5 := hb5.size; (try simp at hs5); go_wp2; refine ⟨xs_, ?_⟩)
  (refine anyB_one (i := 5) (by kernel_rfl) rfl rfl ?_; intro w6 hb6 K hK; obtain ⟨hc6, hf6⟩ := ifs_of hb6; have hs6 := hb6.size; (try simp at hs6); go_wp2_with fail)
  refine (HW1.out _).mono ?_
  rintro e w7 ⟨rfl, rfl⟩
  (go_wp2; refine ⟨xs_, ?_⟩)
  (refine anyB_one (i := 12) (by kernel_rfl) rfl rfl ?_; intro w8 hb8 K hK; obtain ⟨hc8, hf8⟩ := ifs_of hb8; have hs8 := hb8.size; (try simp at hs8); go_wp2_with fail)
  refine (HF.out _ bl_).mono ?_
  (rintro e w9 ⟨rfl, hb9⟩; have hs9 := hb9.size; (try simp at hs9))
  obtain ⟨hc9, hf9⟩ := ifs_of hb9; have hs9 := hb9.size; (try simp at hs9)
  (go_wp2; refine ⟨xs_, ?_⟩)
  (refine anyB_one (i := 13) (by kernel_rfl) rfl rfl ?_; intro wa hba K hK; obtain ⟨hca, hfa⟩ := ifs_of hba; have hsa := hba.size; (try simp at hsa); go_wp2; refine ⟨xs_, ?_⟩)
  (refine anyB_one (i := 14) (by kernel_rfl) rfl rfl ?_; intro wb hbb K hK; obtain ⟨hcb, hfb⟩ := ifs_of hbb; have hsb := hbb.size; (try simp at hsb); go_wp2_with fail)
  refine (HW2.out _).mono ?_
  rintro e wc ⟨rfl, rfl⟩
  (go_wp2; refine ⟨xs_, ?_⟩)
  (refine anyB_one (i := 15) (by kernel_rfl) rfl rfl ?_; intro wd hbd K hK; obtain ⟨hcd, hfd⟩ := ifs_of hbd; have hsd := hbd.size; (try simp at hsd); go_wp2; refine ⟨xs_, ?_⟩)
  (refine anyB_one (i := 16) (by kernel_rfl) rfl rfl ?_; intro we hbe K hK; obtain ⟨hce, hfe⟩ := ifs_of hbe; have hse := hbe.size; (try simp at hse); go_wp2_with fail; refine (rFirst_any (wd.heap.size + 1) _ 2 2 [a1, a2] _ ((by simpa using Reads.new (size := 1) wd (([a1, a2]).map (.int .i64)).toArray 3 2 rfl : Reads (wd.alloc (.cells (([a1, a2]).map (.int .i64)).toArray 3)) (wd.heap.size + 1) 1 (some ⟨wd.heap.size, 0, none⟩) 2 (([a1, a2]).map (.int .i64))).below (hbe.mono (by simp))) (by unfold maxLen; decide)).mono ?_; rintro e we' ⟨rfl, rfl⟩; go_wp2; refine ⟨xs_, ?_⟩)
  (refine anyB_one (i := 17) (by kernel_rfl) rfl rfl ?_; intro wf hbf K hK; obtain ⟨hcf, hff⟩ := ifs_of hbf; have hsf := hbf.size; (try simp at hsf); go_wp2; refine ⟨xs_, ?_⟩)
  (refine anyB_end (by kernel_rfl) ?_; intro wg hbg; obtain ⟨hcg, hfg⟩ := ifs_of hbg; have hsg := hbg.size; (try simp at hsg); simp only [Calm]; go_wp2_with fail)
  go_ret
  exact ⟨rfl, bl_⟩
end Go.Proofs.YtphlojgmfkgeiaaGreatDoor
