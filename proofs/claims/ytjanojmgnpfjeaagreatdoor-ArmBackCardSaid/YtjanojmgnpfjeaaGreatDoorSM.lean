/- CheckArm of arms with more modules. -/
import Derived.Test.YtjanojmgnpfjeaaGreatDoorQg
namespace Go.Proofs.YtjanojmgnpfjeaaGreatDoor
open Go.RowKit Go.Sort Go.Shelf
set_option linter.unusedSimpArgs false
set_option linter.unusedVariables false
attribute [local go_sem] cell_if frozen_if grow_cell
/-- Sizes of an arm as it is read. -/
structure FitL (a : Ar) : Prop where
  len : a.m.length ≤ 400
  nm : ∀ x ∈ a.m, x.n.size ≤ maxLen
set_option maxRecDepth 100000 in
set_option maxHeartbeats 4000000 in
theorem CheckArmL_any (B : Nat) (A : Option Addr) (n c : Nat) (a : Ar) (w : World) (hM : MsAt w B A n a.m) (hB : B ≤ w.heap.size) (hF : FitL a) (hnc : n ≤ c) :
    Calls Tryz.prog 59 #[.agg #[.slice A n c, .int .i64 a.lo, .int .i64 a.hi, .int .i64 a.cur, .int .i64 a.lim]] w fun e w' => e = .returned (.int .i64 (armE a)) ∧ Below w.heap.size w w' := by
  by_cases h17 : a.m.length ≤ 17
  · exact CheckArm_any B A n c a w hM hB ⟨h17, hF.nm⟩ hnc
  have hl := (md_at hM).1
  have h4 := hF.len
  have HH : Hid (headE a = firstE [whenE ((n : Int) == 0) 12, whenE (decide ((16 : Int) < (n : Int))) 5, ckR a.lo 0 16384, ckR a.hi 0 16384, whenE (decide (a.hi < a.lo)) 11, ckR a.cur 0 1000, ckR a.lim 0 16]) := by unfold headE; rw [hl]; exact Lib.hid rfl
  have hn17 : n ≤ 400 := by omega
  have hn1 : 17 < n := by omega
  have HNZ : Hid (firstE [whenE ((n : Int) == 0) 12, whenE (decide ((16 : Int) < (n : Int))) 5, ckR a.lo 0 16384, ckR a.hi 0 16384, whenE (decide (a.hi < a.lo)) 11, ckR a.cur 0 1000, ckR a.lim 0 16] ≠ 0) := Lib.hid (by
    rw [firstE_cons, firstE_cons, show ((n : Int) == 0) = false by simp; omega, show decide ((16 : Int) < (n : Int)) = true by simp; omega]
    rw [show whenE false 12 = 0 from rfl, show whenE true 5 = 5 from rfl, or0_yes, or0_no (by decide)]
    decide)
  clear hl h17 h4 hF hM hnc
  unfold armE
  rw [HH.out]
  go_enter Tryz.func59, Tryz.ntmps59
  go_wp2_with fail
  (refine wp_region_calm [] [0, 1, 2, 3, 4, 5, 6, 7, 8, 9, 10, 11, 12, 13, 14, 15, 16, 17, 18, 19, 20, 21, 22, 23, 24, 25, 26, 27, 28, 29, 30, 31] 3 (by kernel_rfl) rfl (by kernel_rfl) (by kernel_rfl) (by kernel_rfl) ?_; simp only [pickB, List.filterMap_cons, List.filterMap_nil, List.getElem?_toArray, List.getElem?_cons_zero, List.getElem?_cons_succ]; (repeat (first | ((first | (with_reducible refine quietL_plain rfl (fun K hK => ?_)) | (with_reducible refine quietL_want (by with_unfolding_all rfl) (fun K hK => ?_))); (apply Exists.intro; refine ⟨fun wx hx => ?_, ?_⟩; (· (have hcx := ifs_ex hx); simp [go_sem, *, ↓IntWalk.iteOmega] <;> (first | rfl | exact ⟨rfl, rfl⟩ | (first | (with_reducible exact calls_B (calls_below (awhen_any _ _ _))) | (with_reducible exact calls_B (calls_below (awithin_any _ _ _ _)))))); (simp only [Act.put, List.setIfInBounds_toArray, List.set_cons_zero, List.set_cons_succ]; refine hK _ ?_; clear hK K))) | ((with_reducible refine quietL_skip (by with_unfolding_all rfl) ?_); simp only [Act.put, List.setIfInBounds_toArray, List.set_cons_zero, List.set_cons_succ]))); refine quietL_nil ?_)
  (refine anyB_one (i := 32) (by kernel_rfl) rfl rfl ?_; intro w2 hb2 K hK; obtain ⟨hc2, hf2⟩ := ifs_of hb2; have hs2 := hb2.size; (try simp at hs2); go_wp2; refine ⟨xs_, ?_⟩)
  (refine anyB_one (i := 33) (by kernel_rfl) rfl rfl ?_; intro w3 hb3 K hK; obtain ⟨hc3, hf3⟩ := ifs_of hb3; have hs3 := hb3.size; (try simp at hs3); go_wp2_with fail; refine (afirst_any (w2.heap.size + 1) _ 7 7 [whenE ((n : Int) == 0) 12, whenE (decide ((16 : Int) < (n : Int))) 5, ckR a.lo 0 16384, ckR a.hi 0 16384, whenE (decide (a.hi < a.lo)) 11, ckR a.cur 0 1000, ckR a.lim 0 16] _ ((by simpa using Reads.new (size := 1) w2 (([whenE ((n : Int) == 0) 12, whenE (decide ((16 : Int) < (n : Int))) 5, ckR a.lo 0 16384, ckR a.hi 0 16384, whenE (decide (a.hi < a.lo)) 11, ckR a.cur 0 1000, ckR a.lim 0 16]).map (.int .i64)).toArray 31 7 rfl : Reads (w2.alloc (.cells (([whenE ((n : Int) == 0) 12, whenE (decide ((16 : Int) < (n : Int))) 5, ckR a.lo 0 16384, ckR a.hi 0 16384, whenE (decide (a.hi < a.lo)) 11, ckR a.cur 0 1000, ckR a.lim 0 16]).map (.int .i64)).toArray 31)) (w2.heap.size + 1) 1 (some ⟨w2.heap.size, 0, none⟩) 7 (([whenE ((n : Int) == 0) 12, whenE (decide ((16 : Int) < (n : Int))) 5, ckR a.lo 0 16384, ckR a.hi 0 16384, whenE (decide (a.hi < a.lo)) 11, ckR a.cur 0 1000, ckR a.lim 0 16]).map (.int .i64))).below (hb3.mono (by simp))) (by unfold maxLen; decide)).mono ?_; rintro e w3' ⟨rfl, rfl⟩; go_wp2; refine ⟨xs_, ?_⟩)
  (refine anyB_one (i := 34) (by kernel_rfl) rfl rfl ?_; intro w4 hb4 K hK; obtain ⟨hc4, hf4⟩ := ifs_of hb4; have hs4 := hb4.size; (try simp at hs4); go_wp2; refine ⟨xs_, ?_⟩)
  (refine anyB_end (by kernel_rfl) ?_; intro w5 hb5; obtain ⟨hc5, hf5⟩ := ifs_of hb5; have hs5 := hb5.size; (try simp at hs5); simp only [Calm])
  clear HH
  obtain ⟨eh, hh⟩ : ∃ eh, firstE [whenE ((n : Int) == 0) 12, whenE (decide ((16 : Int) < (n : Int))) 5, ckR a.lo 0 16384, ckR a.hi 0 16384, whenE (decide (a.hi < a.lo)) 11, ckR a.cur 0 1000, ckR a.lim 0 16] = eh := ⟨_, rfl⟩
  rw [hh] at HNZ
  rw [hh]
  have h0 := HNZ.out
  have hbw : Below w.heap.size w w5 := bl_
  have HBW := Lib.hid hbw
  have HHH := Lib.hid hh
  clear hh hbw hb2 hb3 hb4 hb5 hc2 hc3 hc4 hc5 hf2 hf3 hf4 hf5
  have hne : (eh != 0) = true := by simpa using h0
  go_wp2_with fail
  go_ret
  exact ⟨by rw [HHH.out]; unfold or0; rw [if_neg h0]; rfl, HBW.out⟩
theorem rCheckArmL_any (B : Nat) (A : Option Addr) (n c : Nat) (a : Ar) (w : World) (hM : MsAt w B A n a.m) (hB : B ≤ w.heap.size) (hF : FitL a) :
    Calls Tryz.prog 13 #[.agg #[.slice A n c, .int .i64 a.lo, .int .i64 a.hi, .int .i64 a.cur, .int .i64 a.lim]] w fun e w' => e = .returned (.int .i64 (armE a)) ∧ Below w.heap.size w w' := by
  by_cases h17 : a.m.length ≤ 17
  · exact rCheckArm_any B A n c a w hM hB ⟨h17, hF.nm⟩
  have hl := (md_at hM).1
  have h4 := hF.len
  have hn17 : n ≤ 400 := by omega
  have hn1 : 17 < n := by omega
  unfold armE
  rw [head_seq, or0_assoc, or0_assoc, or0_assoc, or0_assoc, hl]
  rw [show ((n : Int) == 0) = false by simp; omega, show decide ((16 : Int) < (n : Int)) = true by simp; omega]
  rw [show whenE false 12 = 0 from rfl, show whenE true 5 = 5 from rfl, or0_yes, or0_no (by decide)]
  have h1' : ((n : Int) == 0) = false := by simp; omega
  have h2 : (16 : Int) < (n : Int) := by omega
  clear hM hF hl h4 h17
  go_enter Tryz.func13, Tryz.ntmps13
  go_wp2_with fail
  go_ret
  exact ⟨rfl, bl_⟩
end Go.Proofs.YtjanojmgnpfjeaaGreatDoor
