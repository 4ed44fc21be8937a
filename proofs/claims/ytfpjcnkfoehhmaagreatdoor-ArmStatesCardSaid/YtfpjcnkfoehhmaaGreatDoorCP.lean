/- The law ArmStates. -/
import Derived.Test.YtfpjcnkfoehhmaaGreatDoorQr
import Derived.Test.YtfpjcnkfoehhmaaGreatDoorQg
import Derived.Test.YtfpjcnkfoehhmaaGreatDoorQf
import Derived.Test.YtfpjcnkfoehhmaaGreatDoorQh
namespace Go.Proofs.YtfpjcnkfoehhmaaGreatDoor
open Go Go.RowKit Go.Sort Go.Shelf
set_option linter.unusedSimpArgs false
set_option linter.unusedVariables false
attribute [local go_sem] cell_if frozen_if grow_cell
theorem short_fit {a : Ar} (h : shortA a = true) (hnm : ∀ x ∈ a.m, x.n.size ≤ maxLen) : FitA a := by
  unfold shortA at h
  simp only [Bool.and_eq_true, Bool.or_eq_true, decide_eq_true_eq, beq_iff_eq] at h
  exact ⟨by omega, hnm⟩
theorem idxs_bd (a : Ar) : (usL a).length ≤ a.m.length := idxs_len usB a.m 0
set_option maxRecDepth 100000 in
set_option maxHeartbeats 8000000 in
theorem states_any (A : Option Addr) (n c : Nat) (a : Ar) (w : World) (hM : MsAt w w.heap.size A n a.m) (hn : n ≤ maxLen) (hnm : ∀ x ∈ a.m, x.n.size ≤ maxLen) (hT : TabT w) :
    Calls Tryz.prog 3 #[.agg #[.slice A n c, .int .i64 a.lo, .int .i64 a.hi, .int .i64 a.cur, .int .i64 a.lim]] w fun e w' => e = .returned (.bool true) ∧ Below w.heap.size w w' := by
  have hl := (md_at hM).1
  have HT := Lib.hid hT
  have HAw := Lib.hid (fun W (hW : Below w.heap.size w W) => awake_ok w W hT hW)
  have HSh := Lib.hid (fun W (hW : Below w.heap.size w W) => Short_any w.heap.size A n c a W (hM.below hW) hW.size hn)
  cases hs : shortA a with
  | false =>
    rw [hs] at HSh
    clear hM hnm hl hs
    go_enter Tryz.func3, Tryz.ntmps3
    go_wp2_with fail
    refine (HAw.out _ bl_).mono ?_
    rintro e w1 ⟨rfl, hb⟩
    have HA : Hid (Blk w1 w.heap.size 26 #[.slice A n c, .int .i64 a.lo, .int .i64 a.hi, .int .i64 a.cur, .int .i64 a.lim]) := Lib.hid ((Blk.new w _ _).kept hb)
    have hb := ((Below.refl _ _).alloc (Nat.le_refl _) _).trans (hb.mono (by simp))
    have hs1 := hb.size
    have HL := Lib.hid hb
    clear hb
    have cHA := HA.out.cell
    have lHA := HA.out.lt
    go_wp2_with fail
    refine (HSh.out _ HL.out).mono ?_
    rintro e w2 ⟨rfl, hb⟩
    clear cHA lHA
    have hs2 := hb.size
    have HL' := Lib.hid (HL.out.trans (hb.mono HL.out.size)); clear HL; have HL := HL'; clear HL'
    have HA' := Lib.hid (HA.out.kept hb); clear HA; have HA := HA'; clear HA'
    clear hb
    have cHA := HA.out.cell
    have lHA := HA.out.lt
    go_wp2_with fail
    refine (HAw.out _ HL.out).mono ?_
    rintro e w3 ⟨rfl, hb⟩
    clear cHA lHA
    have hs3 := hb.size
    have HL' := Lib.hid (HL.out.trans (hb.mono HL.out.size)); clear HL; have HL := HL'; clear HL'
    have HA' := Lib.hid (HA.out.kept hb); clear HA; have HA := HA'; clear HA'
    clear hb
    have cHA := HA.out.cell
    have lHA := HA.out.lt
    go_wp2_with fail
    go_ret
    exact ⟨rfl, HL.out⟩
  | true =>
    have hF := short_fit hs hnm
    have h17 := hF.len
    rw [hs] at HSh
    have HO := Lib.hid (fun W (hW : Below w.heap.size w W) => own_r w.heap.size A n c a W (hM.below hW) hW.size (by omega))
    have HCk := Lib.hid (fun W (hW : Below w.heap.size w W) => rCheckArm_any w.heap.size A n c a W (hM.below hW) hW.size hF)
    have HCp := Lib.hid (fun W A c (hm : MsAt W W.heap.size A n a.m) (hc : n ≤ c) => CheckArm_any W.heap.size A n c a W hm (Nat.le_refl _) hF hc)
    have HU := Lib.hid (fun W A c (hm : MsAt W W.heap.size A n a.m) (hc : n ≤ c) => Usable_any W.heap.size A n c a W hm (Nat.le_refl _) hF hc)
    by_cases hE : armE a = 0
    · have HV := Lib.hid (fun W A c (hm : MsAt W W.heap.size A n a.m) (hc : n ≤ c) => Voltage_any W.heap.size A n c a W hm (Nat.le_refl _) hF hc hE)
      have HS := Lib.hid (fun W A c (hm : MsAt W W.heap.size A n a.m) (hc : n ≤ c) => Spread_any W.heap.size A n c a W hm (Nat.le_refl _) hF hc hE)
      have HE := Lib.hid (fun W A c (hm : MsAt W W.heap.size A n a.m) (hc : n ≤ c) => Energy_any W.heap.size A n c a W hm (Nat.le_refl _) hF hc hE)
      have HRU := Lib.hid (fun W (hW : Below w.heap.size w W) => rUsable_any w.heap.size A n c a W (hM.below hW) hW.size (by omega))
      have HRV := Lib.hid (fun W (hW : Below w.heap.size w W) => rVoltage_any w.heap.size A n c a W (hM.below hW) hW.size (by omega) hE)
      have HRS := Lib.hid (fun W (hW : Below w.heap.size w W) => rSpread_any w.heap.size A n c a W (hM.below hW) hW.size (by omega) hE)
      have HRE := Lib.hid (fun W (hW : Below w.heap.size w W) => rEnergy_any w.heap.size A n c a W (hM.below hW) hW.size (by omega) hE)
      have hus := idxs_bd a
      have hUS : usL a = idxs usB 0 a.m := rfl
      rw [hE] at HCk HCp
      unfold resI at HU
      rw [hE, if_pos rfl] at HU
      rw [← hUS] at HRU
      generalize usL a = us at *
      generalize voltL a = vv at *
      generalize spreadL a = ss at *
      generalize enerL a = ee at *
      clear hM hnm hs hF hE hUS
      go_enter Tryz.func3, Tryz.ntmps3
      go_wp2_with fail
      refine (HAw.out _ bl_).mono ?_
      rintro e w1 ⟨rfl, hb⟩
      have HA : Hid (Blk w1 w.heap.size 26 #[.slice A n c, .int .i64 a.lo, .int .i64 a.hi, .int .i64 a.cur, .int .i64 a.lim]) := Lib.hid ((Blk.new w _ _).kept hb)
      have hb := ((Below.refl _ _).alloc (Nat.le_refl _) _).trans (hb.mono (by simp))
      have hs1 := hb.size
      have HL := Lib.hid hb
      clear hb
      have cHA := HA.out.cell
      have lHA := HA.out.lt
      go_wp2_with fail
      refine (HSh.out _ HL.out).mono ?_
      rintro e w2 ⟨rfl, hb⟩
      clear cHA lHA
      have hs2 := hb.size
      have HL' := Lib.hid (HL.out.trans (hb.mono HL.out.size)); clear HL; have HL := HL'; clear HL'
      have HA' := Lib.hid (HA.out.kept hb); clear HA; have HA := HA'; clear HA'
      clear hb
      have cHA := HA.out.cell
      have lHA := HA.out.lt
      go_wp2_with fail
      refine (HO.out _ HL.out).mono ?_
      rintro e w3 ⟨A3, c3, rfl, hm, hc, hb⟩
      have hM3 := Lib.hid hm; have hC3 := Lib.hid hc; clear hm hc
      clear cHA lHA
      have hs3 := hb.size
      have HL' := Lib.hid (HL.out.trans (hb.mono HL.out.size)); clear HL; have HL := HL'; clear HL'
      have HA' := Lib.hid (HA.out.kept hb); clear HA; have HA := HA'; clear HA'
      clear hb
      have cHA := HA.out.cell
      have lHA := HA.out.lt
      go_wp2_with fail
      refine (HU.out _ _ _ hM3.out hC3.out).mono ?_
      rintro e w4 ⟨A4, c4, rfl, hf, hb⟩
      have FU := Lib.hid (⟨hf⟩ : RdI w4 A4 _ _); clear hf
      clear cHA lHA
      have hs4 := hb.size
      have HL' := Lib.hid (HL.out.trans (hb.mono HL.out.size)); clear HL; have HL := HL'; clear HL'
      have HA' := Lib.hid (HA.out.kept hb); clear HA; have HA := HA'; clear HA'
      clear hb
      have cHA := HA.out.cell
      have lHA := HA.out.lt
      clear hM3 hC3
      go_wp2_with fail
      refine (HO.out _ HL.out).mono ?_
      rintro e w5 ⟨A5, c5, rfl, hm, hc, hb⟩
      have hM5 := Lib.hid hm; have hC5 := Lib.hid hc; clear hm hc
      clear cHA lHA
      have hs5 := hb.size
      have HL' := Lib.hid (HL.out.trans (hb.mono HL.out.size)); clear HL; have HL := HL'; clear HL'
      have HA' := Lib.hid (HA.out.kept hb); clear HA; have HA := HA'; clear HA'
      have FU' := Lib.hid (FU.out.kept hb); clear FU; have FU := FU'; clear FU'
      clear hb
      have cHA := HA.out.cell
      have lHA := HA.out.lt
      go_wp2_with fail
      refine (HV.out _ _ _ hM5.out hC5.out).mono ?_
      rintro e w6 ⟨rfl, hb⟩
      clear cHA lHA
      have hs6 := hb.size
      have HL' := Lib.hid (HL.out.trans (hb.mono HL.out.size)); clear HL; have HL := HL'; clear HL'
      have HA' := Lib.hid (HA.out.kept hb); clear HA; have HA := HA'; clear HA'
      have FU' := Lib.hid (FU.out.kept hb); clear FU; have FU := FU'; clear FU'
      clear hb
      have cHA := HA.out.cell
      have lHA := HA.out.lt
      clear hM5 hC5
      go_wp2_with fail
      refine (HO.out _ HL.out).mono ?_
      rintro e w7 ⟨A7, c7, rfl, hm, hc, hb⟩
      have hM7 := Lib.hid hm; have hC7 := Lib.hid hc; clear hm hc
      clear cHA lHA
      have hs7 := hb.size
      have HL' := Lib.hid (HL.out.trans (hb.mono HL.out.size)); clear HL; have HL := HL'; clear HL'
      have HA' := Lib.hid (HA.out.kept hb); clear HA; have HA := HA'; clear HA'
      have FU' := Lib.hid (FU.out.kept hb); clear FU; have FU := FU'; clear FU'
      clear hb
      have cHA := HA.out.cell
      have lHA := HA.out.lt
      go_wp2_with fail
      refine (HS.out _ _ _ hM7.out hC7.out).mono ?_
      rintro e w8 ⟨rfl, hb⟩
      clear cHA lHA
      have hs8 := hb.size
      have HL' := Lib.hid (HL.out.trans (hb.mono HL.out.size)); clear HL; have HL := HL'; clear HL'
      have HA' := Lib.hid (HA.out.kept hb); clear HA; have HA := HA'; clear HA'
      have FU' := Lib.hid (FU.out.kept hb); clear FU; have FU := FU'; clear FU'
      clear hb
      have cHA := HA.out.cell
      have lHA := HA.out.lt
      clear hM7 hC7
      go_wp2_with fail
      refine (HO.out _ HL.out).mono ?_
      rintro e w9 ⟨A9, c9, rfl, hm, hc, hb⟩
      have hM9 := Lib.hid hm; have hC9 := Lib.hid hc; clear hm hc
      clear cHA lHA
      have hs9 := hb.size
      have HL' := Lib.hid (HL.out.trans (hb.mono HL.out.size)); clear HL; have HL := HL'; clear HL'
      have HA' := Lib.hid (HA.out.kept hb); clear HA; have HA := HA'; clear HA'
      have FU' := Lib.hid (FU.out.kept hb); clear FU; have FU := FU'; clear FU'
      clear hb
      have cHA := HA.out.cell
      have lHA := HA.out.lt
      go_wp2_with fail
      refine (HE.out _ _ _ hM9.out hC9.out).mono ?_
      rintro e w10 ⟨rfl, hb⟩
      clear cHA lHA
      have hs10 := hb.size
      have HL' := Lib.hid (HL.out.trans (hb.mono HL.out.size)); clear HL; have HL := HL'; clear HL'
      have HA' := Lib.hid (HA.out.kept hb); clear HA; have HA := HA'; clear HA'
      have FU' := Lib.hid (FU.out.kept hb); clear FU; have FU := FU'; clear FU'
      clear hb
      have cHA := HA.out.cell
      have lHA := HA.out.lt
      clear hM9 hC9
      go_wp2_with fail
      refine (HCk.out _ HL.out).mono ?_
      rintro e w11 ⟨rfl, hb⟩
      clear cHA lHA
      have hs11 := hb.size
      have HL' := Lib.hid (HL.out.trans (hb.mono HL.out.size)); clear HL; have HL := HL'; clear HL'
      have HA' := Lib.hid (HA.out.kept hb); clear HA; have HA := HA'; clear HA'
      have FU' := Lib.hid (FU.out.kept hb); clear FU; have FU := FU'; clear FU'
      clear hb
      have cHA := HA.out.cell
      have lHA := HA.out.lt
      go_wp2_with fail
      (refine wp_region_calm [] [0, 2, 4, 6] 8 (by kernel_rfl) rfl (by kernel_rfl) (by kernel_rfl) (by kernel_rfl) ?_; simp only [pickB, List.filterMap_cons, List.filterMap_nil, List.getElem?_toArray, List.getElem?_cons_zero, List.getElem?_cons_succ]; (repeat (first | ((first | (with_reducible refine quietL_plain rfl (fun K hK => ?_)) | (with_reducible refine quietL_want (by with_unfolding_all rfl) (fun K hK => ?_))); (apply Exists.intro; refine ⟨fun wx hx => ?_, ?_⟩; (· (have hcx := ifs_ex hx); simp [go_sem, *, ↓IntWalk.iteOmega] <;> (first | rfl | exact ⟨rfl, rfl⟩ | skip)); (simp only [Act.put, List.setIfInBounds_toArray, List.set_cons_zero, List.set_cons_succ]; refine hK _ ?_; clear hK K))) | ((with_reducible refine quietL_skip (by with_unfolding_all rfl) ?_); simp only [Act.put, List.setIfInBounds_toArray, List.set_cons_zero, List.set_cons_succ]))); refine quietL_nil ?_)
      (refine anyB_one (i := 1) (by kernel_rfl) rfl rfl ?_; intro w12 hb12 K hK; have hs12 := hb12.size; (try simp at hs12); go_wp2_with fail)
      refine (HRU.out _ (HL.out.trans (hb12.mono HL.out.size))).mono ?_
      rintro e w13 ⟨v, rfl, hr, hb13⟩
      obtain ⟨Ar, cr, rfl, _, _, hrd⟩ := own_form hr
      have hs13 := hb13.size
      have HRd := Lib.hid hrd
      clear hr hrd
      (go_wp2; refine ⟨xs_, ?_⟩)
      (refine anyB_quiet_at (by kernel_rfl) calm_panic xs_ 0 [3, 5, 7, 8, 9, 10, 11] _ _ (by kernel_rfl) (by decide +kernel) ?_; simp only [pickB, List.filterMap_cons, List.filterMap_nil, List.getElem?_toArray, List.getElem?_cons_zero, List.getElem?_cons_succ]; (repeat (first | ((first | (with_reducible refine quietL_plain rfl (fun K hK => ?_)) | (with_reducible refine quietL_want (by with_unfolding_all rfl) (fun K hK => ?_))); (apply Exists.intro; refine ⟨fun wx hx => ?_, ?_⟩; (· (have hcx := ifs_ex hx); simp [go_sem, *, ↓IntWalk.iteOmega] <;> (first | rfl | exact ⟨rfl, rfl⟩ | (first | (with_reducible exact calls_B (HRV.out _ (HL.out.trans ((Ex.low hx).mono HL.out.size)))) | (with_reducible exact calls_B (HRS.out _ (HL.out.trans ((Ex.low hx).mono HL.out.size)))) | (with_reducible exact calls_B (HRE.out _ (HL.out.trans ((Ex.low hx).mono HL.out.size))))))); (simp only [Act.put, List.setIfInBounds_toArray, List.set_cons_zero, List.set_cons_succ]; refine hK _ ?_; clear hK K))) | ((with_reducible refine quietL_skip (by with_unfolding_all rfl) ?_); simp only [Act.put, List.setIfInBounds_toArray, List.set_cons_zero, List.set_cons_succ]))); refine quietL_nil ?_)
      (refine anyB_end (by kernel_rfl) ?_; intro w14 hb14; have hs14 := hb14.size; (try simp at hs14); simp only [Calm])
      have FR := Lib.hid ((⟨HRd.out⟩ : RdI w13 Ar _ _).kept hb14)
      have hb := hb12.trans ((hb13.trans (hb14.mono hs13)).mono hs12)
      clear HRd hb12 hb13 hb14
      clear cHA lHA
      have hs14 := hb.size
      have HL' := Lib.hid (HL.out.trans (hb.mono HL.out.size)); clear HL; have HL := HL'; clear HL'
      have HA' := Lib.hid (HA.out.kept hb); clear HA; have HA := HA'; clear HA'
      have FU' := Lib.hid (FU.out.kept hb); clear FU; have FU := FU'; clear FU'
      clear hb
      have cHA := HA.out.cell
      have lHA := HA.out.lt
      go_wp2_with fail
      refine (HO.out _ HL.out).mono ?_
      rintro e w15 ⟨A15, c15, rfl, hm, hc, hb⟩
      have hM15 := Lib.hid hm; have hC15 := Lib.hid hc; clear hm hc
      clear cHA lHA
      have hs15 := hb.size
      have HL' := Lib.hid (HL.out.trans (hb.mono HL.out.size)); clear HL; have HL := HL'; clear HL'
      have HA' := Lib.hid (HA.out.kept hb); clear HA; have HA := HA'; clear HA'
      have FU' := Lib.hid (FU.out.kept hb); clear FU; have FU := FU'; clear FU'
      have FR' := Lib.hid (FR.out.kept hb); clear FR; have FR := FR'; clear FR'
      clear hb
      have cHA := HA.out.cell
      have lHA := HA.out.lt
      go_wp2_with fail
      refine (HCp.out _ _ _ hM15.out hC15.out).mono ?_
      rintro e w16 ⟨rfl, hb⟩
      clear cHA lHA
      have hs16 := hb.size
      have HL' := Lib.hid (HL.out.trans (hb.mono HL.out.size)); clear HL; have HL := HL'; clear HL'
      have HA' := Lib.hid (HA.out.kept hb); clear HA; have HA := HA'; clear HA'
      have FU' := Lib.hid (FU.out.kept hb); clear FU; have FU := FU'; clear FU'
      have FR' := Lib.hid (FR.out.kept hb); clear FR; have FR := FR'; clear FR'
      clear hb
      have cHA := HA.out.cell
      have lHA := HA.out.lt
      go_wp2_with fail
      refine (listed_ok _ _ _ _ _ _ _ us _ FU.out.out FR.out.out (Nat.le_refl _) (Nat.le_refl _) (by omega)).mono ?_
      rintro e w17 ⟨rfl, hb⟩
      clear cHA lHA
      have hs17 := hb.size
      have HL' := Lib.hid (HL.out.trans (hb.mono HL.out.size)); clear HL; have HL := HL'; clear HL'
      have HA' := Lib.hid (HA.out.kept hb); clear HA; have HA := HA'; clear HA'
      have FU' := Lib.hid (FU.out.kept hb); clear FU; have FU := FU'; clear FU'
      have FR' := Lib.hid (FR.out.kept hb); clear FR; have FR := FR'; clear FR'
      clear hb
      have cHA := HA.out.cell
      have lHA := HA.out.lt
      go_wp2_with fail
      refine (number_ok _ _).mono ?_
      rintro e _ ⟨rfl, rfl⟩
      go_wp2_with fail
      refine (number_ok _ _).mono ?_
      rintro e _ ⟨rfl, rfl⟩
      go_wp2_with fail
      refine (number_ok _ _).mono ?_
      rintro e _ ⟨rfl, rfl⟩
      go_wp2_with fail
      go_ret
      exact ⟨rfl, HL.out⟩
    · have HV := Lib.hid (fun W A c (hm : MsAt W W.heap.size A n a.m) (hc : n ≤ c) => Voltage_no W.heap.size A n c a W hm (Nat.le_refl _) hF hc hE)
      have HS := Lib.hid (fun W A c (hm : MsAt W W.heap.size A n a.m) (hc : n ≤ c) => Spread_no W.heap.size A n c a W hm (Nat.le_refl _) hF hc hE)
      have HE := Lib.hid (fun W A c (hm : MsAt W W.heap.size A n a.m) (hc : n ≤ c) => Energy_no W.heap.size A n c a W hm (Nat.le_refl _) hF hc hE)
      unfold resI at HU
      rw [if_neg hE] at HU
      generalize armE a = er at *
      clear hM hnm hs hF
      go_enter Tryz.func3, Tryz.ntmps3
      go_wp2_with fail
      refine (HAw.out _ bl_).mono ?_
      rintro e w1 ⟨rfl, hb⟩
      have HA : Hid (Blk w1 w.heap.size 26 #[.slice A n c, .int .i64 a.lo, .int .i64 a.hi, .int .i64 a.cur, .int .i64 a.lim]) := Lib.hid ((Blk.new w _ _).kept hb)
      have hb := ((Below.refl _ _).alloc (Nat.le_refl _) _).trans (hb.mono (by simp))
      have hs1 := hb.size
      have HL := Lib.hid hb
      clear hb
      have cHA := HA.out.cell
      have lHA := HA.out.lt
      go_wp2_with fail
      refine (HSh.out _ HL.out).mono ?_
      rintro e w2 ⟨rfl, hb⟩
      clear cHA lHA
      have hs2 := hb.size
      have HL' := Lib.hid (HL.out.trans (hb.mono HL.out.size)); clear HL; have HL := HL'; clear HL'
      have HA' := Lib.hid (HA.out.kept hb); clear HA; have HA := HA'; clear HA'
      clear hb
      have cHA := HA.out.cell
      have lHA := HA.out.lt
      go_wp2_with fail
      refine (HO.out _ HL.out).mono ?_
      rintro e w3 ⟨A3, c3, rfl, hm, hc, hb⟩
      have hM3 := Lib.hid hm; have hC3 := Lib.hid hc; clear hm hc
      clear cHA lHA
      have hs3 := hb.size
      have HL' := Lib.hid (HL.out.trans (hb.mono HL.out.size)); clear HL; have HL := HL'; clear HL'
      have HA' := Lib.hid (HA.out.kept hb); clear HA; have HA := HA'; clear HA'
      clear hb
      have cHA := HA.out.cell
      have lHA := HA.out.lt
      go_wp2_with fail
      refine (HU.out _ _ _ hM3.out hC3.out).mono ?_
      rintro e w4 ⟨A4, c4, rfl, hf, hb⟩
      have FU := Lib.hid (⟨hf⟩ : RdI w4 A4 _ _); clear hf
      clear cHA lHA
      have hs4 := hb.size
      have HL' := Lib.hid (HL.out.trans (hb.mono HL.out.size)); clear HL; have HL := HL'; clear HL'
      have HA' := Lib.hid (HA.out.kept hb); clear HA; have HA := HA'; clear HA'
      clear hb
      have cHA := HA.out.cell
      have lHA := HA.out.lt
      clear hM3 hC3
      go_wp2_with fail
      refine (HO.out _ HL.out).mono ?_
      rintro e w5 ⟨A5, c5, rfl, hm, hc, hb⟩
      have hM5 := Lib.hid hm; have hC5 := Lib.hid hc; clear hm hc
      clear cHA lHA
      have hs5 := hb.size
      have HL' := Lib.hid (HL.out.trans (hb.mono HL.out.size)); clear HL; have HL := HL'; clear HL'
      have HA' := Lib.hid (HA.out.kept hb); clear HA; have HA := HA'; clear HA'
      have FU' := Lib.hid (FU.out.kept hb); clear FU; have FU := FU'; clear FU'
      clear hb
      have cHA := HA.out.cell
      have lHA := HA.out.lt
      go_wp2_with fail
      refine (HV.out _ _ _ hM5.out hC5.out).mono ?_
      rintro e w6 ⟨rfl, hb⟩
      clear cHA lHA
      have hs6 := hb.size
      have HL' := Lib.hid (HL.out.trans (hb.mono HL.out.size)); clear HL; have HL := HL'; clear HL'
      have HA' := Lib.hid (HA.out.kept hb); clear HA; have HA := HA'; clear HA'
      have FU' := Lib.hid (FU.out.kept hb); clear FU; have FU := FU'; clear FU'
      clear hb
      have cHA := HA.out.cell
      have lHA := HA.out.lt
      clear hM5 hC5
      go_wp2_with fail
      refine (HO.out _ HL.out).mono ?_
      rintro e w7 ⟨A7, c7, rfl, hm, hc, hb⟩
      have hM7 := Lib.hid hm; have hC7 := Lib.hid hc; clear hm hc
      clear cHA lHA
      have hs7 := hb.size
      have HL' := Lib.hid (HL.out.trans (hb.mono HL.out.size)); clear HL; have HL := HL'; clear HL'
      have HA' := Lib.hid (HA.out.kept hb); clear HA; have HA := HA'; clear HA'
      have FU' := Lib.hid (FU.out.kept hb); clear FU; have FU := FU'; clear FU'
      clear hb
      have cHA := HA.out.cell
      have lHA := HA.out.lt
      go_wp2_with fail
      refine (HS.out _ _ _ hM7.out hC7.out).mono ?_
      rintro e w8 ⟨rfl, hb⟩
      clear cHA lHA
      have hs8 := hb.size
      have HL' := Lib.hid (HL.out.trans (hb.mono HL.out.size)); clear HL; have HL := HL'; clear HL'
      have HA' := Lib.hid (HA.out.kept hb); clear HA; have HA := HA'; clear HA'
      have FU' := Lib.hid (FU.out.kept hb); clear FU; have FU := FU'; clear FU'
      clear hb
      have cHA := HA.out.cell
      have lHA := HA.out.lt
      clear hM7 hC7
      go_wp2_with fail
      refine (HO.out _ HL.out).mono ?_
      rintro e w9 ⟨A9, c9, rfl, hm, hc, hb⟩
      have hM9 := Lib.hid hm; have hC9 := Lib.hid hc; clear hm hc
      clear cHA lHA
      have hs9 := hb.size
      have HL' := Lib.hid (HL.out.trans (hb.mono HL.out.size)); clear HL; have HL := HL'; clear HL'
      have HA' := Lib.hid (HA.out.kept hb); clear HA; have HA := HA'; clear HA'
      have FU' := Lib.hid (FU.out.kept hb); clear FU; have FU := FU'; clear FU'
      clear hb
      have cHA := HA.out.cell
      have lHA := HA.out.lt
      go_wp2_with fail
      refine (HE.out _ _ _ hM9.out hC9.out).mono ?_
      rintro e w10 ⟨rfl, hb⟩
      clear cHA lHA
      have hs10 := hb.size
      have HL' := Lib.hid (HL.out.trans (hb.mono HL.out.size)); clear HL; have HL := HL'; clear HL'
      have HA' := Lib.hid (HA.out.kept hb); clear HA; have HA := HA'; clear HA'
      have FU' := Lib.hid (FU.out.kept hb); clear FU; have FU := FU'; clear FU'
      clear hb
      have cHA := HA.out.cell
      have lHA := HA.out.lt
      clear hM9 hC9
      go_wp2_with fail
      refine (HCk.out _ HL.out).mono ?_
      rintro e w11 ⟨rfl, hb⟩
      clear cHA lHA
      have hs11 := hb.size
      have HL' := Lib.hid (HL.out.trans (hb.mono HL.out.size)); clear HL; have HL := HL'; clear HL'
      have HA' := Lib.hid (HA.out.kept hb); clear HA; have HA := HA'; clear HA'
      have FU' := Lib.hid (FU.out.kept hb); clear FU; have FU := FU'; clear FU'
      clear hb
      have cHA := HA.out.cell
      have lHA := HA.out.lt
      go_wp2_with fail
      refine (HO.out _ HL.out).mono ?_
      rintro e w12 ⟨A12, c12, rfl, hm, hc, hb⟩
      have hM12 := Lib.hid hm; have hC12 := Lib.hid hc; clear hm hc
      clear cHA lHA
      have hs12 := hb.size
      have HL' := Lib.hid (HL.out.trans (hb.mono HL.out.size)); clear HL; have HL := HL'; clear HL'
      have HA' := Lib.hid (HA.out.kept hb); clear HA; have HA := HA'; clear HA'
      have FU' := Lib.hid (FU.out.kept hb); clear FU; have FU := FU'; clear FU'
      clear hb
      have cHA := HA.out.cell
      have lHA := HA.out.lt
      go_wp2_with fail
      refine (HCp.out _ _ _ hM12.out hC12.out).mono ?_
      rintro e w13 ⟨rfl, hb⟩
      clear cHA lHA
      have hs13 := hb.size
      have HL' := Lib.hid (HL.out.trans (hb.mono HL.out.size)); clear HL; have HL := HL'; clear HL'
      have HA' := Lib.hid (HA.out.kept hb); clear HA; have HA := HA'; clear HA'
      have FU' := Lib.hid (FU.out.kept hb); clear FU; have FU := FU'; clear FU'
      clear hb
      have cHA := HA.out.cell
      have lHA := HA.out.lt
      go_wp2_with fail
      refine (listed_len _ _ _ _ _ _ _ hE).mono ?_
      rintro e w14 ⟨rfl, hb⟩
      clear cHA lHA
      have hs14 := hb.size
      have HL' := Lib.hid (HL.out.trans (hb.mono HL.out.size)); clear HL; have HL := HL'; clear HL'
      have HA' := Lib.hid (HA.out.kept hb); clear HA; have HA := HA'; clear HA'
      have FU' := Lib.hid (FU.out.kept hb); clear FU; have FU := FU'; clear FU'
      clear hb
      have cHA := HA.out.cell
      have lHA := HA.out.lt
      go_wp2_with fail
      refine (number_no _ _ _ hE).mono ?_
      rintro e _ ⟨rfl, rfl⟩
      go_wp2_with fail
      refine (number_no _ _ _ hE).mono ?_
      rintro e _ ⟨rfl, rfl⟩
      go_wp2_with fail
      refine (number_no _ _ _ hE).mono ?_
      rintro e _ ⟨rfl, rfl⟩
      go_wp2_with fail
      go_ret
      exact ⟨rfl, HL.out⟩
end Go.Proofs.YtfpjcnkfoehhmaaGreatDoor
