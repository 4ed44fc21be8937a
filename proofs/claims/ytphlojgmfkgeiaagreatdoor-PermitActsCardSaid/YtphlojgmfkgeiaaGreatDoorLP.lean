/- The law PermitActs. -/
import Derived.Test.YtphlojgmfkgeiaaGreatDoorXG
import Derived.Test.YtphlojgmfkgeiaaGreatDoorXH
import Derived.Test.YtphlojgmfkgeiaaGreatDoorLD
import Derived.Test.YtphlojgmfkgeiaaGreatDoorSA
import Derived.Test.YtphlojgmfkgeiaaGreatDoorWL
namespace Go.Proofs.YtphlojgmfkgeiaaGreatDoor
open Go.RowKit Go.Sort Go.Shelf
set_option linter.unusedSimpArgs false
set_option linter.unusedVariables false
attribute [local go_sem] cell_if frozen_if grow_cell
def lens9 (y : Yd) : Prop := y.s.length ≤ 9 ∧ y.w.length ≤ 9 ∧ y.p.length ≤ 9
theorem playGo_len : ∀ (l : List Ac) (y : Yd) (i : Nat), Fits y → (∀ x ∈ l, x.n.size ≤ maxLen) → lens9 (playGo y i l).1
  | [], y, i, h, _ => ⟨h.s9, h.w9, h.p9⟩
  | x :: r, y, i, h, hs => by
    by_cases hx : actE y x = 0
    · rw [playGo_ok hx]
      exact playGo_len r _ _ (act_fits h (hs x (List.mem_cons_self ..)) hx) (fun z hz => hs z (List.mem_cons_of_mem _ hz))
    · rw [playGo_no hx]
      exact ⟨Nat.zero_le _, Nat.zero_le _, Nat.zero_le _⟩
theorem shortA_sz {l : List Ac} (h : shortA l = true) : (∀ x ∈ l, x.n.size ≤ maxLen ∧ x.s.size ≤ maxLen) ∧ l.length ≤ 65 := by
  unfold shortA szA at h
  rw [Bool.and_eq_true, List.all_eq_true] at h
  refine ⟨fun x hx => ?_, ?_⟩
  · have := h.1 x hx
    unfold pA at this
    simp only [Bool.and_eq_true, decide_eq_true_eq] at this
    unfold maxLen
    omega
  · have := h.2
    simp only [Bool.or_eq_true, decide_eq_true_eq] at this
    omega
set_option maxRecDepth 1000000 in
set_option maxHeartbeats 20000000 in
theorem acts_law (A0 A1 A2 : Option Addr) (n0 n1 n2 c0 c1 c2 : Nat) (y : Yd) (A : Option Addr) (n c : Nat) (l : List Ac) (w : World) (hY : YdAt w w.heap.size A0 A1 A2 n0 n1 n2 y) (h0 : n0 ≤ maxLen) (h1 : n1 ≤ maxLen) (h2 : n2 ≤ maxLen) (hW : Wide y) (hr : Reads w w.heap.size 3 A n (acs l)) (hn : n ≤ maxLen) (hT : Tabs w) :
    Calls Tryz.prog 10 #[.agg #[.slice A0 n0 c0, .slice A1 n1 c1, .slice A2 n2 c2], .slice A n c] w fun e w' => e = .returned (.bool true) ∧ Below w.heap.size w w' := by
  have HY := Lib.hid hY
  have HT := Lib.hid (fun W (hW : Below w.heap.size w W) => hT.kept hW)
  have HAw := Lib.hid (fun W (hW : Below w.heap.size w W) => awake_any W (hT.kept hW))
  have HSh := Lib.hid (fun W (hW : Below w.heap.size w W) => Short_any w.heap.size A0 A1 A2 n0 n1 n2 c0 c1 c2 y W (hY.below hW) hW.size h0 h1 h2)
  have HSA := Lib.hid (fun W (hW : Below w.heap.size w W) => ShortActs_any w.heap.size A n c l W (hr.below hW) hn)
  have hl0 := (sec_at hY.hs).1
  have hl1 := (sw_at hY.hw).1
  have hl2 := (pm_at hY.hp).1
  have hll := (ac_at hr).1
  have HF := Lib.hid (fun h => hW.fits (y := y) h)
  have HR := Lib.hid hr
  have HL0 := Lib.hid hl0
  have HL1 := Lib.hid hl1
  have HL2 := Lib.hid hl2
  clear hY hT h0 h1 h2 hW hl0 hl1 hl2 hr
  cases hS : shortY y with
  | false =>
    rw [hS] at HSh
    clear hS
    go_enter Tryz.func10, Tryz.ntmps10
    go_wp2_with fail
    refine (HAw.out _ bl_).mono ?_
    (rintro e w1 ⟨rfl, hb1⟩; have hs1 := hb1.size; (try simp at hs1))
    have HB1 := Lib.hid (bl_ : Below w.heap.size w w1)
    have BY := Lib.hid (bk_ : Blk w1 w.heap.size 26 #[.slice A0 n0 c0, .slice A1 n1 c1, .slice A2 n2 c2])
    have cY := BY.out.cell
    have lY := BY.out.lt
    clear hb1
    go_wp2_with fail
    refine (HSh.out _ HB1.out).mono ?_
    (rintro e w2 ⟨rfl, hb2⟩; have hs2 := hb2.size; (try simp at hs2))
    have HB2 := Lib.hid (HB1.out.trans (hb2.mono HB1.out.size))
    have hs02 := HB2.out.size
    replace BY := Lib.hid (BY.out.kept hb2)
    replace cY := BY.out.cell
    replace lY := BY.out.lt
    (try replace BG := Lib.hid (BG.out.kept hb2))
    (try replace cG := BG.out.cell)
    (try replace lG := BG.out.lt)
    clear hb2
    go_wp2_with fail
    refine (HAw.out _ HB2.out).mono ?_
    rintro e wz ⟨rfl, hbz⟩
    go_wp2_with fail
    go_ret
    exact ⟨rfl, HB2.out.trans (hbz.mono HB2.out.size)⟩
  | true =>
    rw [hS] at HSh
    cases hA : shortA l with
    | false =>
      rw [hA] at HSA
      clear hS hA HF
      go_enter Tryz.func10, Tryz.ntmps10
      go_wp2_with fail
      refine (HAw.out _ bl_).mono ?_
      (rintro e w1 ⟨rfl, hb1⟩; have hs1 := hb1.size; (try simp at hs1))
      have HB1 := Lib.hid (bl_ : Below w.heap.size w w1)
      have BY := Lib.hid (bk_ : Blk w1 w.heap.size 26 #[.slice A0 n0 c0, .slice A1 n1 c1, .slice A2 n2 c2])
      have cY := BY.out.cell
      have lY := BY.out.lt
      clear hb1
      go_wp2_with fail
      refine (HSh.out _ HB1.out).mono ?_
      (rintro e w2 ⟨rfl, hb2⟩; have hs2 := hb2.size; (try simp at hs2))
      have HB2 := Lib.hid (HB1.out.trans (hb2.mono HB1.out.size))
      have hs02 := HB2.out.size
      replace BY := Lib.hid (BY.out.kept hb2)
      replace cY := BY.out.cell
      replace lY := BY.out.lt
      (try replace BG := Lib.hid (BG.out.kept hb2))
      (try replace cG := BG.out.cell)
      (try replace lG := BG.out.lt)
      clear hb2
      go_wp2_with fail
      refine (HSA.out _ HB2.out).mono ?_
      rintro e w3 ⟨rfl, rfl⟩
      go_wp2_with fail
      refine (HAw.out _ HB2.out).mono ?_
      rintro e wz ⟨rfl, hbz⟩
      go_wp2_with fail
      go_ret
      exact ⟨rfl, HB2.out.trans (hbz.mono HB2.out.size)⟩
    | true =>
      rw [hA] at HSA
      have hF := HF.out hS
      obtain ⟨hsz, hl65⟩ := shortA_sz hA
      have f0 := hF.s9
      have f1 := hF.w9
      have f2 := hF.p9
      have g0 : n0 ≤ 9 := HL0.out ▸ f0
      have g1 : n1 ≤ 9 := HL1.out ▸ f1
      have g2 : n2 ≤ 9 := HL2.out ▸ f2
      have hn65 : n ≤ 65 := hll ▸ hl65
      have HO := Lib.hid (fun W (hW : Below w.heap.size w W) => (own_any w.heap.size A0 A1 A2 n0 n1 n2 c0 c1 c2 y W (HY.out.below hW) hW.size (by omega) (by omega) (by omega)).mono fun _ _ h => h.sh)
      have HAc := Lib.hid (fun W (hW : Below w.heap.size w W) => acts_any w.heap.size A n c l W (HR.out.below hW) hW.size (by omega))
      have HPl := Lib.hid (fun W D0 D1 D2 d0 d1 d2 A' c' (hy : YdAt W W.heap.size D0 D1 D2 y.s.length y.w.length y.p.length y) (hr' : Reads W W.heap.size 3 A' n (acs l)) (hW : Below w.heap.size w W) => Play_any W.heap.size D0 D1 D2 y.s.length y.w.length y.p.length d0 d1 d2 y W hy (Nat.le_refl _) (HT.out W hW) hF A' n c' l hr' (by omega) hsz)
      have HCk := Lib.hid (fun W (hW : Below w.heap.size w W) => rCheckYard_any w.heap.size A0 A1 A2 n0 n1 n2 c0 c1 c2 y W (HY.out.below hW) hW.size hF)
      have HWh := Lib.hid (fun W => rWhen_any (decide (64 < (n : Int))) 5 W)
      have HPH : Hid (plHead y n = firstE [yardE y, whenE (decide (64 < (n : Int))) 5]) := by show _ = _; rw [first2_or, plHead]
      have HPR : Hid (playR y l = if plHead y n = 0 then playGo y 0 l else (nilY, 0, plHead y n)) := by show _ = _; rw [playR, hll]
      have HTz := Lib.hid (fun zz (hz : lens9 zz) W A0 A1 A2 c0 c1 c2 (hy : YdAt W W.heap.size A0 A1 A2 zz.s.length zz.w.length zz.p.length zz) => told_any W.heap.size A0 A1 A2 zz.s.length zz.w.length zz.p.length c0 c1 c2 zz W hy (Nat.le_refl _) (by have := hz.1; omega) (by have := hz.2.1; omega) (by have := hz.2.2; omega))
      have HSz := Lib.hid (fun zz (hz : lens9 zz) W A0 A1 A2 D0 D1 D2 c0 c1 c2 d0 d1 d2 (hy : YdAt W W.heap.size A0 A1 A2 zz.s.length zz.w.length zz.p.length zz) (hz' : YdAt W W.heap.size D0 D1 D2 zz.s.length zz.w.length zz.p.length zz) => Same_any W.heap.size A0 A1 A2 zz.s.length zz.w.length zz.p.length c0 c1 c2 D0 D1 D2 zz.s.length zz.w.length zz.p.length d0 d1 d2 zz W hy hz' (Nat.le_refl _) (by have := hz.1; omega) (by have := hz.2.1; omega) (by have := hz.2.2; omega))
      by_cases hh : plHead y n = 0
      case neg =>
        rw [HPR.out, if_neg hh] at HPl
        have HTd := Lib.hid (HTz.out nilY ⟨Nat.zero_le _, Nat.zero_le _, Nat.zero_le _⟩)
        have HSa := Lib.hid (HSz.out nilY ⟨Nat.zero_le _, Nat.zero_le _, Nat.zero_le _⟩)
        clear hS hA HF hF hsz hl65 HPR HT hll HTz HSz
        generalize plHead y n = ee at *
        have HEQ := Lib.hid HPH.out.symm
        clear HPH
        generalize yardE y = a1 at *
        generalize whenE (decide (64 < (n : Int))) 5 = a2 at *
        go_enter Tryz.func10, Tryz.ntmps10
        go_wp2_with fail
        refine (HAw.out _ bl_).mono ?_
        (rintro e w1 ⟨rfl, hb1⟩; have hs1 := hb1.size; (try simp at hs1))
        have HB1 := Lib.hid (bl_ : Below w.heap.size w w1)
        have BY := Lib.hid (bk_ : Blk w1 w.heap.size 26 #[.slice A0 n0 c0, .slice A1 n1 c1, .slice A2 n2 c2])
        have cY := BY.out.cell
        have lY := BY.out.lt
        clear hb1
        go_wp2_with fail
        refine (HSh.out _ HB1.out).mono ?_
        (rintro e w2 ⟨rfl, hb2⟩; have hs2 := hb2.size; (try simp at hs2))
        have HB2 := Lib.hid (HB1.out.trans (hb2.mono HB1.out.size))
        have hs02 := HB2.out.size
        replace BY := Lib.hid (BY.out.kept hb2)
        replace cY := BY.out.cell
        replace lY := BY.out.lt
        (try replace BG := Lib.hid (BG.out.kept hb2))
        (try replace cG := BG.out.cell)
        (try replace lG := BG.out.lt)
        clear hb2
        go_wp2_with fail
        refine (HSA.out _ HB2.out).mono ?_
        rintro e w3 ⟨rfl, rfl⟩
        go_wp2_with fail
        refine (HO.out _ HB2.out).mono ?_
        rintro e w4 ⟨D0, D1, D2, d0, d1, d2, rfl, hyd, hb4⟩
        have hs4 := hb4.size
        have HYD := Lib.hid hyd
        have HB4 := Lib.hid (HB2.out.trans (hb4.mono HB2.out.size))
        have hs04 := HB4.out.size
        replace BY := Lib.hid (BY.out.kept hb4)
        replace cY := BY.out.cell
        replace lY := BY.out.lt
        (try replace BG := Lib.hid (BG.out.kept hb4))
        (try replace cG := BG.out.cell)
        (try replace lG := BG.out.lt)
        clear hb4
        go_wp2_with fail
        refine (HAc.out _ HB4.out).mono ?_
        rintro e w5 ⟨A5, cap5, rfl, hr5, hb5⟩
        have hs5 := hb5.size
        have HR5 := Lib.hid hr5
        replace HYD := Lib.hid (yd_kept HYD.out hb5)
        clear hyd hr5
        have HB5 := Lib.hid (HB4.out.trans (hb5.mono HB4.out.size))
        have hs05 := HB5.out.size
        replace BY := Lib.hid (BY.out.kept hb5)
        replace cY := BY.out.cell
        replace lY := BY.out.lt
        (try replace BG := Lib.hid (BG.out.kept hb5))
        (try replace cG := BG.out.cell)
        (try replace lG := BG.out.lt)
        clear hb5
        go_wp2_with fail
        refine (HPl.out _ _ _ _ _ _ _ _ _ HYD.out HR5.out HB5.out).mono ?_
        rintro e w6 ⟨E0, E1, E2, e0, e1, e2, rfl, hyE, hb6⟩
        have hs6 := hb6.size
        have HE6 := Lib.hid hyE
        have HB6 := Lib.hid (HB5.out.trans (hb6.mono HB5.out.size))
        have hs06 := HB6.out.size
        replace BY := Lib.hid (BY.out.kept hb6)
        replace cY := BY.out.cell
        replace lY := BY.out.lt
        (try replace BG := Lib.hid (BG.out.kept hb6))
        (try replace cG := BG.out.cell)
        (try replace lG := BG.out.lt)
        clear hb6
        (try dsimp only at HE6)
        (try dsimp only)
        clear hyE HR5 HYD
        go_wp2_with fail
        have BX := Lib.hid (Blk.new w6 41 #[.slice E0 (nilY).s.length e0, .slice E1 (nilY).w.length e1, .slice E2 (nilY).p.length e2])
        replace BY := Lib.hid (BY.out.alloc (.cells #[.slice E0 (nilY).s.length e0, .slice E1 (nilY).w.length e1, .slice E2 (nilY).p.length e2] 41))
        have HB6x := Lib.hid (HB6.out.alloc HB6.out.size (.cells #[.slice E0 (nilY).s.length e0, .slice E1 (nilY).w.length e1, .slice E2 (nilY).p.length e2] 41))
        replace HE6 := Lib.hid (yd_kept HE6.out ((Below.refl _ w6).alloc (Nat.le_refl _) (.cells #[.slice E0 (nilY).s.length e0, .slice E1 (nilY).w.length e1, .slice E2 (nilY).p.length e2] 41)))
        refine (HCk.out _ HB6x.out).mono ?_
        (rintro e w7 ⟨rfl, hb7⟩; have hs7 := hb7.size; (try simp at hs7))
        replace BX := Lib.hid (BX.out.kept hb7)
        replace HE6 := Lib.hid (yd_kept HE6.out hb7)
        have HB7 := Lib.hid (HB6x.out.trans (hb7.mono HB6x.out.size))
        have hs07 := HB7.out.size
        replace BY := Lib.hid (BY.out.kept hb7)
        replace cY := BY.out.cell
        replace lY := BY.out.lt
        (try replace BG := Lib.hid (BG.out.kept hb7))
        (try replace cG := BG.out.cell)
        (try replace lG := BG.out.lt)
        clear hb7
        go_wp2_with fail
        refine (HWh.out _).mono ?_
        rintro e wq ⟨rfl, rfl⟩
        go_wp2_with fail
        refine (rFirst_any (w7.heap.size + 1) _ 2 2 [a1, a2] _ (by simpa using Reads.new (size := 1) w7 (([a1, a2] : List Int).map (.int .i64)).toArray 3 2 rfl : Reads (w7.alloc (.cells (([a1, a2] : List Int).map (.int .i64)).toArray 3)) (w7.heap.size + 1) 1 (some ⟨w7.heap.size, 0, none⟩) 2 (([a1, a2] : List Int).map (.int .i64))) (by unfold maxLen; decide)).mono ?_
        rintro e wq ⟨rfl, rfl⟩
        rw [HEQ.out]
        go_wp2_with fail
        have BE := Lib.hid (Blk.new (w7.alloc (.cells #[.int .i64 a1, .int .i64 a2] 3)) 26 #[.slice none 0 0, .slice none 0 0, .slice none 0 0])
        have hb9 : Below w7.heap.size w7 ((w7.alloc (.cells #[.int .i64 a1, .int .i64 a2] 3)).alloc (.cells #[.slice none 0 0, .slice none 0 0, .slice none 0 0] 26)) := ((Below.refl _ w7).alloc (Nat.le_refl _) _).alloc (by simp) _
        have hs9 : ((w7.alloc (.cells #[.int .i64 a1, .int .i64 a2] 3)).alloc (.cells #[.slice none 0 0, .slice none 0 0, .slice none 0 0] 26)).heap.size = w7.heap.size + 1 + 1 := by simp
        generalize ((w7.alloc (.cells #[.int .i64 a1, .int .i64 a2] 3)).alloc (.cells #[.slice none 0 0, .slice none 0 0, .slice none 0 0] 26)) = w9 at *
        replace BX := Lib.hid (BX.out.kept hb9)
        replace HE6 := Lib.hid (yd_kept HE6.out hb9)
        have HB9 := Lib.hid (HB7.out.trans (hb9.mono HB7.out.size))
        have hs09 := HB9.out.size
        replace BY := Lib.hid (BY.out.kept hb9)
        replace cY := BY.out.cell
        replace lY := BY.out.lt
        (try replace BG := Lib.hid (BG.out.kept hb9))
        (try replace cG := BG.out.cell)
        (try replace lG := BG.out.lt)
        clear hb9
        simp at BE
        have HZE := Lib.hid (nil_yd w9 w9.heap.size)
        have cX := BX.out.cell
        have lX := BX.out.lt
        have cE := BE.out.cell
        have lE := BE.out.lt
        (refine wp_region_calm [] [0, 2] 13 (by kernel_rfl) rfl (by kernel_rfl) (by kernel_rfl) (by kernel_rfl) ?_; simp only [pickB, List.filterMap_cons, List.filterMap_nil, List.getElem?_toArray, List.getElem?_cons_zero, List.getElem?_cons_succ]; (repeat (first | ((with_reducible refine quietL_plain rfl (fun K hK => ?_)); (apply Exists.intro; refine ⟨fun wx hx => ?_, ?_⟩; (· (have hcx := ifs_ex hx); simp [go_sem, *, ↓IntWalk.iteOmega] <;> (first | rfl | exact ⟨rfl, rfl⟩ | fail)); (simp only [Act.put, List.setIfInBounds_toArray, List.set_cons_zero, List.set_cons_succ]; refine hK _ ?_; clear hK K))) | ((with_reducible refine quietL_skip (by with_unfolding_all rfl) ?_); simp only [Act.put, List.setIfInBounds_toArray, List.set_cons_zero, List.set_cons_succ]) | ((with_reducible refine quietL_want (by with_unfolding_all rfl) (fun K hK => ?_)); (apply Exists.intro; refine ⟨fun wx hx => ?_, ?_⟩; (· (have hcx := ifs_ex hx); simp [go_sem, *, ↓IntWalk.iteOmega] <;> (first | rfl | exact ⟨rfl, rfl⟩ | fail)); (simp only [Act.put, List.setIfInBounds_toArray, List.set_cons_zero, List.set_cons_succ]; refine hK _ ?_; clear hK K))))); refine quietL_nil ?_)
        (refine anyB_one (i := 1) (by kernel_rfl) rfl rfl ?_; intro wA hbA K hK; have hsA := hbA.size; (try simp at hsA); go_wp2_with fail)
        refine (HTd.out _ _ _ _ _ _ _ (yd_kept HE6.out hbA)).mono ?_
        rintro e wB ⟨F0, F1, F2, f0, f1, f2, rfl, hOB, hbB⟩
        have hsB := hbB.size
        have HFB := Lib.hid hOB.yd
        clear hOB
        (go_wp2; refine ⟨xs_, ?_⟩)
        (refine anyB_one (i := 3) (by kernel_rfl) rfl rfl ?_; intro wC hbC K hK; have hsC := hbC.size; (try simp at hsC); go_wp2_with fail)
        refine (HSa.out _ _ _ _ _ _ _ _ _ _ _ _ _ (yd_kept HFB.out hbC) (yd_kept HZE.out (hbA.trans ((hbB.trans (hbC.mono hbB.size)).mono hbA.size)))).mono ?_
        rintro e wD ⟨rfl, hbD⟩
        have hsD := hbD.size
        (go_wp2; refine ⟨xs_, ?_⟩)
        have hACD : Below w9.heap.size w9 wD := hbA.trans (((hbB.trans (hbC.mono hbB.size)).trans (hbD.mono (by omega))).mono hbA.size)
        (refine anyB_quiet_at (by kernel_rfl) calm_panic xs_ 1 [4, 5, 6, 7, 8, 9, 10, 11, 12, 13] _ _ (by kernel_rfl) (by decide +kernel) ?_; simp only [pickB, List.filterMap_cons, List.filterMap_nil, List.getElem?_toArray, List.getElem?_cons_zero, List.getElem?_cons_succ]; (repeat (first | ((with_reducible refine quietL_plain rfl (fun K hK => ?_)); (apply Exists.intro; refine ⟨fun wx hx => ?_, ?_⟩; (· (have hcx := ifs_ex hx); simp [go_sem, *, ↓IntWalk.iteOmega] <;> (first | rfl | exact ⟨rfl, rfl⟩ | fail)); (simp only [Act.put, List.setIfInBounds_toArray, List.set_cons_zero, List.set_cons_succ]; refine hK _ ?_; clear hK K))) | ((with_reducible refine quietL_skip (by with_unfolding_all rfl) ?_); simp only [Act.put, List.setIfInBounds_toArray, List.set_cons_zero, List.set_cons_succ]) | ((with_reducible refine quietL_want (by with_unfolding_all rfl) (fun K hK => ?_)); (apply Exists.intro; refine ⟨fun wx hx => ?_, ?_⟩; (· (have hcx := ifs_ex hx); simp [go_sem, *, ↓IntWalk.iteOmega] <;> (first | rfl | exact ⟨rfl, rfl⟩ | fail)); (simp only [Act.put, List.setIfInBounds_toArray, List.set_cons_zero, List.set_cons_succ]; refine hK _ ?_; clear hK K))))); refine quietL_nil ?_)
        (refine anyB_one (i := 14) (by kernel_rfl) rfl rfl ?_; intro wE hbE K hK; have hsE := hbE.size; (try simp at hsE); go_wp2; refine ⟨xs_, ?_⟩)
        (refine anyB_end (by kernel_rfl) ?_; intro wF hbF; have hsF := hbF.size; (try simp at hsF); simp only [Calm])
        have hFin : Below w.heap.size w wF := HB9.out.trans ((hACD.trans ((hbE.trans (hbF.mono hbE.size)).mono hACD.size)).mono HB9.out.size)
        clear hbA hbB hbC hbD hbE hbF
        go_wp2_with fail
        go_ret
        exact ⟨by first | rfl | (simp; done), hFin⟩
      case pos =>
        have hz1 : yardE y = 0 ∧ whenE (decide (64 < (n : Int))) 5 = 0 := first2_zeroV (by rw [← HPH.out]; exact hh)
        rw [HPR.out, if_pos hh] at HPl
        rw [hz1.1] at HCk
        rw [hz1.2] at HWh
        have hlens := playGo_len l y 0 hF (fun x hx => (hsz x hx).1)
        have HrPl := Lib.hid (fun W (hW : Below w.heap.size w W) => rPlay_any w.heap.size A0 A1 A2 n0 n1 n2 c0 c1 c2 y W (HY.out.below hW) hW.size hz1.1 hF A n c l ((HR.out.below hW).more hW.size) (by omega) hsz)
        have HEQ := Lib.hid (show firstE [0, 0] = 0 from rfl)
        clear HPR
        generalize playGo y 0 l = rr at *
        obtain ⟨zz, ix, er⟩ := rr
        dsimp only at hlens
        have HTd := Lib.hid (HTz.out zz hlens)
        have HSa := Lib.hid (HSz.out zz hlens)
        clear hS hA HF hF hsz hl65 HT hll HPH hh hz1 hlens HTz HSz
        go_enter Tryz.func10, Tryz.ntmps10
        go_wp2_with fail
        refine (HAw.out _ bl_).mono ?_
        (rintro e w1 ⟨rfl, hb1⟩; have hs1 := hb1.size; (try simp at hs1))
        have HB1 := Lib.hid (bl_ : Below w.heap.size w w1)
        have BY := Lib.hid (bk_ : Blk w1 w.heap.size 26 #[.slice A0 n0 c0, .slice A1 n1 c1, .slice A2 n2 c2])
        have cY := BY.out.cell
        have lY := BY.out.lt
        clear hb1
        go_wp2_with fail
        refine (HSh.out _ HB1.out).mono ?_
        (rintro e w2 ⟨rfl, hb2⟩; have hs2 := hb2.size; (try simp at hs2))
        have HB2 := Lib.hid (HB1.out.trans (hb2.mono HB1.out.size))
        have hs02 := HB2.out.size
        replace BY := Lib.hid (BY.out.kept hb2)
        replace cY := BY.out.cell
        replace lY := BY.out.lt
        (try replace BG := Lib.hid (BG.out.kept hb2))
        (try replace cG := BG.out.cell)
        (try replace lG := BG.out.lt)
        clear hb2
        go_wp2_with fail
        refine (HSA.out _ HB2.out).mono ?_
        rintro e w3 ⟨rfl, rfl⟩
        go_wp2_with fail
        refine (HO.out _ HB2.out).mono ?_
        rintro e w4 ⟨D0, D1, D2, d0, d1, d2, rfl, hyd, hb4⟩
        have hs4 := hb4.size
        have HYD := Lib.hid hyd
        have HB4 := Lib.hid (HB2.out.trans (hb4.mono HB2.out.size))
        have hs04 := HB4.out.size
        replace BY := Lib.hid (BY.out.kept hb4)
        replace cY := BY.out.cell
        replace lY := BY.out.lt
        (try replace BG := Lib.hid (BG.out.kept hb4))
        (try replace cG := BG.out.cell)
        (try replace lG := BG.out.lt)
        clear hb4
        go_wp2_with fail
        refine (HAc.out _ HB4.out).mono ?_
        rintro e w5 ⟨A5, cap5, rfl, hr5, hb5⟩
        have hs5 := hb5.size
        have HR5 := Lib.hid hr5
        replace HYD := Lib.hid (yd_kept HYD.out hb5)
        clear hyd hr5
        have HB5 := Lib.hid (HB4.out.trans (hb5.mono HB4.out.size))
        have hs05 := HB5.out.size
        replace BY := Lib.hid (BY.out.kept hb5)
        replace cY := BY.out.cell
        replace lY := BY.out.lt
        (try replace BG := Lib.hid (BG.out.kept hb5))
        (try replace cG := BG.out.cell)
        (try replace lG := BG.out.lt)
        clear hb5
        go_wp2_with fail
        refine (HPl.out _ _ _ _ _ _ _ _ _ HYD.out HR5.out HB5.out).mono ?_
        rintro e w6 ⟨E0, E1, E2, e0, e1, e2, rfl, hyE, hb6⟩
        have hs6 := hb6.size
        have HE6 := Lib.hid hyE
        have HB6 := Lib.hid (HB5.out.trans (hb6.mono HB5.out.size))
        have hs06 := HB6.out.size
        replace BY := Lib.hid (BY.out.kept hb6)
        replace cY := BY.out.cell
        replace lY := BY.out.lt
        (try replace BG := Lib.hid (BG.out.kept hb6))
        (try replace cG := BG.out.cell)
        (try replace lG := BG.out.lt)
        clear hb6
        (try dsimp only at HE6)
        (try dsimp only)
        clear hyE HR5 HYD
        go_wp2_with fail
        have BX := Lib.hid (Blk.new w6 41 #[.slice E0 (zz).s.length e0, .slice E1 (zz).w.length e1, .slice E2 (zz).p.length e2])
        replace BY := Lib.hid (BY.out.alloc (.cells #[.slice E0 (zz).s.length e0, .slice E1 (zz).w.length e1, .slice E2 (zz).p.length e2] 41))
        have HB6x := Lib.hid (HB6.out.alloc HB6.out.size (.cells #[.slice E0 (zz).s.length e0, .slice E1 (zz).w.length e1, .slice E2 (zz).p.length e2] 41))
        replace HE6 := Lib.hid (yd_kept HE6.out ((Below.refl _ w6).alloc (Nat.le_refl _) (.cells #[.slice E0 (zz).s.length e0, .slice E1 (zz).w.length e1, .slice E2 (zz).p.length e2] 41)))
        refine (HCk.out _ HB6x.out).mono ?_
        (rintro e w7 ⟨rfl, hb7⟩; have hs7 := hb7.size; (try simp at hs7))
        replace BX := Lib.hid (BX.out.kept hb7)
        replace HE6 := Lib.hid (yd_kept HE6.out hb7)
        have HB7 := Lib.hid (HB6x.out.trans (hb7.mono HB6x.out.size))
        have hs07 := HB7.out.size
        replace BY := Lib.hid (BY.out.kept hb7)
        replace cY := BY.out.cell
        replace lY := BY.out.lt
        (try replace BG := Lib.hid (BG.out.kept hb7))
        (try replace cG := BG.out.cell)
        (try replace lG := BG.out.lt)
        clear hb7
        go_wp2_with fail
        refine (HWh.out _).mono ?_
        rintro e wq ⟨rfl, rfl⟩
        go_wp2_with fail
        refine (rFirst_any (w7.heap.size + 1) _ 2 2 [0, 0] _ (by simpa using Reads.new (size := 1) w7 (([0, 0] : List Int).map (.int .i64)).toArray 3 2 rfl : Reads (w7.alloc (.cells (([0, 0] : List Int).map (.int .i64)).toArray 3)) (w7.heap.size + 1) 1 (some ⟨w7.heap.size, 0, none⟩) 2 (([0, 0] : List Int).map (.int .i64))) (by unfold maxLen; decide)).mono ?_
        rintro e wq ⟨rfl, rfl⟩
        rw [HEQ.out]
        go_wp2_with fail
        have BE := Lib.hid (Blk.new (w7.alloc (.cells #[.int .i64 0, .int .i64 0] 3)) 26 #[.slice none 0 0, .slice none 0 0, .slice none 0 0])
        have hb9 : Below w7.heap.size w7 ((w7.alloc (.cells #[.int .i64 0, .int .i64 0] 3)).alloc (.cells #[.slice none 0 0, .slice none 0 0, .slice none 0 0] 26)) := ((Below.refl _ w7).alloc (Nat.le_refl _) _).alloc (by simp) _
        have hs9 : ((w7.alloc (.cells #[.int .i64 0, .int .i64 0] 3)).alloc (.cells #[.slice none 0 0, .slice none 0 0, .slice none 0 0] 26)).heap.size = w7.heap.size + 1 + 1 := by simp
        generalize ((w7.alloc (.cells #[.int .i64 0, .int .i64 0] 3)).alloc (.cells #[.slice none 0 0, .slice none 0 0, .slice none 0 0] 26)) = w9 at *
        replace BX := Lib.hid (BX.out.kept hb9)
        replace HE6 := Lib.hid (yd_kept HE6.out hb9)
        have HB9 := Lib.hid (HB7.out.trans (hb9.mono HB7.out.size))
        have hs09 := HB9.out.size
        replace BY := Lib.hid (BY.out.kept hb9)
        replace cY := BY.out.cell
        replace lY := BY.out.lt
        (try replace BG := Lib.hid (BG.out.kept hb9))
        (try replace cG := BG.out.cell)
        (try replace lG := BG.out.lt)
        clear hb9
        simp at BE
        refine (HrPl.out _ HB9.out).mono ?_
        rintro e wr ⟨G0, G1, G2, g0', g1', g2', rfl, hyG, hbr⟩
        have hsr := hbr.size
        have HZG := Lib.hid hyG
        replace BX := Lib.hid (BX.out.kept hbr)
        replace BE := Lib.hid (BE.out.kept hbr)
        replace HE6 := Lib.hid (yd_kept HE6.out hbr)
        clear hyG
        have HBr := Lib.hid (HB9.out.trans (hbr.mono HB9.out.size))
        have hs0r := HBr.out.size
        replace BY := Lib.hid (BY.out.kept hbr)
        replace cY := BY.out.cell
        replace lY := BY.out.lt
        (try replace BG := Lib.hid (BG.out.kept hbr))
        (try replace cG := BG.out.cell)
        (try replace lG := BG.out.lt)
        clear hbr
        dsimp only
        have cE := BE.out.cell
        have fE := BE.out.frozen
        have lE := BE.out.lt
        go_wp2_with fail
        have hZE := HZG.out.box3 (b0 := G0) (b1 := G1) (b2 := G2) (l0 := zz.s.length) (l1 := zz.w.length) (l2 := zz.p.length) (c0 := g0') (c1 := g1') (c2 := g2') BE.out
        have hE6 := HE6.out.box3 (b0 := G0) (b1 := G1) (b2 := G2) (l0 := zz.s.length) (l1 := zz.w.length) (l2 := zz.p.length) (c0 := g0') (c1 := g1') (c2 := g2') BE.out
        have hBX := BX.out.far3 (show w6.heap.size ≠ w7.heap.size + 1 by omega) (.slice G0 zz.s.length g0') (.slice G1 zz.w.length g1') (.slice G2 zz.p.length g2')
        have hBE := BE.out.set3 (.slice G0 zz.s.length g0') (.slice G1 zz.w.length g1') (.slice G2 zz.p.length g2')
        have hHB := below_set3 HBr.out (show w.heap.size ≤ w7.heap.size + 1 by omega) (.slice G0 zz.s.length g0') (.slice G1 zz.w.length g1') (.slice G2 zz.p.length g2')
        clear cE fE lE HZG HE6 BX BE BY cY lY
        generalize (((wr.setCell ⟨w7.heap.size + 1, 0, none⟩ (.slice G0 zz.s.length g0')).setCell ⟨w7.heap.size + 1, 1, none⟩ (.slice G1 zz.w.length g1')).setCell ⟨w7.heap.size + 1, 2, none⟩ (.slice G2 zz.p.length g2')) = ws at *
        have HZE := Lib.hid hZE
        have HE6 := Lib.hid hE6
        have BX := Lib.hid hBX
        have BE := Lib.hid hBE
        have HBs := Lib.hid hHB
        have hs0s := HBs.out.size
        clear hZE hE6 hBX hBE hHB
        have cX := BX.out.cell
        have lX := BX.out.lt
        have cE := BE.out.cell
        have lE := BE.out.lt
        (refine wp_region_calm [] [0, 2] 13 (by kernel_rfl) rfl (by kernel_rfl) (by kernel_rfl) (by kernel_rfl) ?_; simp only [pickB, List.filterMap_cons, List.filterMap_nil, List.getElem?_toArray, List.getElem?_cons_zero, List.getElem?_cons_succ]; (repeat (first | ((with_reducible refine quietL_plain rfl (fun K hK => ?_)); (apply Exists.intro; refine ⟨fun wx hx => ?_, ?_⟩; (· (have hcx := ifs_ex hx); simp [go_sem, *, ↓IntWalk.iteOmega] <;> (first | rfl | exact ⟨rfl, rfl⟩ | fail)); (simp only [Act.put, List.setIfInBounds_toArray, List.set_cons_zero, List.set_cons_succ]; refine hK _ ?_; clear hK K))) | ((with_reducible refine quietL_skip (by with_unfolding_all rfl) ?_); simp only [Act.put, List.setIfInBounds_toArray, List.set_cons_zero, List.set_cons_succ]) | ((with_reducible refine quietL_want (by with_unfolding_all rfl) (fun K hK => ?_)); (apply Exists.intro; refine ⟨fun wx hx => ?_, ?_⟩; (· (have hcx := ifs_ex hx); simp [go_sem, *, ↓IntWalk.iteOmega] <;> (first | rfl | exact ⟨rfl, rfl⟩ | fail)); (simp only [Act.put, List.setIfInBounds_toArray, List.set_cons_zero, List.set_cons_succ]; refine hK _ ?_; clear hK K))))); refine quietL_nil ?_)
        (refine anyB_one (i := 1) (by kernel_rfl) rfl rfl ?_; intro wA hbA K hK; have hsA := hbA.size; (try simp at hsA); go_wp2_with fail)
        refine (HTd.out _ _ _ _ _ _ _ (yd_kept HE6.out hbA)).mono ?_
        rintro e wB ⟨F0, F1, F2, f0, f1, f2, rfl, hOB, hbB⟩
        have hsB := hbB.size
        have HFB := Lib.hid hOB.yd
        clear hOB
        (go_wp2; refine ⟨xs_, ?_⟩)
        (refine anyB_one (i := 3) (by kernel_rfl) rfl rfl ?_; intro wC hbC K hK; have hsC := hbC.size; (try simp at hsC); go_wp2_with fail)
        refine (HSa.out _ _ _ _ _ _ _ _ _ _ _ _ _ (yd_kept HFB.out hbC) (yd_kept HZE.out (hbA.trans ((hbB.trans (hbC.mono hbB.size)).mono hbA.size)))).mono ?_
        rintro e wD ⟨rfl, hbD⟩
        have hsD := hbD.size
        (go_wp2; refine ⟨xs_, ?_⟩)
        have hACD : Below ws.heap.size ws wD := hbA.trans (((hbB.trans (hbC.mono hbB.size)).trans (hbD.mono (by omega))).mono hbA.size)
        (refine anyB_quiet_at (by kernel_rfl) calm_panic xs_ 1 [4, 5, 6, 7, 8, 9, 10, 11, 12, 13] _ _ (by kernel_rfl) (by decide +kernel) ?_; simp only [pickB, List.filterMap_cons, List.filterMap_nil, List.getElem?_toArray, List.getElem?_cons_zero, List.getElem?_cons_succ]; (repeat (first | ((with_reducible refine quietL_plain rfl (fun K hK => ?_)); (apply Exists.intro; refine ⟨fun wx hx => ?_, ?_⟩; (· (have hcx := ifs_ex hx); simp [go_sem, *, ↓IntWalk.iteOmega] <;> (first | rfl | exact ⟨rfl, rfl⟩ | fail)); (simp only [Act.put, List.setIfInBounds_toArray, List.set_cons_zero, List.set_cons_succ]; refine hK _ ?_; clear hK K))) | ((with_reducible refine quietL_skip (by with_unfolding_all rfl) ?_); simp only [Act.put, List.setIfInBounds_toArray, List.set_cons_zero, List.set_cons_succ]) | ((with_reducible refine quietL_want (by with_unfolding_all rfl) (fun K hK => ?_)); (apply Exists.intro; refine ⟨fun wx hx => ?_, ?_⟩; (· (have hcx := ifs_ex hx); simp [go_sem, *, ↓IntWalk.iteOmega] <;> (first | rfl | exact ⟨rfl, rfl⟩ | fail)); (simp only [Act.put, List.setIfInBounds_toArray, List.set_cons_zero, List.set_cons_succ]; refine hK _ ?_; clear hK K))))); refine quietL_nil ?_)
        (refine anyB_one (i := 14) (by kernel_rfl) rfl rfl ?_; intro wE hbE K hK; have hsE := hbE.size; (try simp at hsE); go_wp2; refine ⟨xs_, ?_⟩)
        (refine anyB_end (by kernel_rfl) ?_; intro wF hbF; have hsF := hbF.size; (try simp at hsF); simp only [Calm])
        have hFin : Below w.heap.size w wF := HBs.out.trans ((hACD.trans ((hbE.trans (hbF.mono hbE.size)).mono hACD.size)).mono HBs.out.size)
        clear hbA hbB hbC hbD hbE hbF
        go_wp2_with fail
        go_ret
        exact ⟨by first | rfl | (simp; done), hFin⟩
end Go.Proofs.YtphlojgmfkgeiaaGreatDoor
