/- The law PermitStates. -/
import Derived.Test.YtphlojgmfkgeiaaGreatDoorGB
import Derived.Test.YtphlojgmfkgeiaaGreatDoorLC
import Derived.Test.YtphlojgmfkgeiaaGreatDoorLS
import Derived.Test.YtphlojgmfkgeiaaGreatDoorSA
import Derived.Test.YtphlojgmfkgeiaaGreatDoorWL
namespace Go.Proofs.YtphlojgmfkgeiaaGreatDoor
open Go.RowKit Go.Sort Go.Shelf
set_option linter.unusedSimpArgs false
set_option linter.unusedVariables false
attribute [local go_sem] cell_if frozen_if grow_cell
def nilY : Yd := ⟨[], [], []⟩
theorem nil_yd (w : World) (B : Nat) : YdAt w B none none none 0 0 0 nilY := ⟨Reads.nil_, Reads.nil_, Reads.nil_⟩
set_option maxRecDepth 1000000 in
set_option maxHeartbeats 20000000 in
theorem states_any (A0 A1 A2 : Option Addr) (n0 n1 n2 c0 c1 c2 : Nat) (y : Yd) (s : Int) (w : World) (hY : YdAt w w.heap.size A0 A1 A2 n0 n1 n2 y) (h0 : n0 ≤ maxLen) (h1 : n1 ≤ maxLen) (h2 : n2 ≤ maxLen) (hW : Wide y) (hT : Tabs w) :
    Calls Tryz.prog 6 #[.agg #[.slice A0 n0 c0, .slice A1 n1 c1, .slice A2 n2 c2], .int .i64 s] w fun e w' => e = .returned (.bool true) ∧ Below w.heap.size w w' := by
  have HY := Lib.hid hY
  have HT := Lib.hid (fun W (hW : Below w.heap.size w W) => hT.kept hW)
  have HAw := Lib.hid (fun W (hW : Below w.heap.size w W) => awake_any W (hT.kept hW))
  have HSh := Lib.hid (fun W (hW : Below w.heap.size w W) => Short_any w.heap.size A0 A1 A2 n0 n1 n2 c0 c1 c2 y W (hY.below hW) hW.size h0 h1 h2)
  have HSm := Lib.hid (fun W => Small_any A0 A1 A2 n0 n1 n2 c0 c1 c2 y W (sec_at hY.hs).1 (sw_at hY.hw).1)
  have hl0 := (sec_at hY.hs).1
  have hl1 := (sw_at hY.hw).1
  have hl2 := (pm_at hY.hp).1
  have HL0 := Lib.hid hl0
  have HL1 := Lib.hid hl1
  have HL2 := Lib.hid hl2
  have HF := Lib.hid (fun h => hW.fits (y := y) h)
  clear hY hT h0 h1 h2 hW hl0 hl1 hl2
  cases hS : shortY y with
  | false =>
    rw [hS] at HSh
    clear hS
    go_enter Tryz.func6, Tryz.ntmps6
    go_wp2_with fail
    refine (HAw.out _ bl_).mono ?_
    (rintro e w1 ⟨rfl, hb1⟩; have hs1 := hb1.size; (try simp at hs1))
    have HB1 := Lib.hid (bl_ : Below w.heap.size w w1)
    have BY := Lib.hid (bk_ : Blk w1 w.heap.size 26 #[.slice A0 n0 c0, .slice A1 n1 c1, .slice A2 n2 c2])
    have cY := BY.out.cell
    have lY := BY.out.lt
    clear hb1
    go_wp2_with fail
    refine (HSh.out _ HB1.out).mono ?_
    (rintro e w2 ⟨rfl, hb2⟩; have hs2 := hb2.size; (try simp at hs2))
    have HB2 := Lib.hid (HB1.out.trans (hb2.mono HB1.out.size))
    have hs02 := HB2.out.size
    replace BY := Lib.hid (BY.out.kept hb2)
    replace cY := BY.out.cell
    replace lY := BY.out.lt
    (try replace BG := Lib.hid (BG.out.kept hb2))
    (try replace cG := BG.out.cell)
    (try replace lG := BG.out.lt)
    clear hb2
    go_wp2_with fail
    refine (HAw.out _ HB2.out).mono ?_
    rintro e wz ⟨rfl, hbz⟩
    go_wp2_with fail
    go_ret
    exact ⟨rfl, HB2.out.trans (hbz.mono HB2.out.size)⟩
  | true =>
    rw [hS] at HSh
    have hF := HF.out hS
    have f0 := hF.s9
    have f1 := hF.w9
    have f2 := hF.p9
    have g0 : n0 ≤ 9 := HL0.out ▸ f0
    have g1 : n1 ≤ 9 := HL1.out ▸ f1
    have g2 : n2 ≤ 9 := HL2.out ▸ f2
    have HFt := Lib.hid hF
    have HO := Lib.hid (fun W (hW : Below w.heap.size w W) => (own_any w.heap.size A0 A1 A2 n0 n1 n2 c0 c1 c2 y W (HY.out.below hW) hW.size (by omega) (by omega) (by omega)).mono fun _ _ h => h.sh)
    have HCk := Lib.hid (fun W (hW : Below w.heap.size w W) => rCheckYard_any w.heap.size A0 A1 A2 n0 n1 n2 c0 c1 c2 y W (HY.out.below hW) hW.size hF)
    have HSt := Lib.hid (fun W D0 D1 D2 d0 d1 d2 (hy : YdAt W W.heap.size D0 D1 D2 y.s.length y.w.length y.p.length y) (hW : Below w.heap.size w W) => State_any W.heap.size D0 D1 D2 y.s.length y.w.length y.p.length d0 d1 d2 y W hy (Nat.le_refl _) (HT.out W hW) hF)
    have HWi := Lib.hid (fun W D0 D1 D2 d0 d1 d2 (hy : YdAt W W.heap.size D0 D1 D2 y.s.length y.w.length y.p.length y) (hW : Below w.heap.size w W) => With_any W.heap.size D0 D1 D2 y.s.length y.w.length y.p.length d0 d1 d2 y W hy (Nat.le_refl _) (HT.out W hW) hF s)
    have HRe := Lib.hid (fun W D0 D1 D2 d0 d1 d2 (hy : YdAt W W.heap.size D0 D1 D2 y.s.length y.w.length y.p.length y) (hW : Below w.heap.size w W) => Reached_any W.heap.size D0 D1 D2 y.s.length y.w.length y.p.length d0 d1 d2 y W hy (Nat.le_refl _) (HT.out W hW) hF)
    clear hS hF HF
    cases hq : smallY y with
    | false =>
      rw [hq] at HSm
      clear hq
      cases he : (yardE y == 0) with
      | true =>
        have hee : yardE y = 0 := by simpa using he
        rw [hee] at HCk
        clear he hee
        go_enter Tryz.func6, Tryz.ntmps6
        go_wp2_with fail
        refine (HAw.out _ bl_).mono ?_
        (rintro e w1 ⟨rfl, hb1⟩; have hs1 := hb1.size; (try simp at hs1))
        have HB1 := Lib.hid (bl_ : Below w.heap.size w w1)
        have BY := Lib.hid (bk_ : Blk w1 w.heap.size 26 #[.slice A0 n0 c0, .slice A1 n1 c1, .slice A2 n2 c2])
        have cY := BY.out.cell
        have lY := BY.out.lt
        clear hb1
        go_wp2_with fail
        refine (HSh.out _ HB1.out).mono ?_
        (rintro e w2 ⟨rfl, hb2⟩; have hs2 := hb2.size; (try simp at hs2))
        have HB2 := Lib.hid (HB1.out.trans (hb2.mono HB1.out.size))
        have hs02 := HB2.out.size
        replace BY := Lib.hid (BY.out.kept hb2)
        replace cY := BY.out.cell
        replace lY := BY.out.lt
        (try replace BG := Lib.hid (BG.out.kept hb2))
        (try replace cG := BG.out.cell)
        (try replace lG := BG.out.lt)
        clear hb2
        go_wp2_with fail
        refine (HSm.out _).mono ?_
        (rintro e w3 ⟨rfl, hb3⟩; have hs3 := hb3.size; (try simp at hs3))
        have HB3 := Lib.hid (HB2.out.trans (hb3.mono HB2.out.size))
        have hs03 := HB3.out.size
        replace BY := Lib.hid (BY.out.kept hb3)
        replace cY := BY.out.cell
        replace lY := BY.out.lt
        (try replace BG := Lib.hid (BG.out.kept hb3))
        (try replace cG := BG.out.cell)
        (try replace lG := BG.out.lt)
        clear hb3
        go_wp2_with fail
        refine (HCk.out _ HB3.out).mono ?_
        (rintro e w4 ⟨rfl, hb4⟩; have hs4 := hb4.size; (try simp at hs4))
        have HB4 := Lib.hid (HB3.out.trans (hb4.mono HB3.out.size))
        have hs04 := HB4.out.size
        replace BY := Lib.hid (BY.out.kept hb4)
        replace cY := BY.out.cell
        replace lY := BY.out.lt
        (try replace BG := Lib.hid (BG.out.kept hb4))
        (try replace cG := BG.out.cell)
        (try replace lG := BG.out.lt)
        clear hb4
        go_wp2_with fail
        refine (HAw.out _ HB4.out).mono ?_
        rintro e wz ⟨rfl, hbz⟩
        go_wp2_with fail
        go_ret
        exact ⟨rfl, HB4.out.trans (hbz.mono HB4.out.size)⟩
      | false =>
        have hee : yardE y ≠ 0 := by simpa using he
        have hwe : withE y s = yardE y := by unfold withE; rw [firstE_cons, or0_neg hee, or0_neg hee]
        simp only [hwe, resI_no hee, if_neg hee] at HSt HWi HRe
        generalize yardE y = ee at *
        have HTd := Lib.hid (fun W A0 A1 A2 c0 c1 c2 (hy : YdAt W W.heap.size A0 A1 A2 0 0 0 nilY) => told_any W.heap.size A0 A1 A2 0 0 0 c0 c1 c2 nilY W hy (Nat.le_refl _) (by omega) (by omega) (by omega))
        have HSa := Lib.hid (fun W A0 A1 A2 D0 D1 D2 c0 c1 c2 d0 d1 d2 (hy : YdAt W W.heap.size A0 A1 A2 0 0 0 nilY) (hz : YdAt W W.heap.size D0 D1 D2 0 0 0 nilY) => Same_any W.heap.size A0 A1 A2 0 0 0 c0 c1 c2 D0 D1 D2 0 0 0 d0 d1 d2 nilY W hy hz (Nat.le_refl _) (by omega) (by omega) (by omega))
        clear hwe HFt HT
        go_enter Tryz.func6, Tryz.ntmps6
        go_wp2_with fail
        refine (HAw.out _ bl_).mono ?_
        (rintro e w1 ⟨rfl, hb1⟩; have hs1 := hb1.size; (try simp at hs1))
        have HB1 := Lib.hid (bl_ : Below w.heap.size w w1)
        have BY := Lib.hid (bk_ : Blk w1 w.heap.size 26 #[.slice A0 n0 c0, .slice A1 n1 c1, .slice A2 n2 c2])
        have cY := BY.out.cell
        have lY := BY.out.lt
        clear hb1
        go_wp2_with fail
        refine (HSh.out _ HB1.out).mono ?_
        (rintro e w2 ⟨rfl, hb2⟩; have hs2 := hb2.size; (try simp at hs2))
        have HB2 := Lib.hid (HB1.out.trans (hb2.mono HB1.out.size))
        have hs02 := HB2.out.size
        replace BY := Lib.hid (BY.out.kept hb2)
        replace cY := BY.out.cell
        replace lY := BY.out.lt
        (try replace BG := Lib.hid (BG.out.kept hb2))
        (try replace cG := BG.out.cell)
        (try replace lG := BG.out.lt)
        clear hb2
        go_wp2_with fail
        refine (HSm.out _).mono ?_
        (rintro e w3 ⟨rfl, hb3⟩; have hs3 := hb3.size; (try simp at hs3))
        have HB3 := Lib.hid (HB2.out.trans (hb3.mono HB2.out.size))
        have hs03 := HB3.out.size
        replace BY := Lib.hid (BY.out.kept hb3)
        replace cY := BY.out.cell
        replace lY := BY.out.lt
        (try replace BG := Lib.hid (BG.out.kept hb3))
        (try replace cG := BG.out.cell)
        (try replace lG := BG.out.lt)
        clear hb3
        go_wp2_with fail
        refine (HCk.out _ HB3.out).mono ?_
        (rintro e w4 ⟨rfl, hb4⟩; have hs4 := hb4.size; (try simp at hs4))
        have HB4 := Lib.hid (HB3.out.trans (hb4.mono HB3.out.size))
        have hs04 := HB4.out.size
        replace BY := Lib.hid (BY.out.kept hb4)
        replace cY := BY.out.cell
        replace lY := BY.out.lt
        (try replace BG := Lib.hid (BG.out.kept hb4))
        (try replace cG := BG.out.cell)
        (try replace lG := BG.out.lt)
        clear hb4
        go_wp2_with fail
        refine (HO.out _ HB4.out).mono ?_
        rintro e wa5 ⟨D0, D1, D2, d0, d1, d2, rfl, hyd, hba⟩
        have hsa5 := hba.size
        (try simp at hsa5)
        have HBa5 := Lib.hid (HB4.out.trans (hba.mono HB4.out.size))
        have HYD5 := Lib.hid hyd
        have HA5 := Lib.hid hba
        clear hyd hba
        go_wp2_with fail
        refine (HSt.out _ _ _ _ _ _ _ HYD5.out HBa5.out).mono ?_
        rintro e w5 ⟨rfl, hb5⟩
        have hs5 := hb5.size
        (try simp at hs5)
        have HB5 := Lib.hid (HBa5.out.trans (hb5.mono HBa5.out.size))
        have HK5 := Lib.hid (HA5.out.trans (hb5.mono HA5.out.size))
        clear hb5 HYD5 HA5 HBa5
        replace BY := Lib.hid (BY.out.kept HK5.out)
        have cY := BY.out.cell
        have lY := BY.out.lt
        (try replace HR0 := Lib.hid (il_kept HR0.out HK5.out))
        (try replace HR1 := Lib.hid (rd_kept HR1.out HK5.out))
        (try replace HR2 := Lib.hid (rd_kept HR2.out HK5.out))
        (try replace HR3 := Lib.hid (rd_kept HR3.out HK5.out))
        (try replace HR4 := Lib.hid (rd_kept HR4.out HK5.out))
        (try replace HR5 := Lib.hid (rd_kept HR5.out HK5.out))
        (try replace HR6 := Lib.hid (il_kept HR6.out HK5.out))
        (try replace HR7 := Lib.hid (rd_kept HR7.out HK5.out))
        (try replace HQ1 := Lib.hid (rd_kept HQ1.out HK5.out))
        (try replace HQ2 := Lib.hid (rd_kept HQ2.out HK5.out))
        (try replace HQ3 := Lib.hid (rd_kept HQ3.out HK5.out))
        (try replace HQ4 := Lib.hid (rd_kept HQ4.out HK5.out))
        go_wp2_with fail
        refine (HO.out _ HB5.out).mono ?_
        rintro e wa6 ⟨D0, D1, D2, d0, d1, d2, rfl, hyd, hba⟩
        have hsa6 := hba.size
        (try simp at hsa6)
        have HBa6 := Lib.hid (HB5.out.trans (hba.mono HB5.out.size))
        have HYD6 := Lib.hid hyd
        have HA6 := Lib.hid hba
        clear hyd hba
        go_wp2_with fail
        refine (HWi.out _ _ _ _ _ _ _ HYD6.out HBa6.out).mono ?_
        rintro e w6 (⟨h, _⟩ | ⟨_, rfl, hb6⟩)
        · exact absurd h hee
        have hs6 := hb6.size
        have HB6 := Lib.hid (HBa6.out.trans (hb6.mono HBa6.out.size))
        have HK6 := Lib.hid (HA6.out.trans (hb6.mono HA6.out.size))
        clear hb6 HYD6 HA6 HBa6
        replace BY := Lib.hid (BY.out.kept HK6.out)
        have cY := BY.out.cell
        have lY := BY.out.lt
        (try replace HR0 := Lib.hid (il_kept HR0.out HK6.out))
        (try replace HR1 := Lib.hid (rd_kept HR1.out HK6.out))
        (try replace HR2 := Lib.hid (rd_kept HR2.out HK6.out))
        (try replace HR3 := Lib.hid (rd_kept HR3.out HK6.out))
        (try replace HR4 := Lib.hid (rd_kept HR4.out HK6.out))
        (try replace HR5 := Lib.hid (rd_kept HR5.out HK6.out))
        (try replace HR6 := Lib.hid (il_kept HR6.out HK6.out))
        (try replace HR7 := Lib.hid (rd_kept HR7.out HK6.out))
        (try replace HQ1 := Lib.hid (rd_kept HQ1.out HK6.out))
        (try replace HQ2 := Lib.hid (rd_kept HQ2.out HK6.out))
        (try replace HQ3 := Lib.hid (rd_kept HQ3.out HK6.out))
        (try replace HQ4 := Lib.hid (rd_kept HQ4.out HK6.out))
        unfold zeroY
        replace BY := Lib.hid (BY.out.alloc (.cells #[.slice none 0 0, .slice none 0 0, .slice none 0 0] 41))
        have B7 := Lib.hid (Blk.new w6 41 #[.slice none 0 0, .slice none 0 0, .slice none 0 0])
        have HB6x := Lib.hid (HB6.out.alloc HB6.out.size (.cells #[.slice none 0 0, .slice none 0 0, .slice none 0 0] 41))
        go_wp2_with fail
        refine (HO.out _ HB6x.out).mono ?_
        rintro e wa7 ⟨D0, D1, D2, d0, d1, d2, rfl, hyd, hba⟩
        have hsa7 := hba.size
        (try simp at hsa7)
        have HBa7 := Lib.hid (HB6x.out.trans (hba.mono HB6x.out.size))
        have HYD7 := Lib.hid hyd
        have HA7 := Lib.hid hba
        clear hyd hba
        go_wp2_with fail
        refine (HRe.out _ _ _ _ _ _ _ HYD7.out HBa7.out).mono ?_
        rintro e w7 ⟨A7, cap7, rfl, hr7, hb7⟩
        have hs7 := hb7.size
        (try simp at hs7)
        have HB7 := Lib.hid (HBa7.out.trans (hb7.mono HBa7.out.size))
        have HK7 := Lib.hid (HA7.out.trans (hb7.mono HA7.out.size))
        clear hb7 HYD7 HA7 HBa7
        replace BY := Lib.hid (BY.out.kept HK7.out)
        have cY := BY.out.cell
        have lY := BY.out.lt
        (try replace HR0 := Lib.hid (il_kept HR0.out HK7.out))
        (try replace HR1 := Lib.hid (rd_kept HR1.out HK7.out))
        (try replace HR2 := Lib.hid (rd_kept HR2.out HK7.out))
        (try replace HR3 := Lib.hid (rd_kept HR3.out HK7.out))
        (try replace HR4 := Lib.hid (rd_kept HR4.out HK7.out))
        (try replace HR5 := Lib.hid (rd_kept HR5.out HK7.out))
        (try replace HR6 := Lib.hid (il_kept HR6.out HK7.out))
        (try replace HR7 := Lib.hid (rd_kept HR7.out HK7.out))
        (try replace HQ1 := Lib.hid (rd_kept HQ1.out HK7.out))
        (try replace HQ2 := Lib.hid (rd_kept HQ2.out HK7.out))
        (try replace HQ3 := Lib.hid (rd_kept HQ3.out HK7.out))
        (try replace HQ4 := Lib.hid (rd_kept HQ4.out HK7.out))
        have HR7 := Lib.hid hr7
        replace B7 := Lib.hid (B7.out.kept HK7.out)
        clear hr7
        go_wp2_with fail
        refine (HCk.out _ HB7.out).mono ?_
        (rintro e w8 ⟨rfl, hb8⟩; have hs8 := hb8.size; (try simp at hs8))
        replace B7 := Lib.hid (B7.out.kept hb8)
        replace HR7 := Lib.hid (rd_kept HR7.out hb8)
        have HB8 := Lib.hid (HB7.out.trans (hb8.mono HB7.out.size))
        have hs08 := HB8.out.size
        replace BY := Lib.hid (BY.out.kept hb8)
        replace cY := BY.out.cell
        replace lY := BY.out.lt
        (try replace BG := Lib.hid (BG.out.kept hb8))
        (try replace cG := BG.out.cell)
        (try replace lG := BG.out.lt)
        clear hb8
        go_wp2_with fail
        have BE := Lib.hid (Blk.new w8 26 #[.slice none 0 0, .slice none 0 0, .slice none 0 0])
        replace B7 := Lib.hid (B7.out.alloc (.cells #[.slice none 0 0, .slice none 0 0, .slice none 0 0] 26))
        replace BY := Lib.hid (BY.out.alloc (.cells #[.slice none 0 0, .slice none 0 0, .slice none 0 0] 26))
        replace HR7 := Lib.hid (rd_kept HR7.out ((Below.refl _ _).alloc (Nat.le_refl _) (.cells #[.slice none 0 0, .slice none 0 0, .slice none 0 0] 26)))
        have HB9 := Lib.hid (HB8.out.alloc HB8.out.size (.cells #[.slice none 0 0, .slice none 0 0, .slice none 0 0] 26))
        generalize w8.alloc (.cells #[.slice none 0 0, .slice none 0 0, .slice none 0 0] 26) = w9 at *
        have HZ7 := Lib.hid (nil_yd w9 w9.heap.size)
        have HZE := Lib.hid (nil_yd w9 w9.heap.size)
        have c7 := B7.out.cell
        have l7 := B7.out.lt
        have cE := BE.out.cell
        have lE := BE.out.lt
        have hs09 := HB9.out.size
        (refine wp_region_calm [] [0, 1, 2, 3, 4, 5, 6, 7, 8, 9, 11] 16 (by kernel_rfl) rfl (by kernel_rfl) (by kernel_rfl) (by kernel_rfl) ?_; simp only [pickB, List.filterMap_cons, List.filterMap_nil, List.getElem?_toArray, List.getElem?_cons_zero, List.getElem?_cons_succ]; (repeat (first | ((with_reducible refine quietL_plain rfl (fun K hK => ?_)); (apply Exists.intro; refine ⟨fun wx hx => ?_, ?_⟩; (· (have hcx := ifs_ex hx); simp [go_sem, *, ↓IntWalk.iteOmega] <;> (first | rfl | exact ⟨rfl, rfl⟩ | fail)); (simp only [Act.put, List.setIfInBounds_toArray, List.set_cons_zero, List.set_cons_succ]; refine hK _ ?_; clear hK K))) | ((with_reducible refine quietL_skip (by with_unfolding_all rfl) ?_); simp only [Act.put, List.setIfInBounds_toArray, List.set_cons_zero, List.set_cons_succ]) | ((with_reducible refine quietL_want (by with_unfolding_all rfl) (fun K hK => ?_)); (apply Exists.intro; refine ⟨fun wx hx => ?_, ?_⟩; (· (have hcx := ifs_ex hx); simp [go_sem, *, ↓IntWalk.iteOmega] <;> (first | rfl | exact ⟨rfl, rfl⟩ | fail)); (simp only [Act.put, List.setIfInBounds_toArray, List.set_cons_zero, List.set_cons_succ]; refine hK _ ?_; clear hK K))))); refine quietL_nil ?_)
        (refine anyB_one_want (i := 10) (by kernel_rfl) rfl (by kernel_rfl) ?_; intro wA hbA K hK; have hsA := hbA.size; (try simp at hsA); go_wp2_with fail)
        refine (HTd.out _ _ _ _ _ _ _ (yd_kept HZ7.out hbA)).mono ?_
        rintro e wB ⟨F0, F1, F2, f0, f1, f2, rfl, hOB, hbB⟩
        have hsB := hbB.size
        have hfb := hOB.yd
        (try rw [at_lenR] at hfb)
        have HFB := Lib.hid hfb
        clear hfb
        clear hOB
        (go_wp2; refine ⟨xs_, ?_⟩)
        (refine anyB_one_want (i := 12) (by kernel_rfl) rfl (by kernel_rfl) ?_; intro wC hbC K hK; have hsC := hbC.size; (try simp at hsC); go_wp2_with fail)
        refine (HSa.out _ _ _ _ _ _ _ _ _ _ _ _ _ (yd_kept HFB.out hbC) (yd_kept HZE.out (hbA.trans ((hbB.trans (hbC.mono hbB.size)).mono hbA.size)))).mono ?_
        rintro e wD ⟨rfl, hbD⟩
        have hsD := hbD.size
        (go_wp2; refine ⟨xs_, ?_⟩)
        have hACD : Below w9.heap.size w9 wD := hbA.trans (((hbB.trans (hbC.mono hbB.size)).trans (hbD.mono (by omega))).mono hbA.size)
        skip
        (refine anyB_quiet_at (by kernel_rfl) calm_panic xs_ 1 [13, 14, 15, 16, 17, 18, 19, 20, 21, 22, 23, 24, 25] _ _ (by kernel_rfl) (by decide +kernel) ?_; simp only [pickB, List.filterMap_cons, List.filterMap_nil, List.getElem?_toArray, List.getElem?_cons_zero, List.getElem?_cons_succ]; (repeat (first | ((with_reducible refine quietL_plain rfl (fun K hK => ?_)); (apply Exists.intro; refine ⟨fun wx hx => ?_, ?_⟩; (· (have hcx := ifs_ex hx); simp [go_sem, *, ↓IntWalk.iteOmega] <;> (first | rfl | exact ⟨rfl, rfl⟩ | (exact calls_B (listed_err _ _ _ _ _ _ _ hee rfl _)))); (simp only [Act.put, List.setIfInBounds_toArray, List.set_cons_zero, List.set_cons_succ]; refine hK _ ?_; clear hK K))) | ((with_reducible refine quietL_skip (by with_unfolding_all rfl) ?_); simp only [Act.put, List.setIfInBounds_toArray, List.set_cons_zero, List.set_cons_succ]) | ((with_reducible refine quietL_want (by with_unfolding_all rfl) (fun K hK => ?_)); (apply Exists.intro; refine ⟨fun wx hx => ?_, ?_⟩; (· (have hcx := ifs_ex hx); simp [go_sem, *, ↓IntWalk.iteOmega] <;> (first | rfl | exact ⟨rfl, rfl⟩ | (exact calls_B (listed_err _ _ _ _ _ _ _ hee rfl _)))); (simp only [Act.put, List.setIfInBounds_toArray, List.set_cons_zero, List.set_cons_succ]; refine hK _ ?_; clear hK K))))); refine quietL_nil ?_)
        (refine anyB_one (i := 26) (by kernel_rfl) rfl rfl ?_; intro wE hbE K hK; have hsE := hbE.size; (try simp at hsE); go_wp2; refine ⟨xs_, ?_⟩)
        (refine anyB_end (by kernel_rfl) ?_; intro wF hbF; have hsF := hbF.size; (try simp at hsF); simp only [Calm])
        have hFin : Below w.heap.size w wF := HB9.out.trans ((hACD.trans ((hbE.trans (hbF.mono hbE.size)).mono hACD.size)).mono HB9.out.size)
        clear hbA hbB hbC hbD hbE hbF
        go_wp2_with fail
        go_ret
        exact ⟨by first | rfl | (simp; done), hFin⟩
    | true =>
      rw [hq] at HSm
      clear hq
      by_cases hee : yardE y = 0
      case neg =>
        have hwe : withE y s = yardE y := by unfold withE; rw [firstE_cons, or0_neg hee, or0_neg hee]
        simp only [hwe, resI_no hee, if_neg hee] at HSt HWi HRe
        generalize yardE y = ee at *
        have HTd := Lib.hid (fun W A0 A1 A2 c0 c1 c2 (hy : YdAt W W.heap.size A0 A1 A2 0 0 0 nilY) => told_any W.heap.size A0 A1 A2 0 0 0 c0 c1 c2 nilY W hy (Nat.le_refl _) (by omega) (by omega) (by omega))
        have HSa := Lib.hid (fun W A0 A1 A2 D0 D1 D2 c0 c1 c2 d0 d1 d2 (hy : YdAt W W.heap.size A0 A1 A2 0 0 0 nilY) (hz : YdAt W W.heap.size D0 D1 D2 0 0 0 nilY) => Same_any W.heap.size A0 A1 A2 0 0 0 c0 c1 c2 D0 D1 D2 0 0 0 d0 d1 d2 nilY W hy hz (Nat.le_refl _) (by omega) (by omega) (by omega))
        clear hwe HFt HT
        go_enter Tryz.func6, Tryz.ntmps6
        go_wp2_with fail
        refine (HAw.out _ bl_).mono ?_
        (rintro e w1 ⟨rfl, hb1⟩; have hs1 := hb1.size; (try simp at hs1))
        have HB1 := Lib.hid (bl_ : Below w.heap.size w w1)
        have BY := Lib.hid (bk_ : Blk w1 w.heap.size 26 #[.slice A0 n0 c0, .slice A1 n1 c1, .slice A2 n2 c2])
        have cY := BY.out.cell
        have lY := BY.out.lt
        clear hb1
        go_wp2_with fail
        refine (HSh.out _ HB1.out).mono ?_
        (rintro e w2 ⟨rfl, hb2⟩; have hs2 := hb2.size; (try simp at hs2))
        have HB2 := Lib.hid (HB1.out.trans (hb2.mono HB1.out.size))
        have hs02 := HB2.out.size
        replace BY := Lib.hid (BY.out.kept hb2)
        replace cY := BY.out.cell
        replace lY := BY.out.lt
        (try replace BG := Lib.hid (BG.out.kept hb2))
        (try replace cG := BG.out.cell)
        (try replace lG := BG.out.lt)
        clear hb2
        go_wp2_with fail
        refine (HSm.out _).mono ?_
        (rintro e w3 ⟨rfl, hb3⟩; have hs3 := hb3.size; (try simp at hs3))
        have HB3 := Lib.hid (HB2.out.trans (hb3.mono HB2.out.size))
        have hs03 := HB3.out.size
        replace BY := Lib.hid (BY.out.kept hb3)
        replace cY := BY.out.cell
        replace lY := BY.out.lt
        (try replace BG := Lib.hid (BG.out.kept hb3))
        (try replace cG := BG.out.cell)
        (try replace lG := BG.out.lt)
        clear hb3
        go_wp2_with fail
        go_wp2_with fail
        refine (HO.out _ HB3.out).mono ?_
        rintro e wa5 ⟨D0, D1, D2, d0, d1, d2, rfl, hyd, hba⟩
        have hsa5 := hba.size
        (try simp at hsa5)
        have HBa5 := Lib.hid (HB3.out.trans (hba.mono HB3.out.size))
        have HYD5 := Lib.hid hyd
        have HA5 := Lib.hid hba
        clear hyd hba
        go_wp2_with fail
        refine (HSt.out _ _ _ _ _ _ _ HYD5.out HBa5.out).mono ?_
        rintro e w5 ⟨rfl, hb5⟩
        have hs5 := hb5.size
        (try simp at hs5)
        have HB5 := Lib.hid (HBa5.out.trans (hb5.mono HBa5.out.size))
        have HK5 := Lib.hid (HA5.out.trans (hb5.mono HA5.out.size))
        clear hb5 HYD5 HA5 HBa5
        replace BY := Lib.hid (BY.out.kept HK5.out)
        have cY := BY.out.cell
        have lY := BY.out.lt
        (try replace HR0 := Lib.hid (il_kept HR0.out HK5.out))
        (try replace HR1 := Lib.hid (rd_kept HR1.out HK5.out))
        (try replace HR2 := Lib.hid (rd_kept HR2.out HK5.out))
        (try replace HR3 := Lib.hid (rd_kept HR3.out HK5.out))
        (try replace HR4 := Lib.hid (rd_kept HR4.out HK5.out))
        (try replace HR5 := Lib.hid (rd_kept HR5.out HK5.out))
        (try replace HR6 := Lib.hid (il_kept HR6.out HK5.out))
        (try replace HR7 := Lib.hid (rd_kept HR7.out HK5.out))
        (try replace HQ1 := Lib.hid (rd_kept HQ1.out HK5.out))
        (try replace HQ2 := Lib.hid (rd_kept HQ2.out HK5.out))
        (try replace HQ3 := Lib.hid (rd_kept HQ3.out HK5.out))
        (try replace HQ4 := Lib.hid (rd_kept HQ4.out HK5.out))
        go_wp2_with fail
        refine (HO.out _ HB5.out).mono ?_
        rintro e wa6 ⟨D0, D1, D2, d0, d1, d2, rfl, hyd, hba⟩
        have hsa6 := hba.size
        (try simp at hsa6)
        have HBa6 := Lib.hid (HB5.out.trans (hba.mono HB5.out.size))
        have HYD6 := Lib.hid hyd
        have HA6 := Lib.hid hba
        clear hyd hba
        go_wp2_with fail
        refine (HWi.out _ _ _ _ _ _ _ HYD6.out HBa6.out).mono ?_
        rintro e w6 (⟨h, _⟩ | ⟨_, rfl, hb6⟩)
        · exact absurd h hee
        have hs6 := hb6.size
        have HB6 := Lib.hid (HBa6.out.trans (hb6.mono HBa6.out.size))
        have HK6 := Lib.hid (HA6.out.trans (hb6.mono HA6.out.size))
        clear hb6 HYD6 HA6 HBa6
        replace BY := Lib.hid (BY.out.kept HK6.out)
        have cY := BY.out.cell
        have lY := BY.out.lt
        (try replace HR0 := Lib.hid (il_kept HR0.out HK6.out))
        (try replace HR1 := Lib.hid (rd_kept HR1.out HK6.out))
        (try replace HR2 := Lib.hid (rd_kept HR2.out HK6.out))
        (try replace HR3 := Lib.hid (rd_kept HR3.out HK6.out))
        (try replace HR4 := Lib.hid (rd_kept HR4.out HK6.out))
        (try replace HR5 := Lib.hid (rd_kept HR5.out HK6.out))
        (try replace HR6 := Lib.hid (il_kept HR6.out HK6.out))
        (try replace HR7 := Lib.hid (rd_kept HR7.out HK6.out))
        (try replace HQ1 := Lib.hid (rd_kept HQ1.out HK6.out))
        (try replace HQ2 := Lib.hid (rd_kept HQ2.out HK6.out))
        (try replace HQ3 := Lib.hid (rd_kept HQ3.out HK6.out))
        (try replace HQ4 := Lib.hid (rd_kept HQ4.out HK6.out))
        unfold zeroY
        replace BY := Lib.hid (BY.out.alloc (.cells #[.slice none 0 0, .slice none 0 0, .slice none 0 0] 41))
        have B7 := Lib.hid (Blk.new w6 41 #[.slice none 0 0, .slice none 0 0, .slice none 0 0])
        have HB6x := Lib.hid (HB6.out.alloc HB6.out.size (.cells #[.slice none 0 0, .slice none 0 0, .slice none 0 0] 41))
        go_wp2_with fail
        refine (HO.out _ HB6x.out).mono ?_
        rintro e wa7 ⟨D0, D1, D2, d0, d1, d2, rfl, hyd, hba⟩
        have hsa7 := hba.size
        (try simp at hsa7)
        have HBa7 := Lib.hid (HB6x.out.trans (hba.mono HB6x.out.size))
        have HYD7 := Lib.hid hyd
        have HA7 := Lib.hid hba
        clear hyd hba
        go_wp2_with fail
        refine (HRe.out _ _ _ _ _ _ _ HYD7.out HBa7.out).mono ?_
        rintro e w7 ⟨A7, cap7, rfl, hr7, hb7⟩
        have hs7 := hb7.size
        (try simp at hs7)
        have HB7 := Lib.hid (HBa7.out.trans (hb7.mono HBa7.out.size))
        have HK7 := Lib.hid (HA7.out.trans (hb7.mono HA7.out.size))
        clear hb7 HYD7 HA7 HBa7
        replace BY := Lib.hid (BY.out.kept HK7.out)
        have cY := BY.out.cell
        have lY := BY.out.lt
        (try replace HR0 := Lib.hid (il_kept HR0.out HK7.out))
        (try replace HR1 := Lib.hid (rd_kept HR1.out HK7.out))
        (try replace HR2 := Lib.hid (rd_kept HR2.out HK7.out))
        (try replace HR3 := Lib.hid (rd_kept HR3.out HK7.out))
        (try replace HR4 := Lib.hid (rd_kept HR4.out HK7.out))
        (try replace HR5 := Lib.hid (rd_kept HR5.out HK7.out))
        (try replace HR6 := Lib.hid (il_kept HR6.out HK7.out))
        (try replace HR7 := Lib.hid (rd_kept HR7.out HK7.out))
        (try replace HQ1 := Lib.hid (rd_kept HQ1.out HK7.out))
        (try replace HQ2 := Lib.hid (rd_kept HQ2.out HK7.out))
        (try replace HQ3 := Lib.hid (rd_kept HQ3.out HK7.out))
        (try replace HQ4 := Lib.hid (rd_kept HQ4.out HK7.out))
        have HR7 := Lib.hid hr7
        replace B7 := Lib.hid (B7.out.kept HK7.out)
        clear hr7
        go_wp2_with fail
        refine (HCk.out _ HB7.out).mono ?_
        (rintro e w8 ⟨rfl, hb8⟩; have hs8 := hb8.size; (try simp at hs8))
        replace B7 := Lib.hid (B7.out.kept hb8)
        replace HR7 := Lib.hid (rd_kept HR7.out hb8)
        have HB8 := Lib.hid (HB7.out.trans (hb8.mono HB7.out.size))
        have hs08 := HB8.out.size
        replace BY := Lib.hid (BY.out.kept hb8)
        replace cY := BY.out.cell
        replace lY := BY.out.lt
        (try replace BG := Lib.hid (BG.out.kept hb8))
        (try replace cG := BG.out.cell)
        (try replace lG := BG.out.lt)
        clear hb8
        go_wp2_with fail
        have BE := Lib.hid (Blk.new w8 26 #[.slice none 0 0, .slice none 0 0, .slice none 0 0])
        replace B7 := Lib.hid (B7.out.alloc (.cells #[.slice none 0 0, .slice none 0 0, .slice none 0 0] 26))
        replace BY := Lib.hid (BY.out.alloc (.cells #[.slice none 0 0, .slice none 0 0, .slice none 0 0] 26))
        replace HR7 := Lib.hid (rd_kept HR7.out ((Below.refl _ _).alloc (Nat.le_refl _) (.cells #[.slice none 0 0, .slice none 0 0, .slice none 0 0] 26)))
        have HB9 := Lib.hid (HB8.out.alloc HB8.out.size (.cells #[.slice none 0 0, .slice none 0 0, .slice none 0 0] 26))
        generalize w8.alloc (.cells #[.slice none 0 0, .slice none 0 0, .slice none 0 0] 26) = w9 at *
        have HZ7 := Lib.hid (nil_yd w9 w9.heap.size)
        have HZE := Lib.hid (nil_yd w9 w9.heap.size)
        have c7 := B7.out.cell
        have l7 := B7.out.lt
        have cE := BE.out.cell
        have lE := BE.out.lt
        have hs09 := HB9.out.size
        (refine wp_region_calm [] [0, 1, 2, 3, 4, 5, 6, 7, 8, 9, 11] 16 (by kernel_rfl) rfl (by kernel_rfl) (by kernel_rfl) (by kernel_rfl) ?_; simp only [pickB, List.filterMap_cons, List.filterMap_nil, List.getElem?_toArray, List.getElem?_cons_zero, List.getElem?_cons_succ]; (repeat (first | ((with_reducible refine quietL_plain rfl (fun K hK => ?_)); (apply Exists.intro; refine ⟨fun wx hx => ?_, ?_⟩; (· (have hcx := ifs_ex hx); simp [go_sem, *, ↓IntWalk.iteOmega] <;> (first | rfl | exact ⟨rfl, rfl⟩ | fail)); (simp only [Act.put, List.setIfInBounds_toArray, List.set_cons_zero, List.set_cons_succ]; refine hK _ ?_; clear hK K))) | ((with_reducible refine quietL_skip (by with_unfolding_all rfl) ?_); simp only [Act.put, List.setIfInBounds_toArray, List.set_cons_zero, List.set_cons_succ]) | ((with_reducible refine quietL_want (by with_unfolding_all rfl) (fun K hK => ?_)); (apply Exists.intro; refine ⟨fun wx hx => ?_, ?_⟩; (· (have hcx := ifs_ex hx); simp [go_sem, *, ↓IntWalk.iteOmega] <;> (first | rfl | exact ⟨rfl, rfl⟩ | fail)); (simp only [Act.put, List.setIfInBounds_toArray, List.set_cons_zero, List.set_cons_succ]; refine hK _ ?_; clear hK K))))); refine quietL_nil ?_)
        (refine anyB_one_want (i := 10) (by kernel_rfl) rfl (by kernel_rfl) ?_; intro wA hbA K hK; have hsA := hbA.size; (try simp at hsA); go_wp2_with fail)
        refine (HTd.out _ _ _ _ _ _ _ (yd_kept HZ7.out hbA)).mono ?_
        rintro e wB ⟨F0, F1, F2, f0, f1, f2, rfl, hOB, hbB⟩
        have hsB := hbB.size
        have hfb := hOB.yd
        (try rw [at_lenR] at hfb)
        have HFB := Lib.hid hfb
        clear hfb
        clear hOB
        (go_wp2; refine ⟨xs_, ?_⟩)
        (refine anyB_one_want (i := 12) (by kernel_rfl) rfl (by kernel_rfl) ?_; intro wC hbC K hK; have hsC := hbC.size; (try simp at hsC); go_wp2_with fail)
        refine (HSa.out _ _ _ _ _ _ _ _ _ _ _ _ _ (yd_kept HFB.out hbC) (yd_kept HZE.out (hbA.trans ((hbB.trans (hbC.mono hbB.size)).mono hbA.size)))).mono ?_
        rintro e wD ⟨rfl, hbD⟩
        have hsD := hbD.size
        (go_wp2; refine ⟨xs_, ?_⟩)
        have hACD : Below w9.heap.size w9 wD := hbA.trans (((hbB.trans (hbC.mono hbB.size)).trans (hbD.mono (by omega))).mono hbA.size)
        skip
        (refine anyB_quiet_at (by kernel_rfl) calm_panic xs_ 1 [13, 14, 15, 16, 17, 18, 19, 20, 21, 22, 23, 24, 25] _ _ (by kernel_rfl) (by decide +kernel) ?_; simp only [pickB, List.filterMap_cons, List.filterMap_nil, List.getElem?_toArray, List.getElem?_cons_zero, List.getElem?_cons_succ]; (repeat (first | ((with_reducible refine quietL_plain rfl (fun K hK => ?_)); (apply Exists.intro; refine ⟨fun wx hx => ?_, ?_⟩; (· (have hcx := ifs_ex hx); simp [go_sem, *, ↓IntWalk.iteOmega] <;> (first | rfl | exact ⟨rfl, rfl⟩ | (exact calls_B (listed_err _ _ _ _ _ _ _ hee rfl _)))); (simp only [Act.put, List.setIfInBounds_toArray, List.set_cons_zero, List.set_cons_succ]; refine hK _ ?_; clear hK K))) | ((with_reducible refine quietL_skip (by with_unfolding_all rfl) ?_); simp only [Act.put, List.setIfInBounds_toArray, List.set_cons_zero, List.set_cons_succ]) | ((with_reducible refine quietL_want (by with_unfolding_all rfl) (fun K hK => ?_)); (apply Exists.intro; refine ⟨fun wx hx => ?_, ?_⟩; (· (have hcx := ifs_ex hx); simp [go_sem, *, ↓IntWalk.iteOmega] <;> (first | rfl | exact ⟨rfl, rfl⟩ | (exact calls_B (listed_err _ _ _ _ _ _ _ hee rfl _)))); (simp only [Act.put, List.setIfInBounds_toArray, List.set_cons_zero, List.set_cons_succ]; refine hK _ ?_; clear hK K))))); refine quietL_nil ?_)
        (refine anyB_one (i := 26) (by kernel_rfl) rfl rfl ?_; intro wE hbE K hK; have hsE := hbE.size; (try simp at hsE); go_wp2; refine ⟨xs_, ?_⟩)
        (refine anyB_end (by kernel_rfl) ?_; intro wF hbF; have hsF := hbF.size; (try simp at hsF); simp only [Calm])
        have hFin : Below w.heap.size w wF := HB9.out.trans ((hACD.trans ((hbE.trans (hbF.mono hbE.size)).mono hACD.size)).mono HB9.out.size)
        clear hbA hbB hbC hbD hbE hbF
        go_wp2_with fail
        go_ret
        exact ⟨by first | rfl | (simp; done), hFin⟩
      have hP := (yard_ok hee).1
      have hp9 := pow9 (k := n1) (by omega)
      have hrl := reachL_len y
      have hrl2 : (reachL y).length ≤ 1000 := by
        have := hP.w8
        have h2 : 2 ^ y.w.length ≤ 2 ^ 8 := Nat.pow_le_pow_right (by decide) this
        omega
      have HrSt := Lib.hid (fun W (hW : Below w.heap.size w W) => rState_any w.heap.size A0 A1 A2 n0 n1 n2 c0 c1 c2 y W (HY.out.below hW) hW.size (by omega))
      have HrRe := Lib.hid (fun W (hW : Below w.heap.size w W) => rReached_any w.heap.size A0 A1 A2 n0 n1 n2 c0 c1 c2 y W (HY.out.below hW) hW.size hP)
      have HrCS := Lib.hid (fun W => rCheckState_any A0 A1 A2 n0 n1 n2 c0 c1 c2 s W (by omega))
      have HrWi := Lib.hid (fun W (hW : Below w.heap.size w W) (hs : 0 ≤ s ∧ s < 2 ^ n1) => (rWith_any w.heap.size A0 A1 A2 n0 n1 n2 c0 c1 c2 y s W (HY.out.below hW) hW.size (by omega) (by omega) (by omega) hs.1 (by omega)).mono fun _ _ h => h.lens (m0 := y.s.length) (m1 := y.w.length) (m2 := y.p.length) rfl (at_lenR y s) rfl)
      have HrSo := Lib.hid (fun W D0 D1 D2 d0 d1 d2 (hz : YdAt W W.heap.size D0 D1 D2 y.s.length y.w.length y.p.length (y.at s)) => Sound_any W.heap.size D0 D1 D2 _ _ _ d0 d1 d2 (y.at s) W hz (Nat.le_refl _) (hP.at s))
      have hwe : withE y s = or0 (stE n1 s) (whenE (!soundB (y.at s)) 22) := by
        unfold withE
        rw [hee, HL1.out]
        congr 1
        rw [firstE_cons, firstE_cons, firstE_nil]
        unfold or0
        simp
        exact fun h => h.symm
      rw [hwe] at HWi
      simp only [hee, resI_ok, if_true] at HSt HRe
      rw [show stUp y.w y.w.length = stUp y.w n1 by rw [HL1.out]] at HSt
      rw [hee] at HCk
      clear hrl hee hwe HFt HT hp9
      generalize reachL y = rl at *
      generalize stUp y.w n1 = st at *
      by_cases hst : stE n1 s = 0
      case neg =>
        have hwe : or0 (stE n1 s) (whenE (!soundB (y.at s)) 22) = stE n1 s := or0_neg hst
        rw [hwe] at HWi
        have HTd := Lib.hid (fun W A0 A1 A2 c0 c1 c2 (hy : YdAt W W.heap.size A0 A1 A2 0 0 0 nilY) => told_any W.heap.size A0 A1 A2 0 0 0 c0 c1 c2 nilY W hy (Nat.le_refl _) (by omega) (by omega) (by omega))
        have HSa := Lib.hid (fun W A0 A1 A2 D0 D1 D2 c0 c1 c2 d0 d1 d2 (hy : YdAt W W.heap.size A0 A1 A2 0 0 0 nilY) (hz : YdAt W W.heap.size D0 D1 D2 0 0 0 nilY) => Same_any W.heap.size A0 A1 A2 0 0 0 c0 c1 c2 D0 D1 D2 0 0 0 d0 d1 d2 nilY W hy hz (Nat.le_refl _) (by omega) (by omega) (by omega))
        clear hwe HrWi HrSo
        generalize stE n1 s = ee at *
        go_enter Tryz.func6, Tryz.ntmps6
        go_wp2_with fail
        refine (HAw.out _ bl_).mono ?_
        (rintro e w1 ⟨rfl, hb1⟩; have hs1 := hb1.size; (try simp at hs1))
        have HB1 := Lib.hid (bl_ : Below w.heap.size w w1)
        have BY := Lib.hid (bk_ : Blk w1 w.heap.size 26 #[.slice A0 n0 c0, .slice A1 n1 c1, .slice A2 n2 c2])
        have cY := BY.out.cell
        have lY := BY.out.lt
        clear hb1
        go_wp2_with fail
        refine (HSh.out _ HB1.out).mono ?_
        (rintro e w2 ⟨rfl, hb2⟩; have hs2 := hb2.size; (try simp at hs2))
        have HB2 := Lib.hid (HB1.out.trans (hb2.mono HB1.out.size))
        have hs02 := HB2.out.size
        replace BY := Lib.hid (BY.out.kept hb2)
        replace cY := BY.out.cell
        replace lY := BY.out.lt
        (try replace BG := Lib.hid (BG.out.kept hb2))
        (try replace cG := BG.out.cell)
        (try replace lG := BG.out.lt)
        clear hb2
        go_wp2_with fail
        refine (HSm.out _).mono ?_
        (rintro e w3 ⟨rfl, hb3⟩; have hs3 := hb3.size; (try simp at hs3))
        have HB3 := Lib.hid (HB2.out.trans (hb3.mono HB2.out.size))
        have hs03 := HB3.out.size
        replace BY := Lib.hid (BY.out.kept hb3)
        replace cY := BY.out.cell
        replace lY := BY.out.lt
        (try replace BG := Lib.hid (BG.out.kept hb3))
        (try replace cG := BG.out.cell)
        (try replace lG := BG.out.lt)
        clear hb3
        go_wp2_with fail
        go_wp2_with fail
        refine (HO.out _ HB3.out).mono ?_
        rintro e wa5 ⟨D0, D1, D2, d0, d1, d2, rfl, hyd, hba⟩
        have hsa5 := hba.size
        (try simp at hsa5)
        have HBa5 := Lib.hid (HB3.out.trans (hba.mono HB3.out.size))
        have HYD5 := Lib.hid hyd
        have HA5 := Lib.hid hba
        clear hyd hba
        go_wp2_with fail
        refine (HSt.out _ _ _ _ _ _ _ HYD5.out HBa5.out).mono ?_
        rintro e w5 ⟨rfl, hb5⟩
        have hs5 := hb5.size
        (try simp at hs5)
        have HB5 := Lib.hid (HBa5.out.trans (hb5.mono HBa5.out.size))
        have HK5 := Lib.hid (HA5.out.trans (hb5.mono HA5.out.size))
        clear hb5 HYD5 HA5 HBa5
        replace BY := Lib.hid (BY.out.kept HK5.out)
        have cY := BY.out.cell
        have lY := BY.out.lt
        (try replace HR0 := Lib.hid (il_kept HR0.out HK5.out))
        (try replace HR1 := Lib.hid (rd_kept HR1.out HK5.out))
        (try replace HR2 := Lib.hid (rd_kept HR2.out HK5.out))
        (try replace HR3 := Lib.hid (rd_kept HR3.out HK5.out))
        (try replace HR4 := Lib.hid (rd_kept HR4.out HK5.out))
        (try replace HR5 := Lib.hid (rd_kept HR5.out HK5.out))
        (try replace HR6 := Lib.hid (il_kept HR6.out HK5.out))
        (try replace HR7 := Lib.hid (rd_kept HR7.out HK5.out))
        (try replace HQ1 := Lib.hid (rd_kept HQ1.out HK5.out))
        (try replace HQ2 := Lib.hid (rd_kept HQ2.out HK5.out))
        (try replace HQ3 := Lib.hid (rd_kept HQ3.out HK5.out))
        (try replace HQ4 := Lib.hid (rd_kept HQ4.out HK5.out))
        go_wp2_with fail
        refine (HO.out _ HB5.out).mono ?_
        rintro e wa6 ⟨D0, D1, D2, d0, d1, d2, rfl, hyd, hba⟩
        have hsa6 := hba.size
        (try simp at hsa6)
        have HBa6 := Lib.hid (HB5.out.trans (hba.mono HB5.out.size))
        have HYD6 := Lib.hid hyd
        have HA6 := Lib.hid hba
        clear hyd hba
        go_wp2_with fail
        refine (HWi.out _ _ _ _ _ _ _ HYD6.out HBa6.out).mono ?_
        rintro e w6 (⟨h, _⟩ | ⟨_, rfl, hb6⟩)
        · exact absurd h hst
        have hs6 := hb6.size
        have HB6 := Lib.hid (HBa6.out.trans (hb6.mono HBa6.out.size))
        have HK6 := Lib.hid (HA6.out.trans (hb6.mono HA6.out.size))
        clear hb6 HYD6 HA6 HBa6
        replace BY := Lib.hid (BY.out.kept HK6.out)
        have cY := BY.out.cell
        have lY := BY.out.lt
        (try replace HR0 := Lib.hid (il_kept HR0.out HK6.out))
        (try replace HR1 := Lib.hid (rd_kept HR1.out HK6.out))
        (try replace HR2 := Lib.hid (rd_kept HR2.out HK6.out))
        (try replace HR3 := Lib.hid (rd_kept HR3.out HK6.out))
        (try replace HR4 := Lib.hid (rd_kept HR4.out HK6.out))
        (try replace HR5 := Lib.hid (rd_kept HR5.out HK6.out))
        (try replace HR6 := Lib.hid (il_kept HR6.out HK6.out))
        (try replace HR7 := Lib.hid (rd_kept HR7.out HK6.out))
        (try replace HQ1 := Lib.hid (rd_kept HQ1.out HK6.out))
        (try replace HQ2 := Lib.hid (rd_kept HQ2.out HK6.out))
        (try replace HQ3 := Lib.hid (rd_kept HQ3.out HK6.out))
        (try replace HQ4 := Lib.hid (rd_kept HQ4.out HK6.out))
        unfold zeroY
        replace BY := Lib.hid (BY.out.alloc (.cells #[.slice none 0 0, .slice none 0 0, .slice none 0 0] 41))
        have B7 := Lib.hid (Blk.new w6 41 #[.slice none 0 0, .slice none 0 0, .slice none 0 0])
        have HB6x := Lib.hid (HB6.out.alloc HB6.out.size (.cells #[.slice none 0 0, .slice none 0 0, .slice none 0 0] 41))
        go_wp2_with fail
        refine (HO.out _ HB6x.out).mono ?_
        rintro e wa7 ⟨D0, D1, D2, d0, d1, d2, rfl, hyd, hba⟩
        have hsa7 := hba.size
        (try simp at hsa7)
        have HBa7 := Lib.hid (HB6x.out.trans (hba.mono HB6x.out.size))
        have HYD7 := Lib.hid hyd
        have HA7 := Lib.hid hba
        clear hyd hba
        go_wp2_with fail
        refine (HRe.out _ _ _ _ _ _ _ HYD7.out HBa7.out).mono ?_
        rintro e w7 ⟨A7, cap7, rfl, hr7, hb7⟩
        have hs7 := hb7.size
        (try simp at hs7)
        have HB7 := Lib.hid (HBa7.out.trans (hb7.mono HBa7.out.size))
        have HK7 := Lib.hid (HA7.out.trans (hb7.mono HA7.out.size))
        clear hb7 HYD7 HA7 HBa7
        replace BY := Lib.hid (BY.out.kept HK7.out)
        have cY := BY.out.cell
        have lY := BY.out.lt
        (try replace HR0 := Lib.hid (il_kept HR0.out HK7.out))
        (try replace HR1 := Lib.hid (rd_kept HR1.out HK7.out))
        (try replace HR2 := Lib.hid (rd_kept HR2.out HK7.out))
        (try replace HR3 := Lib.hid (rd_kept HR3.out HK7.out))
        (try replace HR4 := Lib.hid (rd_kept HR4.out HK7.out))
        (try replace HR5 := Lib.hid (rd_kept HR5.out HK7.out))
        (try replace HR6 := Lib.hid (il_kept HR6.out HK7.out))
        (try replace HR7 := Lib.hid (rd_kept HR7.out HK7.out))
        (try replace HQ1 := Lib.hid (rd_kept HQ1.out HK7.out))
        (try replace HQ2 := Lib.hid (rd_kept HQ2.out HK7.out))
        (try replace HQ3 := Lib.hid (rd_kept HQ3.out HK7.out))
        (try replace HQ4 := Lib.hid (rd_kept HQ4.out HK7.out))
        have HR7 := Lib.hid hr7
        replace B7 := Lib.hid (B7.out.kept HK7.out)
        (try replace HZ7 := Lib.hid (yd_kept HZ7.out HK7.out))
        clear hr7
        go_wp2_with fail
        refine (HCk.out _ HB7.out).mono ?_
        (rintro e w8 ⟨rfl, hb8⟩; have hs8 := hb8.size; (try simp at hs8))
        replace B7 := Lib.hid (B7.out.kept hb8)
        (try replace HZ7 := Lib.hid (yd_kept HZ7.out hb8))
        replace HR7 := Lib.hid (rd_kept HR7.out hb8)
        have HB8 := Lib.hid (HB7.out.trans (hb8.mono HB7.out.size))
        have hs08 := HB8.out.size
        replace BY := Lib.hid (BY.out.kept hb8)
        replace cY := BY.out.cell
        replace lY := BY.out.lt
        (try replace BG := Lib.hid (BG.out.kept hb8))
        (try replace cG := BG.out.cell)
        (try replace lG := BG.out.lt)
        clear hb8
        go_wp2_with fail
        have HZ7 := Lib.hid (nil_yd w8 w8.heap.size)
        have BE := Lib.hid (Blk.new w8 26 #[.slice none 0 0, .slice none 0 0, .slice none 0 0])
        replace B7 := Lib.hid (B7.out.alloc (.cells #[.slice none 0 0, .slice none 0 0, .slice none 0 0] 26))
        replace BY := Lib.hid (BY.out.alloc (.cells #[.slice none 0 0, .slice none 0 0, .slice none 0 0] 26))
        have hb89 : Below w8.heap.size w8 (w8.alloc (.cells #[.slice none 0 0, .slice none 0 0, .slice none 0 0] 26)) := (Below.refl _ _).alloc (Nat.le_refl _) _
        replace HR7 := Lib.hid (HR7.out.below hb89)
        replace HZ7 := Lib.hid (HZ7.out.below hb89)
        have HB9 := Lib.hid (HB8.out.alloc HB8.out.size (.cells #[.slice none 0 0, .slice none 0 0, .slice none 0 0] 26))
        have hs89 : w8.heap.size + 1 = (w8.alloc (.cells #[.slice none 0 0, .slice none 0 0, .slice none 0 0] 26)).heap.size := by simp
        clear hb89 cY lY
        generalize w8.alloc (.cells #[.slice none 0 0, .slice none 0 0, .slice none 0 0] 26) = w9 at *
        have cY := BY.out.cell
        have lY := BY.out.lt
        have hs09 := HB9.out.size
        (refine wp_region_calm [] [0, 1, 2, 4, 5] 5 (by kernel_rfl) rfl (by kernel_rfl) (by kernel_rfl) (by kernel_rfl) ?_; simp only [pickB, List.filterMap_cons, List.filterMap_nil, List.getElem?_toArray, List.getElem?_cons_zero, List.getElem?_cons_succ]; (repeat (first | ((with_reducible refine quietL_plain rfl (fun K hK => ?_)); (apply Exists.intro; refine ⟨fun wx hx => ?_, ?_⟩; (· (have hcx := ifs_ex hx); simp [go_sem, *, ↓IntWalk.iteOmega] <;> (first | rfl | exact ⟨rfl, rfl⟩ | (have hbx := Ex.belowW hx; exact calls_B (HrSt.out _ (HB9.out.trans (hbx.mono HB9.out.size)))))); (simp only [Act.put, List.setIfInBounds_toArray, List.set_cons_zero, List.set_cons_succ]; refine hK _ ?_; clear hK K))) | ((with_reducible refine quietL_skip (by with_unfolding_all rfl) ?_); simp only [Act.put, List.setIfInBounds_toArray, List.set_cons_zero, List.set_cons_succ]) | ((with_reducible refine quietL_want (by with_unfolding_all rfl) (fun K hK => ?_)); (apply Exists.intro; refine ⟨fun wx hx => ?_, ?_⟩; (· (have hcx := ifs_ex hx); simp [go_sem, *, ↓IntWalk.iteOmega] <;> (first | rfl | exact ⟨rfl, rfl⟩ | (have hbx := Ex.belowW hx; exact calls_B (HrSt.out _ (HB9.out.trans (hbx.mono HB9.out.size)))))); (simp only [Act.put, List.setIfInBounds_toArray, List.set_cons_zero, List.set_cons_succ]; refine hK _ ?_; clear hK K))))); refine quietL_nil ?_)
        (refine anyB_one (i := 3) (by kernel_rfl) rfl rfl ?_; intro wa hba K hK; have hsa := hba.size; (try simp at hsa); go_wp2_with fail)
        refine (HrRe.out _ (HB9.out.trans (hba.mono HB9.out.size))).mono ?_
        rintro e wb ⟨Ar, capr, rfl, hrr, hbb⟩
        have hsb := hbb.size
        (go_wp2; refine ⟨xs_, ?_⟩)
        (refine anyB_one (i := 6) (by kernel_rfl) rfl rfl ?_; intro wc hbc K hK; have hsc := hbc.size; (try simp at hsc); go_wp2_with fail)
        refine (HrCS.out _).mono ?_
        (rintro e wd ⟨rfl, hbd⟩; have hsd := hbd.size; (try simp at hsd))
        (go_wp2; refine ⟨xs_, ?_⟩)
        (refine anyB_one (i := 7) (by kernel_rfl) rfl rfl ?_; intro we hbe K hK; have hse := hbe.size; (try simp at hse); go_wp2; refine ⟨xs_, ?_⟩)
        (refine anyB_one (i := 8) (by kernel_rfl) rfl rfl ?_; intro wf hbf K hK; have hsf := hbf.size; (try simp at hsf); go_wp2; refine ⟨xs_, ?_⟩)
        (refine anyB_one (i := 9) (by kernel_rfl) rfl rfl ?_; intro wg hbg K hK; have hsg := hbg.size; (try simp at hsg); go_wp2; refine ⟨xs_, ?_⟩)
        (refine anyB_end (by kernel_rfl) ?_; intro wh hbh; have hsh := hbh.size; (try simp at hsh); simp only [Calm])
        have hb9h : Below w9.heap.size w9 wh := below_trans hba (below_trans hbb (below_trans hbc (below_trans hbd (below_trans hbe (below_trans hbf (below_trans hbg hbh))))))
        have hbbh : Below wb.heap.size wb wh := below_trans hbc (below_trans hbd (below_trans hbe (below_trans hbf (below_trans hbg hbh))))
        have HRr := Lib.hid (row_base (own_kept hrr hbbh) (show w9.heap.size ≤ _ by omega))
        replace BY := Lib.hid (BY.out.kept hb9h)
        replace B7 := Lib.hid (B7.out.kept hb9h)
        replace BE := Lib.hid (BE.out.kept hb9h)
        replace HR7 := Lib.hid (HR7.out.below (hb9h.mono (by omega)))
        replace HZ7 := Lib.hid (HZ7.out.below (hb9h.mono (by omega)))
        have HBh := Lib.hid (HB9.out.trans (hb9h.mono HB9.out.size))
        have hs0h := HBh.out.size
        replace cY := BY.out.cell
        replace lY := BY.out.lt
        have hs9h := hb9h.size
        clear hba hbb hbc hbd hbe hbf hbg hbh hrr hbbh hb9h
        go_wp2_with fail
        have c7 := B7.out.cell
        have l7 := B7.out.lt
        have cE := BE.out.cell
        have lE := BE.out.lt
        replace HZ7 := Lib.hid (nil_yd wh wh.heap.size)
        have HZE := Lib.hid (nil_yd wh wh.heap.size)
        obtain ⟨Ar', capr', er, _, _, hrr⟩ := own_form HRr.out
        cases er
        have HRr2 := Lib.hid hrr
        replace HR7 := Lib.hid (HR7.out.more (show w8.heap.size ≤ wh.heap.size by omega))
        clear hrr
        (refine wp_region_calm [] [0, 1, 2, 3, 4, 5, 6, 7, 8, 9, 11] 16 (by kernel_rfl) rfl (by kernel_rfl) (by kernel_rfl) (by kernel_rfl) ?_; simp only [pickB, List.filterMap_cons, List.filterMap_nil, List.getElem?_toArray, List.getElem?_cons_zero, List.getElem?_cons_succ]; (repeat (first | ((with_reducible refine quietL_plain rfl (fun K hK => ?_)); (apply Exists.intro; refine ⟨fun wx hx => ?_, ?_⟩; (· (have hcx := ifs_ex hx); simp [go_sem, *, ↓IntWalk.iteOmega] <;> (first | rfl | exact ⟨rfl, rfl⟩ | fail)); (simp only [Act.put, List.setIfInBounds_toArray, List.set_cons_zero, List.set_cons_succ]; refine hK _ ?_; clear hK K))) | ((with_reducible refine quietL_skip (by with_unfolding_all rfl) ?_); simp only [Act.put, List.setIfInBounds_toArray, List.set_cons_zero, List.set_cons_succ]) | ((with_reducible refine quietL_want (by with_unfolding_all rfl) (fun K hK => ?_)); (apply Exists.intro; refine ⟨fun wx hx => ?_, ?_⟩; (· (have hcx := ifs_ex hx); simp [go_sem, *, ↓IntWalk.iteOmega] <;> (first | rfl | exact ⟨rfl, rfl⟩ | fail)); (simp only [Act.put, List.setIfInBounds_toArray, List.set_cons_zero, List.set_cons_succ]; refine hK _ ?_; clear hK K))))); refine quietL_nil ?_)
        (refine anyB_one_want (i := 10) (by kernel_rfl) rfl (by kernel_rfl) ?_; intro wA hbA K hK; have hsA := hbA.size; (try simp at hsA); go_wp2_with fail)
        refine (HTd.out _ _ _ _ _ _ _ (yd_kept HZ7.out hbA)).mono ?_
        rintro e wB ⟨F0, F1, F2, f0, f1, f2, rfl, hOB, hbB⟩
        have hsB := hbB.size
        have hfb := hOB.yd
        (try rw [at_lenR] at hfb)
        have HFB := Lib.hid hfb
        clear hfb
        clear hOB
        (go_wp2; refine ⟨xs_, ?_⟩)
        (refine anyB_one_want (i := 12) (by kernel_rfl) rfl (by kernel_rfl) ?_; intro wC hbC K hK; have hsC := hbC.size; (try simp at hsC); go_wp2_with fail)
        refine (HSa.out _ _ _ _ _ _ _ _ _ _ _ _ _ (yd_kept HFB.out hbC) (yd_kept HZE.out (hbA.trans ((hbB.trans (hbC.mono hbB.size)).mono hbA.size)))).mono ?_
        rintro e wD ⟨rfl, hbD⟩
        have hsD := hbD.size
        (go_wp2; refine ⟨xs_, ?_⟩)
        have hACD : Below wh.heap.size wh wD := hbA.trans (((hbB.trans (hbC.mono hbB.size)).trans (hbD.mono (by omega))).mono hbA.size)
        skip
        (refine anyB_quiet_at (by kernel_rfl) calm_panic xs_ 1 [13, 14, 15, 16, 17, 18, 19, 20, 21, 22, 23, 24, 25] _ _ (by kernel_rfl) (by decide +kernel) ?_; simp only [pickB, List.filterMap_cons, List.filterMap_nil, List.getElem?_toArray, List.getElem?_cons_zero, List.getElem?_cons_succ]; (repeat (first | ((with_reducible refine quietL_plain rfl (fun K hK => ?_)); (apply Exists.intro; refine ⟨fun wx hx => ?_, ?_⟩; (· (have hcx := ifs_ex hx); simp [go_sem, *, ↓IntWalk.iteOmega] <;> (first | rfl | exact ⟨rfl, rfl⟩ | (exact calls_B (listed_ok _ _ _ _ _ rl rfl hrl2 _ (rd_kept HR7.out (Ex.belowW hx)) (rd_kept HRr2.out (Ex.belowW hx)))))); (simp only [Act.put, List.setIfInBounds_toArray, List.set_cons_zero, List.set_cons_succ]; refine hK _ ?_; clear hK K))) | ((with_reducible refine quietL_skip (by with_unfolding_all rfl) ?_); simp only [Act.put, List.setIfInBounds_toArray, List.set_cons_zero, List.set_cons_succ]) | ((with_reducible refine quietL_want (by with_unfolding_all rfl) (fun K hK => ?_)); (apply Exists.intro; refine ⟨fun wx hx => ?_, ?_⟩; (· (have hcx := ifs_ex hx); simp [go_sem, *, ↓IntWalk.iteOmega] <;> (first | rfl | exact ⟨rfl, rfl⟩ | (exact calls_B (listed_ok _ _ _ _ _ rl rfl hrl2 _ (rd_kept HR7.out (Ex.belowW hx)) (rd_kept HRr2.out (Ex.belowW hx)))))); (simp only [Act.put, List.setIfInBounds_toArray, List.set_cons_zero, List.set_cons_succ]; refine hK _ ?_; clear hK K))))); refine quietL_nil ?_)
        (refine anyB_one (i := 26) (by kernel_rfl) rfl rfl ?_; intro wE hbE K hK; have hsE := hbE.size; (try simp at hsE); go_wp2; refine ⟨xs_, ?_⟩)
        (refine anyB_end (by kernel_rfl) ?_; intro wF hbF; have hsF := hbF.size; (try simp at hsF); simp only [Calm])
        have hFin : Below w.heap.size w wF := HBh.out.trans ((hACD.trans ((hbE.trans (hbF.mono hbE.size)).mono hACD.size)).mono HBh.out.size)
        clear hbA hbB hbC hbD hbE hbF
        go_wp2_with fail
        go_ret
        exact ⟨by first | rfl | (simp; done), hFin⟩
      rw [hst] at HrCS
      have hwe : or0 (stE n1 s) (whenE (!soundB (y.at s)) 22) = whenE (!soundB (y.at s)) 22 := or0_pos hst
      rw [hwe] at HWi
      have hsr := stE_zero hst
      clear hst hwe
      cases hso : soundB (y.at s) with
      | false =>
        rw [hso] at HWi HrSo
        have HTd := Lib.hid (fun W A0 A1 A2 c0 c1 c2 (hy : YdAt W W.heap.size A0 A1 A2 0 0 0 nilY) => told_any W.heap.size A0 A1 A2 0 0 0 c0 c1 c2 nilY W hy (Nat.le_refl _) (by omega) (by omega) (by omega))
        have HSa := Lib.hid (fun W A0 A1 A2 D0 D1 D2 c0 c1 c2 d0 d1 d2 (hy : YdAt W W.heap.size A0 A1 A2 0 0 0 nilY) (hz : YdAt W W.heap.size D0 D1 D2 0 0 0 nilY) => Same_any W.heap.size A0 A1 A2 0 0 0 c0 c1 c2 D0 D1 D2 0 0 0 d0 d1 d2 nilY W hy hz (Nat.le_refl _) (by omega) (by omega) (by omega))
        change Hid (∀ W D0 D1 D2 d0 d1 d2 hy hW, Calls _ _ _ W (YdERes W 22 (y.at s))) at HWi
        clear hso
        go_enter Tryz.func6, Tryz.ntmps6
        go_wp2_with fail
        refine (HAw.out _ bl_).mono ?_
        (rintro e w1 ⟨rfl, hb1⟩; have hs1 := hb1.size; (try simp at hs1))
        have HB1 := Lib.hid (bl_ : Below w.heap.size w w1)
        have BY := Lib.hid (bk_ : Blk w1 w.heap.size 26 #[.slice A0 n0 c0, .slice A1 n1 c1, .slice A2 n2 c2])
        have cY := BY.out.cell
        have lY := BY.out.lt
        clear hb1
        go_wp2_with fail
        refine (HSh.out _ HB1.out).mono ?_
        (rintro e w2 ⟨rfl, hb2⟩; have hs2 := hb2.size; (try simp at hs2))
        have HB2 := Lib.hid (HB1.out.trans (hb2.mono HB1.out.size))
        have hs02 := HB2.out.size
        replace BY := Lib.hid (BY.out.kept hb2)
        replace cY := BY.out.cell
        replace lY := BY.out.lt
        (try replace BG := Lib.hid (BG.out.kept hb2))
        (try replace cG := BG.out.cell)
        (try replace lG := BG.out.lt)
        clear hb2
        go_wp2_with fail
        refine (HSm.out _).mono ?_
        (rintro e w3 ⟨rfl, hb3⟩; have hs3 := hb3.size; (try simp at hs3))
        have HB3 := Lib.hid (HB2.out.trans (hb3.mono HB2.out.size))
        have hs03 := HB3.out.size
        replace BY := Lib.hid (BY.out.kept hb3)
        replace cY := BY.out.cell
        replace lY := BY.out.lt
        (try replace BG := Lib.hid (BG.out.kept hb3))
        (try replace cG := BG.out.cell)
        (try replace lG := BG.out.lt)
        clear hb3
        go_wp2_with fail
        go_wp2_with fail
        refine (HO.out _ HB3.out).mono ?_
        rintro e wa5 ⟨D0, D1, D2, d0, d1, d2, rfl, hyd, hba⟩
        have hsa5 := hba.size
        (try simp at hsa5)
        have HBa5 := Lib.hid (HB3.out.trans (hba.mono HB3.out.size))
        have HYD5 := Lib.hid hyd
        have HA5 := Lib.hid hba
        clear hyd hba
        go_wp2_with fail
        refine (HSt.out _ _ _ _ _ _ _ HYD5.out HBa5.out).mono ?_
        rintro e w5 ⟨rfl, hb5⟩
        have hs5 := hb5.size
        (try simp at hs5)
        have HB5 := Lib.hid (HBa5.out.trans (hb5.mono HBa5.out.size))
        have HK5 := Lib.hid (HA5.out.trans (hb5.mono HA5.out.size))
        clear hb5 HYD5 HA5 HBa5
        replace BY := Lib.hid (BY.out.kept HK5.out)
        have cY := BY.out.cell
        have lY := BY.out.lt
        (try replace HR0 := Lib.hid (il_kept HR0.out HK5.out))
        (try replace HR1 := Lib.hid (rd_kept HR1.out HK5.out))
        (try replace HR2 := Lib.hid (rd_kept HR2.out HK5.out))
        (try replace HR3 := Lib.hid (rd_kept HR3.out HK5.out))
        (try replace HR4 := Lib.hid (rd_kept HR4.out HK5.out))
        (try replace HR5 := Lib.hid (rd_kept HR5.out HK5.out))
        (try replace HR6 := Lib.hid (il_kept HR6.out HK5.out))
        (try replace HR7 := Lib.hid (rd_kept HR7.out HK5.out))
        (try replace HQ1 := Lib.hid (rd_kept HQ1.out HK5.out))
        (try replace HQ2 := Lib.hid (rd_kept HQ2.out HK5.out))
        (try replace HQ3 := Lib.hid (rd_kept HQ3.out HK5.out))
        (try replace HQ4 := Lib.hid (rd_kept HQ4.out HK5.out))
        go_wp2_with fail
        refine (HO.out _ HB5.out).mono ?_
        rintro e wa6 ⟨D0, D1, D2, d0, d1, d2, rfl, hyd, hba⟩
        have hsa6 := hba.size
        (try simp at hsa6)
        have HBa6 := Lib.hid (HB5.out.trans (hba.mono HB5.out.size))
        have HYD6 := Lib.hid hyd
        have HA6 := Lib.hid hba
        clear hyd hba
        go_wp2_with fail
        refine (HWi.out _ _ _ _ _ _ _ HYD6.out HBa6.out).mono ?_
        rintro e w6 (⟨h, _⟩ | ⟨_, rfl, hb6⟩)
        · exact absurd h (by decide)
        have hs6 := hb6.size
        have HB6 := Lib.hid (HBa6.out.trans (hb6.mono HBa6.out.size))
        have HK6 := Lib.hid (HA6.out.trans (hb6.mono HA6.out.size))
        clear hb6 HYD6 HA6 HBa6
        replace BY := Lib.hid (BY.out.kept HK6.out)
        have cY := BY.out.cell
        have lY := BY.out.lt
        (try replace HR0 := Lib.hid (il_kept HR0.out HK6.out))
        (try replace HR1 := Lib.hid (rd_kept HR1.out HK6.out))
        (try replace HR2 := Lib.hid (rd_kept HR2.out HK6.out))
        (try replace HR3 := Lib.hid (rd_kept HR3.out HK6.out))
        (try replace HR4 := Lib.hid (rd_kept HR4.out HK6.out))
        (try replace HR5 := Lib.hid (rd_kept HR5.out HK6.out))
        (try replace HR6 := Lib.hid (il_kept HR6.out HK6.out))
        (try replace HR7 := Lib.hid (rd_kept HR7.out HK6.out))
        (try replace HQ1 := Lib.hid (rd_kept HQ1.out HK6.out))
        (try replace HQ2 := Lib.hid (rd_kept HQ2.out HK6.out))
        (try replace HQ3 := Lib.hid (rd_kept HQ3.out HK6.out))
        (try replace HQ4 := Lib.hid (rd_kept HQ4.out HK6.out))
        unfold zeroY
        replace BY := Lib.hid (BY.out.alloc (.cells #[.slice none 0 0, .slice none 0 0, .slice none 0 0] 41))
        have B7 := Lib.hid (Blk.new w6 41 #[.slice none 0 0, .slice none 0 0, .slice none 0 0])
        have HB6x := Lib.hid (HB6.out.alloc HB6.out.size (.cells #[.slice none 0 0, .slice none 0 0, .slice none 0 0] 41))
        go_wp2_with fail
        refine (HO.out _ HB6x.out).mono ?_
        rintro e wa7 ⟨D0, D1, D2, d0, d1, d2, rfl, hyd, hba⟩
        have hsa7 := hba.size
        (try simp at hsa7)
        have HBa7 := Lib.hid (HB6x.out.trans (hba.mono HB6x.out.size))
        have HYD7 := Lib.hid hyd
        have HA7 := Lib.hid hba
        clear hyd hba
        go_wp2_with fail
        refine (HRe.out _ _ _ _ _ _ _ HYD7.out HBa7.out).mono ?_
        rintro e w7 ⟨A7, cap7, rfl, hr7, hb7⟩
        have hs7 := hb7.size
        (try simp at hs7)
        have HB7 := Lib.hid (HBa7.out.trans (hb7.mono HBa7.out.size))
        have HK7 := Lib.hid (HA7.out.trans (hb7.mono HA7.out.size))
        clear hb7 HYD7 HA7 HBa7
        replace BY := Lib.hid (BY.out.kept HK7.out)
        have cY := BY.out.cell
        have lY := BY.out.lt
        (try replace HR0 := Lib.hid (il_kept HR0.out HK7.out))
        (try replace HR1 := Lib.hid (rd_kept HR1.out HK7.out))
        (try replace HR2 := Lib.hid (rd_kept HR2.out HK7.out))
        (try replace HR3 := Lib.hid (rd_kept HR3.out HK7.out))
        (try replace HR4 := Lib.hid (rd_kept HR4.out HK7.out))
        (try replace HR5 := Lib.hid (rd_kept HR5.out HK7.out))
        (try replace HR6 := Lib.hid (il_kept HR6.out HK7.out))
        (try replace HR7 := Lib.hid (rd_kept HR7.out HK7.out))
        (try replace HQ1 := Lib.hid (rd_kept HQ1.out HK7.out))
        (try replace HQ2 := Lib.hid (rd_kept HQ2.out HK7.out))
        (try replace HQ3 := Lib.hid (rd_kept HQ3.out HK7.out))
        (try replace HQ4 := Lib.hid (rd_kept HQ4.out HK7.out))
        have HR7 := Lib.hid hr7
        replace B7 := Lib.hid (B7.out.kept HK7.out)
        (try replace HZ7 := Lib.hid (yd_kept HZ7.out HK7.out))
        clear hr7
        go_wp2_with fail
        refine (HCk.out _ HB7.out).mono ?_
        (rintro e w8 ⟨rfl, hb8⟩; have hs8 := hb8.size; (try simp at hs8))
        replace B7 := Lib.hid (B7.out.kept hb8)
        (try replace HZ7 := Lib.hid (yd_kept HZ7.out hb8))
        replace HR7 := Lib.hid (rd_kept HR7.out hb8)
        have HB8 := Lib.hid (HB7.out.trans (hb8.mono HB7.out.size))
        have hs08 := HB8.out.size
        replace BY := Lib.hid (BY.out.kept hb8)
        replace cY := BY.out.cell
        replace lY := BY.out.lt
        (try replace BG := Lib.hid (BG.out.kept hb8))
        (try replace cG := BG.out.cell)
        (try replace lG := BG.out.lt)
        clear hb8
        go_wp2_with fail
        have HZ7 := Lib.hid (nil_yd w8 w8.heap.size)
        have BE := Lib.hid (Blk.new w8 26 #[.slice none 0 0, .slice none 0 0, .slice none 0 0])
        replace B7 := Lib.hid (B7.out.alloc (.cells #[.slice none 0 0, .slice none 0 0, .slice none 0 0] 26))
        replace BY := Lib.hid (BY.out.alloc (.cells #[.slice none 0 0, .slice none 0 0, .slice none 0 0] 26))
        have hb89 : Below w8.heap.size w8 (w8.alloc (.cells #[.slice none 0 0, .slice none 0 0, .slice none 0 0] 26)) := (Below.refl _ _).alloc (Nat.le_refl _) _
        replace HR7 := Lib.hid (HR7.out.below hb89)
        replace HZ7 := Lib.hid (HZ7.out.below hb89)
        have HB9 := Lib.hid (HB8.out.alloc HB8.out.size (.cells #[.slice none 0 0, .slice none 0 0, .slice none 0 0] 26))
        have hs89 : w8.heap.size + 1 = (w8.alloc (.cells #[.slice none 0 0, .slice none 0 0, .slice none 0 0] 26)).heap.size := by simp
        clear hb89 cY lY
        generalize w8.alloc (.cells #[.slice none 0 0, .slice none 0 0, .slice none 0 0] 26) = w9 at *
        have cY := BY.out.cell
        have lY := BY.out.lt
        have hs09 := HB9.out.size
        (refine wp_region_calm [] [0, 1, 2, 4, 5] 5 (by kernel_rfl) rfl (by kernel_rfl) (by kernel_rfl) (by kernel_rfl) ?_; simp only [pickB, List.filterMap_cons, List.filterMap_nil, List.getElem?_toArray, List.getElem?_cons_zero, List.getElem?_cons_succ]; (repeat (first | ((with_reducible refine quietL_plain rfl (fun K hK => ?_)); (apply Exists.intro; refine ⟨fun wx hx => ?_, ?_⟩; (· (have hcx := ifs_ex hx); simp [go_sem, *, ↓IntWalk.iteOmega] <;> (first | rfl | exact ⟨rfl, rfl⟩ | (have hbx := Ex.belowW hx; exact calls_B (HrSt.out _ (HB9.out.trans (hbx.mono HB9.out.size)))))); (simp only [Act.put, List.setIfInBounds_toArray, List.set_cons_zero, List.set_cons_succ]; refine hK _ ?_; clear hK K))) | ((with_reducible refine quietL_skip (by with_unfolding_all rfl) ?_); simp only [Act.put, List.setIfInBounds_toArray, List.set_cons_zero, List.set_cons_succ]) | ((with_reducible refine quietL_want (by with_unfolding_all rfl) (fun K hK => ?_)); (apply Exists.intro; refine ⟨fun wx hx => ?_, ?_⟩; (· (have hcx := ifs_ex hx); simp [go_sem, *, ↓IntWalk.iteOmega] <;> (first | rfl | exact ⟨rfl, rfl⟩ | (have hbx := Ex.belowW hx; exact calls_B (HrSt.out _ (HB9.out.trans (hbx.mono HB9.out.size)))))); (simp only [Act.put, List.setIfInBounds_toArray, List.set_cons_zero, List.set_cons_succ]; refine hK _ ?_; clear hK K))))); refine quietL_nil ?_)
        (refine anyB_one (i := 3) (by kernel_rfl) rfl rfl ?_; intro wa hba K hK; have hsa := hba.size; (try simp at hsa); go_wp2_with fail)
        refine (HrRe.out _ (HB9.out.trans (hba.mono HB9.out.size))).mono ?_
        rintro e wb ⟨Ar, capr, rfl, hrr, hbb⟩
        have hsb := hbb.size
        (go_wp2; refine ⟨xs_, ?_⟩)
        (refine anyB_one (i := 6) (by kernel_rfl) rfl rfl ?_; intro wc hbc K hK; have hsc := hbc.size; (try simp at hsc); go_wp2_with fail)
        refine (HrCS.out _).mono ?_
        (rintro e wd ⟨rfl, hbd⟩; have hsd := hbd.size; (try simp at hsd))
        (go_wp2; refine ⟨xs_, ?_⟩)
        (refine anyB_one (i := 7) (by kernel_rfl) rfl rfl ?_; intro we hbe K hK; have hse := hbe.size; (try simp at hse); go_wp2; refine ⟨xs_, ?_⟩)
        (refine anyB_one (i := 8) (by kernel_rfl) rfl rfl ?_; intro wf hbf K hK; have hsf := hbf.size; (try simp at hsf); go_wp2; refine ⟨xs_, ?_⟩)
        (refine anyB_one (i := 9) (by kernel_rfl) rfl rfl ?_; intro wg hbg K hK; have hsg := hbg.size; (try simp at hsg); go_wp2; refine ⟨xs_, ?_⟩)
        (refine anyB_end (by kernel_rfl) ?_; intro wh hbh; have hsh := hbh.size; (try simp at hsh); simp only [Calm])
        have hb9h : Below w9.heap.size w9 wh := below_trans hba (below_trans hbb (below_trans hbc (below_trans hbd (below_trans hbe (below_trans hbf (below_trans hbg hbh))))))
        have hbbh : Below wb.heap.size wb wh := below_trans hbc (below_trans hbd (below_trans hbe (below_trans hbf (below_trans hbg hbh))))
        have HRr := Lib.hid (row_base (own_kept hrr hbbh) (show w9.heap.size ≤ _ by omega))
        replace BY := Lib.hid (BY.out.kept hb9h)
        replace B7 := Lib.hid (B7.out.kept hb9h)
        replace BE := Lib.hid (BE.out.kept hb9h)
        replace HR7 := Lib.hid (HR7.out.below (hb9h.mono (by omega)))
        replace HZ7 := Lib.hid (HZ7.out.below (hb9h.mono (by omega)))
        have HBh := Lib.hid (HB9.out.trans (hb9h.mono HB9.out.size))
        have hs0h := HBh.out.size
        replace cY := BY.out.cell
        replace lY := BY.out.lt
        have hs9h := hb9h.size
        clear hba hbb hbc hbd hbe hbf hbg hbh hrr hbbh hb9h
        go_wp2_with fail
        refine (HrWi.out _ HBh.out hsr).mono ?_
        rintro e wi ⟨E0, E1, E2, e0, e1, e2, rfl, hOi, hbi⟩
        have hsi := hbi.size
        have hzr := YdR.of_row (X := [w8.heap.size]) hOi (fun x hx => by simp at hx; subst hx; omega)
        rw [at_lenR] at hzr
        have HZR := Lib.hid (hzr : YdR [w8.heap.size] wi (y.at s) E0 E1 E2 y.s.length y.w.length y.p.length)
        replace BY := Lib.hid (BY.out.kept hbi)
        replace B7 := Lib.hid (B7.out.kept hbi)
        replace BE := Lib.hid (BE.out.kept hbi)
        replace HR7 := Lib.hid (HR7.out.below (hbi.mono (by omega)))
        replace HZ7 := Lib.hid (HZ7.out.below (hbi.mono (by omega)))
        replace HRr := Lib.hid (own_kept HRr.out hbi)
        have HBi := Lib.hid (HBh.out.trans (hbi.mono HBh.out.size))
        clear hOi hzr hbi
        have cE := BE.out.cell
        have fE := BE.out.frozen
        have lE := BE.out.lt
        replace cY := BY.out.cell
        replace lY := BY.out.lt
        go_wp2_with fail
        have nY := blk_neT BE.out BY.out
        have n7 := blk_neT BE.out B7.out (by decide)
        have hlow := HBi.out.size
        have hb3 := below_set3 (Below.refl w8.heap.size wi) (Nat.le_refl _) (.slice E0 y.s.length e0) (.slice E1 y.w.length e1) (.slice E2 y.p.length e2)
        have BE1 := BE.out.set3 (.slice E0 y.s.length e0) (.slice E1 y.w.length e1) (.slice E2 y.p.length e2)
        have BY1 := BY.out.far3 (g := w8.heap.size) (by omega) (.slice E0 y.s.length e0) (.slice E1 y.w.length e1) (.slice E2 y.p.length e2)
        have B71 := B7.out.far3 n7.symm (.slice E0 y.s.length e0) (.slice E1 y.w.length e1) (.slice E2 y.p.length e2)
        have hRr1 := row_set (i := 2) (u := .slice E2 y.p.length e2) (row_set (i := 1) (u := .slice E1 y.w.length e1) (row_set (i := 0) (u := .slice E0 y.s.length e0) HRr.out BE.out (by decide)) (BE.out.set_ 0 _) (by decide)) ((BE.out.set_ 0 _).set_ 1 _) (by decide)
        have hx3 : Ex [w8.heap.size] wi (((wi.setCell ⟨w8.heap.size, 0, none⟩ (.slice E0 y.s.length e0)).setCell ⟨w8.heap.size, 1, none⟩ (.slice E1 y.w.length e1)).setCell ⟨w8.heap.size, 2, none⟩ (.slice E2 y.p.length e2)) := Ex.set_in (.inl (by simp)) (Ex.set_in (.inl (by simp)) (Ex.set_in (.inl (by simp)) (Ex.refl _ _) _) _) _
        have hZS := HZR.out _ hx3
        have HBj := Lib.hid (below_set3 HBi.out (show w.heap.size ≤ w8.heap.size by omega) (.slice E0 y.s.length e0) (.slice E1 y.w.length e1) (.slice E2 y.p.length e2))
        replace HR7 := Lib.hid (HR7.out.below hb3)
        replace HZ7 := Lib.hid (HZ7.out.below hb3)
        clear HZR hx3 hb3 BE BY B7 HRr cE fE lE cY lY nY n7
        generalize (((wi.setCell ⟨w8.heap.size, 0, none⟩ (.slice E0 y.s.length e0)).setCell ⟨w8.heap.size, 1, none⟩ (.slice E1 y.w.length e1)).setCell ⟨w8.heap.size, 2, none⟩ (.slice E2 y.p.length e2)) = wj at *
        refine (HrSo.out _ _ _ _ _ _ _ hZS).mono ?_
        (rintro e wk ⟨rfl, hbk⟩; have hsk := hbk.size; (try simp at hsk))
        have hjk : Below wj.heap.size wj wk := hbk
        have hs8j := BE1.lt
        have BE := Lib.hid (BE1.kept hbk)
        have BY := Lib.hid (BY1.kept hbk)
        have B7 := Lib.hid (B71.kept hbk)
        have HRr := Lib.hid (own_kept hRr1 hbk)
        have HZS := Lib.hid (yd_kept hZS hbk)
        replace HR7 := Lib.hid (HR7.out.below (hbk.mono (by omega)))
        replace HZ7 := Lib.hid (HZ7.out.below (hbk.mono (by omega)))
        have HBk := Lib.hid (HBj.out.trans (hbk.mono HBj.out.size))
        clear BE1 BY1 B71 hRr1 hZS hbk hjk
        have cE := BE.out.cell
        have fE := BE.out.frozen
        have lE := BE.out.lt
        go_wp2_with fail
        have nY := blk_neT BE.out BY.out
        have n7 := blk_neT BE.out B7.out (by decide)
        have hkw := HBk.out.size
        have hb3 := below_set3 (Below.refl w8.heap.size wk) (Nat.le_refl _) (.slice none 0 0) (.slice none 0 0) (.slice none 0 0)
        have BE1 := BE.out.set3 (.slice none 0 0) (.slice none 0 0) (.slice none 0 0)
        have BY1 := BY.out.far3 (g := w8.heap.size) (by omega) (.slice none 0 0) (.slice none 0 0) (.slice none 0 0)
        have B71 := B7.out.far3 n7.symm (.slice none 0 0) (.slice none 0 0) (.slice none 0 0)
        have hRr1 := row_set (i := 2) (u := .slice none 0 0) (row_set (i := 1) (u := .slice none 0 0) (row_set (i := 0) (u := .slice none 0 0) HRr.out BE.out (by decide)) (BE.out.set_ 0 _) (by decide)) ((BE.out.set_ 0 _).set_ 1 _) (by decide)
        have HBl := Lib.hid (below_set3 HBk.out (show w.heap.size ≤ w8.heap.size by omega) (.slice none 0 0) (.slice none 0 0) (.slice none 0 0))
        replace HR7 := Lib.hid (HR7.out.below hb3)
        clear hb3 BE BY B7 HRr cE fE lE nY n7
        have hsl : (((wk.setCell ⟨w8.heap.size, 0, none⟩ (.slice none 0 0)).setCell ⟨w8.heap.size, 1, none⟩ (.slice none 0 0)).setCell ⟨w8.heap.size, 2, none⟩ (.slice none 0 0)).heap.size = wk.heap.size := by simp [World.setCell]
        generalize (((wk.setCell ⟨w8.heap.size, 0, none⟩ (.slice none 0 0)).setCell ⟨w8.heap.size, 1, none⟩ (.slice none 0 0)).setCell ⟨w8.heap.size, 2, none⟩ (.slice none 0 0)) = wl at *
        have BE := Lib.hid BE1
        have BY := Lib.hid BY1
        have B7 := Lib.hid B71
        have HRr := Lib.hid hRr1
        clear BE1 BY1 B71 hRr1
        obtain ⟨Ar', capr', er, _, _, hrr⟩ := own_form HRr.out
        cases er
        have HRr2 := Lib.hid hrr
        replace HR7 := Lib.hid (HR7.out.more (show w8.heap.size ≤ wl.heap.size by omega))
        clear hrr
        have c7 := B7.out.cell
        have l7 := B7.out.lt
        have cE := BE.out.cell
        have lE := BE.out.lt
        have hs0l := HBl.out.size
        replace HZ7 := Lib.hid (nil_yd wl wl.heap.size)
        have HZE := Lib.hid (nil_yd wl wl.heap.size)
        (refine wp_region_calm [] [0, 1, 2, 3, 4, 5, 6, 7, 8, 9, 11] 16 (by kernel_rfl) rfl (by kernel_rfl) (by kernel_rfl) (by kernel_rfl) ?_; simp only [pickB, List.filterMap_cons, List.filterMap_nil, List.getElem?_toArray, List.getElem?_cons_zero, List.getElem?_cons_succ]; (repeat (first | ((with_reducible refine quietL_plain rfl (fun K hK => ?_)); (apply Exists.intro; refine ⟨fun wx hx => ?_, ?_⟩; (· (have hcx := ifs_ex hx); simp [go_sem, *, ↓IntWalk.iteOmega] <;> (first | rfl | exact ⟨rfl, rfl⟩ | fail)); (simp only [Act.put, List.setIfInBounds_toArray, List.set_cons_zero, List.set_cons_succ]; refine hK _ ?_; clear hK K))) | ((with_reducible refine quietL_skip (by with_unfolding_all rfl) ?_); simp only [Act.put, List.setIfInBounds_toArray, List.set_cons_zero, List.set_cons_succ]) | ((with_reducible refine quietL_want (by with_unfolding_all rfl) (fun K hK => ?_)); (apply Exists.intro; refine ⟨fun wx hx => ?_, ?_⟩; (· (have hcx := ifs_ex hx); simp [go_sem, *, ↓IntWalk.iteOmega] <;> (first | rfl | exact ⟨rfl, rfl⟩ | fail)); (simp only [Act.put, List.setIfInBounds_toArray, List.set_cons_zero, List.set_cons_succ]; refine hK _ ?_; clear hK K))))); refine quietL_nil ?_)
        (refine anyB_one_want (i := 10) (by kernel_rfl) rfl (by kernel_rfl) ?_; intro wA hbA K hK; have hsA := hbA.size; (try simp at hsA); go_wp2_with fail)
        refine (HTd.out _ _ _ _ _ _ _ (yd_kept HZ7.out hbA)).mono ?_
        rintro e wB ⟨F0, F1, F2, f0, f1, f2, rfl, hOB, hbB⟩
        have hsB := hbB.size
        have hfb := hOB.yd
        (try rw [at_lenR] at hfb)
        have HFB := Lib.hid hfb
        clear hfb
        clear hOB
        (go_wp2; refine ⟨xs_, ?_⟩)
        (refine anyB_one_want (i := 12) (by kernel_rfl) rfl (by kernel_rfl) ?_; intro wC hbC K hK; have hsC := hbC.size; (try simp at hsC); go_wp2_with fail)
        refine (HSa.out _ _ _ _ _ _ _ _ _ _ _ _ _ (yd_kept HFB.out hbC) (yd_kept HZE.out (hbA.trans ((hbB.trans (hbC.mono hbB.size)).mono hbA.size)))).mono ?_
        rintro e wD ⟨rfl, hbD⟩
        have hsD := hbD.size
        (go_wp2; refine ⟨xs_, ?_⟩)
        have hACD : Below wl.heap.size wl wD := hbA.trans (((hbB.trans (hbC.mono hbB.size)).trans (hbD.mono (by omega))).mono hbA.size)
        skip
        (refine anyB_quiet_at (by kernel_rfl) calm_panic xs_ 1 [13, 14, 15, 16, 17, 18, 19, 20, 21, 22, 23, 24, 25] _ _ (by kernel_rfl) (by decide +kernel) ?_; simp only [pickB, List.filterMap_cons, List.filterMap_nil, List.getElem?_toArray, List.getElem?_cons_zero, List.getElem?_cons_succ]; (repeat (first | ((with_reducible refine quietL_plain rfl (fun K hK => ?_)); (apply Exists.intro; refine ⟨fun wx hx => ?_, ?_⟩; (· (have hcx := ifs_ex hx); simp [go_sem, *, ↓IntWalk.iteOmega] <;> (first | rfl | exact ⟨rfl, rfl⟩ | (exact calls_B (listed_ok _ _ _ _ _ rl rfl hrl2 _ (rd_kept HR7.out (Ex.belowW hx)) (rd_kept HRr2.out (Ex.belowW hx)))))); (simp only [Act.put, List.setIfInBounds_toArray, List.set_cons_zero, List.set_cons_succ]; refine hK _ ?_; clear hK K))) | ((with_reducible refine quietL_skip (by with_unfolding_all rfl) ?_); simp only [Act.put, List.setIfInBounds_toArray, List.set_cons_zero, List.set_cons_succ]) | ((with_reducible refine quietL_want (by with_unfolding_all rfl) (fun K hK => ?_)); (apply Exists.intro; refine ⟨fun wx hx => ?_, ?_⟩; (· (have hcx := ifs_ex hx); simp [go_sem, *, ↓IntWalk.iteOmega] <;> (first | rfl | exact ⟨rfl, rfl⟩ | (exact calls_B (listed_ok _ _ _ _ _ rl rfl hrl2 _ (rd_kept HR7.out (Ex.belowW hx)) (rd_kept HRr2.out (Ex.belowW hx)))))); (simp only [Act.put, List.setIfInBounds_toArray, List.set_cons_zero, List.set_cons_succ]; refine hK _ ?_; clear hK K))))); refine quietL_nil ?_)
        (refine anyB_one (i := 26) (by kernel_rfl) rfl rfl ?_; intro wE hbE K hK; have hsE := hbE.size; (try simp at hsE); go_wp2; refine ⟨xs_, ?_⟩)
        (refine anyB_end (by kernel_rfl) ?_; intro wF hbF; have hsF := hbF.size; (try simp at hsF); simp only [Calm])
        have hFin : Below w.heap.size w wF := HBl.out.trans ((hACD.trans ((hbE.trans (hbF.mono hbE.size)).mono hACD.size)).mono HBl.out.size)
        clear hbA hbB hbC hbD hbE hbF
        go_wp2_with fail
        go_ret
        exact ⟨by first | rfl | (simp; done), hFin⟩
      | true =>
        rw [hso] at HWi HrSo
        have HTd := Lib.hid (fun W A0 A1 A2 c0 c1 c2 (hy : YdAt W W.heap.size A0 A1 A2 y.s.length y.w.length y.p.length (y.at s)) => (told_any W.heap.size A0 A1 A2 y.s.length y.w.length y.p.length c0 c1 c2 (y.at s) W hy (Nat.le_refl _) (by omega) (by omega) (by omega)).mono fun _ _ h => h.lens (m0 := y.s.length) (m1 := y.w.length) (m2 := y.p.length) rfl (at_lenR y s) rfl)
        have HSa := Lib.hid (fun W A0 A1 A2 D0 D1 D2 c0 c1 c2 d0 d1 d2 (hy : YdAt W W.heap.size A0 A1 A2 y.s.length y.w.length y.p.length (y.at s)) (hz : YdAt W W.heap.size D0 D1 D2 y.s.length y.w.length y.p.length (y.at s)) => Same_any W.heap.size A0 A1 A2 y.s.length y.w.length y.p.length c0 c1 c2 D0 D1 D2 y.s.length y.w.length y.p.length d0 d1 d2 (y.at s) W hy hz (Nat.le_refl _) (by omega) (by omega) (by omega))
        change Hid (∀ W D0 D1 D2 d0 d1 d2 hy hW, Calls _ _ _ W (YdERes W 0 (y.at s))) at HWi
        have HLW := Lib.hid (at_lenR y s)
        clear hso
        go_enter Tryz.func6, Tryz.ntmps6
        go_wp2_with fail
        refine (HAw.out _ bl_).mono ?_
        (rintro e w1 ⟨rfl, hb1⟩; have hs1 := hb1.size; (try simp at hs1))
        have HB1 := Lib.hid (bl_ : Below w.heap.size w w1)
        have BY := Lib.hid (bk_ : Blk w1 w.heap.size 26 #[.slice A0 n0 c0, .slice A1 n1 c1, .slice A2 n2 c2])
        have cY := BY.out.cell
        have lY := BY.out.lt
        clear hb1
        go_wp2_with fail
        refine (HSh.out _ HB1.out).mono ?_
        (rintro e w2 ⟨rfl, hb2⟩; have hs2 := hb2.size; (try simp at hs2))
        have HB2 := Lib.hid (HB1.out.trans (hb2.mono HB1.out.size))
        have hs02 := HB2.out.size
        replace BY := Lib.hid (BY.out.kept hb2)
        replace cY := BY.out.cell
        replace lY := BY.out.lt
        (try replace BG := Lib.hid (BG.out.kept hb2))
        (try replace cG := BG.out.cell)
        (try replace lG := BG.out.lt)
        clear hb2
        go_wp2_with fail
        refine (HSm.out _).mono ?_
        (rintro e w3 ⟨rfl, hb3⟩; have hs3 := hb3.size; (try simp at hs3))
        have HB3 := Lib.hid (HB2.out.trans (hb3.mono HB2.out.size))
        have hs03 := HB3.out.size
        replace BY := Lib.hid (BY.out.kept hb3)
        replace cY := BY.out.cell
        replace lY := BY.out.lt
        (try replace BG := Lib.hid (BG.out.kept hb3))
        (try replace cG := BG.out.cell)
        (try replace lG := BG.out.lt)
        clear hb3
        go_wp2_with fail
        go_wp2_with fail
        refine (HO.out _ HB3.out).mono ?_
        rintro e wa5 ⟨D0, D1, D2, d0, d1, d2, rfl, hyd, hba⟩
        have hsa5 := hba.size
        (try simp at hsa5)
        have HBa5 := Lib.hid (HB3.out.trans (hba.mono HB3.out.size))
        have HYD5 := Lib.hid hyd
        have HA5 := Lib.hid hba
        clear hyd hba
        go_wp2_with fail
        refine (HSt.out _ _ _ _ _ _ _ HYD5.out HBa5.out).mono ?_
        rintro e w5 ⟨rfl, hb5⟩
        have hs5 := hb5.size
        (try simp at hs5)
        have HB5 := Lib.hid (HBa5.out.trans (hb5.mono HBa5.out.size))
        have HK5 := Lib.hid (HA5.out.trans (hb5.mono HA5.out.size))
        clear hb5 HYD5 HA5 HBa5
        replace BY := Lib.hid (BY.out.kept HK5.out)
        have cY := BY.out.cell
        have lY := BY.out.lt
        (try replace HR0 := Lib.hid (il_kept HR0.out HK5.out))
        (try replace HR1 := Lib.hid (rd_kept HR1.out HK5.out))
        (try replace HR2 := Lib.hid (rd_kept HR2.out HK5.out))
        (try replace HR3 := Lib.hid (rd_kept HR3.out HK5.out))
        (try replace HR4 := Lib.hid (rd_kept HR4.out HK5.out))
        (try replace HR5 := Lib.hid (rd_kept HR5.out HK5.out))
        (try replace HR6 := Lib.hid (il_kept HR6.out HK5.out))
        (try replace HR7 := Lib.hid (rd_kept HR7.out HK5.out))
        (try replace HQ1 := Lib.hid (rd_kept HQ1.out HK5.out))
        (try replace HQ2 := Lib.hid (rd_kept HQ2.out HK5.out))
        (try replace HQ3 := Lib.hid (rd_kept HQ3.out HK5.out))
        (try replace HQ4 := Lib.hid (rd_kept HQ4.out HK5.out))
        go_wp2_with fail
        refine (HO.out _ HB5.out).mono ?_
        rintro e wa6 ⟨D0, D1, D2, d0, d1, d2, rfl, hyd, hba⟩
        have hsa6 := hba.size
        (try simp at hsa6)
        have HBa6 := Lib.hid (HB5.out.trans (hba.mono HB5.out.size))
        have HYD6 := Lib.hid hyd
        have HA6 := Lib.hid hba
        clear hyd hba
        go_wp2_with fail
        refine (HWi.out _ _ _ _ _ _ _ HYD6.out HBa6.out).mono ?_
        rintro e w6 (⟨_, G0, G2, e0, e2, g, rfl, hOg, hb6⟩ | ⟨h, _⟩)
        case inr => exact absurd rfl h
        have hs6 := hb6.size
        have HB6 := Lib.hid (HBa6.out.trans (hb6.mono HBa6.out.size))
        have HK6 := Lib.hid (HA6.out.trans (hb6.mono HA6.out.size))
        have hzy := yd_own hOg
        rw [at_lenR] at hzy ⊢
        have HZ6 := Lib.hid (show YdAt w6 w6.heap.size G0 (some ⟨g, 0, none⟩) G2 y.s.length y.w.length y.p.length (y.at s) from hzy)
        clear hb6 HYD6 HA6 HBa6 hOg hzy
        replace BY := Lib.hid (BY.out.kept HK6.out)
        have cY := BY.out.cell
        have lY := BY.out.lt
        (try replace HR0 := Lib.hid (il_kept HR0.out HK6.out))
        (try replace HR1 := Lib.hid (rd_kept HR1.out HK6.out))
        (try replace HR2 := Lib.hid (rd_kept HR2.out HK6.out))
        (try replace HR3 := Lib.hid (rd_kept HR3.out HK6.out))
        (try replace HR4 := Lib.hid (rd_kept HR4.out HK6.out))
        (try replace HR5 := Lib.hid (rd_kept HR5.out HK6.out))
        (try replace HR6 := Lib.hid (il_kept HR6.out HK6.out))
        (try replace HR7 := Lib.hid (rd_kept HR7.out HK6.out))
        (try replace HQ1 := Lib.hid (rd_kept HQ1.out HK6.out))
        (try replace HQ2 := Lib.hid (rd_kept HQ2.out HK6.out))
        (try replace HQ3 := Lib.hid (rd_kept HQ3.out HK6.out))
        (try replace HQ4 := Lib.hid (rd_kept HQ4.out HK6.out))
        have HZ7 := Lib.hid (yd_kept HZ6.out ((Below.refl _ w6).alloc (Nat.le_refl _) (.cells #[.slice G0 (y.at s).s.length e0, .slice (some ⟨g, 0, none⟩) y.w.length y.w.length, .slice G2 (y.at s).p.length e2] 41)))
        clear HZ6
        replace BY := Lib.hid (BY.out.alloc (.cells #[.slice G0 (y.at s).s.length e0, .slice (some ⟨g, 0, none⟩) y.w.length y.w.length, .slice G2 (y.at s).p.length e2] 41))
        have B7 := Lib.hid (Blk.new w6 41 #[.slice G0 (y.at s).s.length e0, .slice (some ⟨g, 0, none⟩) y.w.length y.w.length, .slice G2 (y.at s).p.length e2])
        have HB6x := Lib.hid (HB6.out.alloc HB6.out.size (.cells #[.slice G0 (y.at s).s.length e0, .slice (some ⟨g, 0, none⟩) y.w.length y.w.length, .slice G2 (y.at s).p.length e2] 41))
        go_wp2_with fail
        refine (HO.out _ HB6x.out).mono ?_
        rintro e wa7 ⟨D0, D1, D2, d0, d1, d2, rfl, hyd, hba⟩
        have hsa7 := hba.size
        (try simp at hsa7)
        have HBa7 := Lib.hid (HB6x.out.trans (hba.mono HB6x.out.size))
        have HYD7 := Lib.hid hyd
        have HA7 := Lib.hid hba
        clear hyd hba
        go_wp2_with fail
        refine (HRe.out _ _ _ _ _ _ _ HYD7.out HBa7.out).mono ?_
        rintro e w7 ⟨A7, cap7, rfl, hr7, hb7⟩
        have hs7 := hb7.size
        (try simp at hs7)
        have HB7 := Lib.hid (HBa7.out.trans (hb7.mono HBa7.out.size))
        have HK7 := Lib.hid (HA7.out.trans (hb7.mono HA7.out.size))
        clear hb7 HYD7 HA7 HBa7
        replace BY := Lib.hid (BY.out.kept HK7.out)
        have cY := BY.out.cell
        have lY := BY.out.lt
        (try replace HR0 := Lib.hid (il_kept HR0.out HK7.out))
        (try replace HR1 := Lib.hid (rd_kept HR1.out HK7.out))
        (try replace HR2 := Lib.hid (rd_kept HR2.out HK7.out))
        (try replace HR3 := Lib.hid (rd_kept HR3.out HK7.out))
        (try replace HR4 := Lib.hid (rd_kept HR4.out HK7.out))
        (try replace HR5 := Lib.hid (rd_kept HR5.out HK7.out))
        (try replace HR6 := Lib.hid (il_kept HR6.out HK7.out))
        (try replace HR7 := Lib.hid (rd_kept HR7.out HK7.out))
        (try replace HQ1 := Lib.hid (rd_kept HQ1.out HK7.out))
        (try replace HQ2 := Lib.hid (rd_kept HQ2.out HK7.out))
        (try replace HQ3 := Lib.hid (rd_kept HQ3.out HK7.out))
        (try replace HQ4 := Lib.hid (rd_kept HQ4.out HK7.out))
        have HR7 := Lib.hid hr7
        replace B7 := Lib.hid (B7.out.kept HK7.out)
        (try replace HZ7 := Lib.hid (yd_kept HZ7.out HK7.out))
        clear hr7
        go_wp2_with fail
        refine (HCk.out _ HB7.out).mono ?_
        (rintro e w8 ⟨rfl, hb8⟩; have hs8 := hb8.size; (try simp at hs8))
        replace B7 := Lib.hid (B7.out.kept hb8)
        (try replace HZ7 := Lib.hid (yd_kept HZ7.out hb8))
        replace HR7 := Lib.hid (rd_kept HR7.out hb8)
        have HB8 := Lib.hid (HB7.out.trans (hb8.mono HB7.out.size))
        have hs08 := HB8.out.size
        replace BY := Lib.hid (BY.out.kept hb8)
        replace cY := BY.out.cell
        replace lY := BY.out.lt
        (try replace BG := Lib.hid (BG.out.kept hb8))
        (try replace cG := BG.out.cell)
        (try replace lG := BG.out.lt)
        clear hb8
        go_wp2_with fail
        have BE := Lib.hid (Blk.new w8 26 #[.slice none 0 0, .slice none 0 0, .slice none 0 0])
        replace B7 := Lib.hid (B7.out.alloc (.cells #[.slice none 0 0, .slice none 0 0, .slice none 0 0] 26))
        replace BY := Lib.hid (BY.out.alloc (.cells #[.slice none 0 0, .slice none 0 0, .slice none 0 0] 26))
        have hb89 : Below w8.heap.size w8 (w8.alloc (.cells #[.slice none 0 0, .slice none 0 0, .slice none 0 0] 26)) := (Below.refl _ _).alloc (Nat.le_refl _) _
        replace HR7 := Lib.hid (HR7.out.below hb89)
        replace HZ7 := Lib.hid (HZ7.out.below hb89)
        have HB9 := Lib.hid (HB8.out.alloc HB8.out.size (.cells #[.slice none 0 0, .slice none 0 0, .slice none 0 0] 26))
        have hs89 : w8.heap.size + 1 = (w8.alloc (.cells #[.slice none 0 0, .slice none 0 0, .slice none 0 0] 26)).heap.size := by simp
        clear hb89 cY lY
        generalize w8.alloc (.cells #[.slice none 0 0, .slice none 0 0, .slice none 0 0] 26) = w9 at *
        have cY := BY.out.cell
        have lY := BY.out.lt
        have hs09 := HB9.out.size
        (refine wp_region_calm [] [0, 1, 2, 4, 5] 5 (by kernel_rfl) rfl (by kernel_rfl) (by kernel_rfl) (by kernel_rfl) ?_; simp only [pickB, List.filterMap_cons, List.filterMap_nil, List.getElem?_toArray, List.getElem?_cons_zero, List.getElem?_cons_succ]; (repeat (first | ((with_reducible refine quietL_plain rfl (fun K hK => ?_)); (apply Exists.intro; refine ⟨fun wx hx => ?_, ?_⟩; (· (have hcx := ifs_ex hx); simp [go_sem, *, ↓IntWalk.iteOmega] <;> (first | rfl | exact ⟨rfl, rfl⟩ | (have hbx := Ex.belowW hx; exact calls_B (HrSt.out _ (HB9.out.trans (hbx.mono HB9.out.size)))))); (simp only [Act.put, List.setIfInBounds_toArray, List.set_cons_zero, List.set_cons_succ]; refine hK _ ?_; clear hK K))) | ((with_reducible refine quietL_skip (by with_unfolding_all rfl) ?_); simp only [Act.put, List.setIfInBounds_toArray, List.set_cons_zero, List.set_cons_succ]) | ((with_reducible refine quietL_want (by with_unfolding_all rfl) (fun K hK => ?_)); (apply Exists.intro; refine ⟨fun wx hx => ?_, ?_⟩; (· (have hcx := ifs_ex hx); simp [go_sem, *, ↓IntWalk.iteOmega] <;> (first | rfl | exact ⟨rfl, rfl⟩ | (have hbx := Ex.belowW hx; exact calls_B (HrSt.out _ (HB9.out.trans (hbx.mono HB9.out.size)))))); (simp only [Act.put, List.setIfInBounds_toArray, List.set_cons_zero, List.set_cons_succ]; refine hK _ ?_; clear hK K))))); refine quietL_nil ?_)
        (refine anyB_one (i := 3) (by kernel_rfl) rfl rfl ?_; intro wa hba K hK; have hsa := hba.size; (try simp at hsa); go_wp2_with fail)
        refine (HrRe.out _ (HB9.out.trans (hba.mono HB9.out.size))).mono ?_
        rintro e wb ⟨Ar, capr, rfl, hrr, hbb⟩
        have hsb := hbb.size
        (go_wp2; refine ⟨xs_, ?_⟩)
        (refine anyB_one (i := 6) (by kernel_rfl) rfl rfl ?_; intro wc hbc K hK; have hsc := hbc.size; (try simp at hsc); go_wp2_with fail)
        refine (HrCS.out _).mono ?_
        (rintro e wd ⟨rfl, hbd⟩; have hsd := hbd.size; (try simp at hsd))
        (go_wp2; refine ⟨xs_, ?_⟩)
        (refine anyB_one (i := 7) (by kernel_rfl) rfl rfl ?_; intro we hbe K hK; have hse := hbe.size; (try simp at hse); go_wp2; refine ⟨xs_, ?_⟩)
        (refine anyB_one (i := 8) (by kernel_rfl) rfl rfl ?_; intro wf hbf K hK; have hsf := hbf.size; (try simp at hsf); go_wp2; refine ⟨xs_, ?_⟩)
        (refine anyB_one (i := 9) (by kernel_rfl) rfl rfl ?_; intro wg hbg K hK; have hsg := hbg.size; (try simp at hsg); go_wp2; refine ⟨xs_, ?_⟩)
        (refine anyB_end (by kernel_rfl) ?_; intro wh hbh; have hsh := hbh.size; (try simp at hsh); simp only [Calm])
        have hb9h : Below w9.heap.size w9 wh := below_trans hba (below_trans hbb (below_trans hbc (below_trans hbd (below_trans hbe (below_trans hbf (below_trans hbg hbh))))))
        have hbbh : Below wb.heap.size wb wh := below_trans hbc (below_trans hbd (below_trans hbe (below_trans hbf (below_trans hbg hbh))))
        have HRr := Lib.hid (row_base (own_kept hrr hbbh) (show w9.heap.size ≤ _ by omega))
        replace BY := Lib.hid (BY.out.kept hb9h)
        replace B7 := Lib.hid (B7.out.kept hb9h)
        replace BE := Lib.hid (BE.out.kept hb9h)
        replace HR7 := Lib.hid (HR7.out.below (hb9h.mono (by omega)))
        replace HZ7 := Lib.hid (HZ7.out.below (hb9h.mono (by omega)))
        have HBh := Lib.hid (HB9.out.trans (hb9h.mono HB9.out.size))
        have hs0h := HBh.out.size
        replace cY := BY.out.cell
        replace lY := BY.out.lt
        have hs9h := hb9h.size
        clear hba hbb hbc hbd hbe hbf hbg hbh hrr hbbh hb9h
        go_wp2_with fail
        refine (HrWi.out _ HBh.out hsr).mono ?_
        rintro e wi ⟨E0, E1, E2, e0, e1, e2, rfl, hOi, hbi⟩
        have hsi := hbi.size
        have hzr := YdR.of_row (X := [w8.heap.size]) hOi (fun x hx => by simp at hx; subst hx; omega)
        rw [at_lenR] at hzr
        have HZR := Lib.hid (hzr : YdR [w8.heap.size] wi (y.at s) E0 E1 E2 y.s.length y.w.length y.p.length)
        replace BY := Lib.hid (BY.out.kept hbi)
        replace B7 := Lib.hid (B7.out.kept hbi)
        replace BE := Lib.hid (BE.out.kept hbi)
        replace HR7 := Lib.hid (HR7.out.below (hbi.mono (by omega)))
        replace HZ7 := Lib.hid (HZ7.out.below (hbi.mono (by omega)))
        replace HRr := Lib.hid (own_kept HRr.out hbi)
        have HBi := Lib.hid (HBh.out.trans (hbi.mono HBh.out.size))
        clear hOi hzr hbi
        have cE := BE.out.cell
        have fE := BE.out.frozen
        have lE := BE.out.lt
        replace cY := BY.out.cell
        replace lY := BY.out.lt
        go_wp2_with fail
        have nY := blk_neT BE.out BY.out
        have n7 := blk_neT BE.out B7.out (by decide)
        have hlow := HBi.out.size
        have hb3 := below_set3 (Below.refl w8.heap.size wi) (Nat.le_refl _) (.slice E0 y.s.length e0) (.slice E1 y.w.length e1) (.slice E2 y.p.length e2)
        have BE1 := BE.out.set3 (.slice E0 y.s.length e0) (.slice E1 y.w.length e1) (.slice E2 y.p.length e2)
        have BY1 := BY.out.far3 (g := w8.heap.size) (by omega) (.slice E0 y.s.length e0) (.slice E1 y.w.length e1) (.slice E2 y.p.length e2)
        have B71 := B7.out.far3 n7.symm (.slice E0 y.s.length e0) (.slice E1 y.w.length e1) (.slice E2 y.p.length e2)
        have hRr1 := row_set (i := 2) (u := .slice E2 y.p.length e2) (row_set (i := 1) (u := .slice E1 y.w.length e1) (row_set (i := 0) (u := .slice E0 y.s.length e0) HRr.out BE.out (by decide)) (BE.out.set_ 0 _) (by decide)) ((BE.out.set_ 0 _).set_ 1 _) (by decide)
        have hx3 : Ex [w8.heap.size] wi (((wi.setCell ⟨w8.heap.size, 0, none⟩ (.slice E0 y.s.length e0)).setCell ⟨w8.heap.size, 1, none⟩ (.slice E1 y.w.length e1)).setCell ⟨w8.heap.size, 2, none⟩ (.slice E2 y.p.length e2)) := Ex.set_in (.inl (by simp)) (Ex.set_in (.inl (by simp)) (Ex.set_in (.inl (by simp)) (Ex.refl _ _) _) _) _
        have hZS := HZR.out _ hx3
        have HBj := Lib.hid (below_set3 HBi.out (show w.heap.size ≤ w8.heap.size by omega) (.slice E0 y.s.length e0) (.slice E1 y.w.length e1) (.slice E2 y.p.length e2))
        replace HR7 := Lib.hid (HR7.out.below hb3)
        replace HZ7 := Lib.hid (HZ7.out.below hb3)
        clear HZR hx3 hb3 BE BY B7 HRr cE fE lE cY lY nY n7
        generalize (((wi.setCell ⟨w8.heap.size, 0, none⟩ (.slice E0 y.s.length e0)).setCell ⟨w8.heap.size, 1, none⟩ (.slice E1 y.w.length e1)).setCell ⟨w8.heap.size, 2, none⟩ (.slice E2 y.p.length e2)) = wj at *
        refine (HrSo.out _ _ _ _ _ _ _ hZS).mono ?_
        (rintro e wk ⟨rfl, hbk⟩; have hsk := hbk.size; (try simp at hsk))
        have hjk : Below wj.heap.size wj wk := hbk
        have hs8j := BE1.lt
        have BE := Lib.hid (BE1.kept hbk)
        have BY := Lib.hid (BY1.kept hbk)
        have B7 := Lib.hid (B71.kept hbk)
        have HRr := Lib.hid (own_kept hRr1 hbk)
        have HZS := Lib.hid (yd_kept hZS hbk)
        replace HR7 := Lib.hid (HR7.out.below (hbk.mono (by omega)))
        replace HZ7 := Lib.hid (HZ7.out.below (hbk.mono (by omega)))
        have HBk := Lib.hid (HBj.out.trans (hbk.mono HBj.out.size))
        clear BE1 BY1 B71 hRr1 hZS hbk hjk
        have cE := BE.out.cell
        have fE := BE.out.frozen
        have lE := BE.out.lt
        go_wp2_with fail
        obtain ⟨Ar', capr', er, _, _, hrr⟩ := own_form HRr.out
        cases er
        have HRr2 := Lib.hid hrr
        replace HR7 := Lib.hid (HR7.out.more (show w8.heap.size ≤ wk.heap.size by omega))
        clear hrr
        have c7 := B7.out.cell
        have l7 := B7.out.lt
        have hs0k := HBk.out.size
        replace HZ7 := Lib.hid (HZ7.out.more (show w8.heap.size ≤ wk.heap.size by omega))
        have HZE := HZS
        clear HZS fE
        (refine wp_region_calm [] [0, 1, 2, 3, 4, 5, 6, 7, 8, 9, 11] 16 (by kernel_rfl) rfl (by kernel_rfl) (by kernel_rfl) (by kernel_rfl) ?_; simp only [pickB, List.filterMap_cons, List.filterMap_nil, List.getElem?_toArray, List.getElem?_cons_zero, List.getElem?_cons_succ]; (repeat (first | ((with_reducible refine quietL_plain rfl (fun K hK => ?_)); (apply Exists.intro; refine ⟨fun wx hx => ?_, ?_⟩; (· (have hcx := ifs_ex hx); simp [go_sem, *, ↓IntWalk.iteOmega] <;> (first | rfl | exact ⟨rfl, rfl⟩ | fail)); (simp only [Act.put, List.setIfInBounds_toArray, List.set_cons_zero, List.set_cons_succ]; refine hK _ ?_; clear hK K))) | ((with_reducible refine quietL_skip (by with_unfolding_all rfl) ?_); simp only [Act.put, List.setIfInBounds_toArray, List.set_cons_zero, List.set_cons_succ]) | ((with_reducible refine quietL_want (by with_unfolding_all rfl) (fun K hK => ?_)); (apply Exists.intro; refine ⟨fun wx hx => ?_, ?_⟩; (· (have hcx := ifs_ex hx); simp [go_sem, *, ↓IntWalk.iteOmega] <;> (first | rfl | exact ⟨rfl, rfl⟩ | fail)); (simp only [Act.put, List.setIfInBounds_toArray, List.set_cons_zero, List.set_cons_succ]; refine hK _ ?_; clear hK K))))); refine quietL_nil ?_)
        (refine anyB_one_want (i := 10) (by kernel_rfl) rfl (by kernel_rfl) ?_; intro wA hbA K hK; have hsA := hbA.size; (try simp at hsA); go_wp2_with fail)
        refine (HTd.out _ _ _ _ _ _ _ (yd_kept HZ7.out hbA)).mono ?_
        rintro e wB ⟨F0, F1, F2, f0, f1, f2, rfl, hOB, hbB⟩
        have hsB := hbB.size
        have hfb := hOB.yd
        (try rw [at_lenR] at hfb)
        have HFB := Lib.hid hfb
        clear hfb
        clear hOB
        (go_wp2; refine ⟨xs_, ?_⟩)
        (refine anyB_one_want (i := 12) (by kernel_rfl) rfl (by kernel_rfl) ?_; intro wC hbC K hK; have hsC := hbC.size; (try simp at hsC); go_wp2_with fail)
        refine (HSa.out _ _ _ _ _ _ _ _ _ _ _ _ _ (yd_kept HFB.out hbC) (yd_kept HZE.out (hbA.trans ((hbB.trans (hbC.mono hbB.size)).mono hbA.size)))).mono ?_
        rintro e wD ⟨rfl, hbD⟩
        have hsD := hbD.size
        (go_wp2; refine ⟨xs_, ?_⟩)
        have hACD : Below wk.heap.size wk wD := hbA.trans (((hbB.trans (hbC.mono hbB.size)).trans (hbD.mono (by omega))).mono hbA.size)
        skip
        (refine anyB_quiet_at (by kernel_rfl) calm_panic xs_ 1 [13, 14, 15, 16, 17, 18, 19, 20, 21, 22, 23, 24, 25] _ _ (by kernel_rfl) (by decide +kernel) ?_; simp only [pickB, List.filterMap_cons, List.filterMap_nil, List.getElem?_toArray, List.getElem?_cons_zero, List.getElem?_cons_succ]; (repeat (first | ((with_reducible refine quietL_plain rfl (fun K hK => ?_)); (apply Exists.intro; refine ⟨fun wx hx => ?_, ?_⟩; (· (have hcx := ifs_ex hx); simp [go_sem, *, ↓IntWalk.iteOmega] <;> (first | rfl | exact ⟨rfl, rfl⟩ | (exact calls_B (listed_ok _ _ _ _ _ rl rfl hrl2 _ (rd_kept HR7.out (Ex.belowW hx)) (rd_kept HRr2.out (Ex.belowW hx)))))); (simp only [Act.put, List.setIfInBounds_toArray, List.set_cons_zero, List.set_cons_succ]; refine hK _ ?_; clear hK K))) | ((with_reducible refine quietL_skip (by with_unfolding_all rfl) ?_); simp only [Act.put, List.setIfInBounds_toArray, List.set_cons_zero, List.set_cons_succ]) | ((with_reducible refine quietL_want (by with_unfolding_all rfl) (fun K hK => ?_)); (apply Exists.intro; refine ⟨fun wx hx => ?_, ?_⟩; (· (have hcx := ifs_ex hx); simp [go_sem, *, ↓IntWalk.iteOmega] <;> (first | rfl | exact ⟨rfl, rfl⟩ | (exact calls_B (listed_ok _ _ _ _ _ rl rfl hrl2 _ (rd_kept HR7.out (Ex.belowW hx)) (rd_kept HRr2.out (Ex.belowW hx)))))); (simp only [Act.put, List.setIfInBounds_toArray, List.set_cons_zero, List.set_cons_succ]; refine hK _ ?_; clear hK K))))); refine quietL_nil ?_)
        (refine anyB_one (i := 26) (by kernel_rfl) rfl rfl ?_; intro wE hbE K hK; have hsE := hbE.size; (try simp at hsE); go_wp2; refine ⟨xs_, ?_⟩)
        (refine anyB_end (by kernel_rfl) ?_; intro wF hbF; have hsF := hbF.size; (try simp at hsF); simp only [Calm])
        have hFin : Below w.heap.size w wF := HBk.out.trans ((hACD.trans ((hbE.trans (hbF.mono hbE.size)).mono hACD.size)).mono HBk.out.size)
        clear hbA hbB hbC hbD hbE hbF
        go_wp2_with fail
        go_ret
        exact ⟨by first | rfl | (simp; done), hFin⟩
end Go.Proofs.YtphlojgmfkgeiaaGreatDoor
