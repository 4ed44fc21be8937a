/- The law PermitIslands. -/
import Derived.Test.YtphlojgmfkgeiaaGreatDoorIQ
import Derived.Test.YtphlojgmfkgeiaaGreatDoorLS
import Derived.Test.YtphlojgmfkgeiaaGreatDoorKn
import Derived.Deep.DeepCutAuto
import Derived.Deep.CutBlock
namespace Go.Proofs.YtphlojgmfkgeiaaGreatDoor
open Go.RowKit Go.Sort Go.Shelf
set_option linter.unusedSimpArgs false
set_option linter.unusedVariables false
attribute [local go_sem] cell_if frozen_if grow_cell
set_option maxRecDepth 1000000 in
set_option maxHeartbeats 20000000 in
theorem islands_law (A0 A1 A2 : Option Addr) (n0 n1 n2 c0 c1 c2 : Nat) (y : Yd) (w : World) (hY : YdAt w w.heap.size A0 A1 A2 n0 n1 n2 y) (h0 : n0 ≤ maxLen) (h1 : n1 ≤ maxLen) (h2 : n2 ≤ maxLen) (hW : Wide y) (hT : Tabs w) :
    Calls Tryz.prog 5 #[.agg #[.slice A0 n0 c0, .slice A1 n1 c1, .slice A2 n2 c2]] w fun e w' => e = .returned (.bool true) ∧ Below w.heap.size w w' := by
  have HY := Lib.hid hY
  have HT := Lib.hid (fun W (hW : Below w.heap.size w W) => hT.kept hW)
  have HAw := Lib.hid (fun W (hW : Below w.heap.size w W) => awake_any W (hT.kept hW))
  have HSm := Lib.hid (fun W (hB : Below w.heap.size w W) => small_any A0 A1 A2 n0 n1 n2 c0 c1 c2 y W (yd_kept hY hB) h0 h1 h2 hW)
  have hl0 := (sec_at hY.hs).1
  have hl1 := (sw_at hY.hw).1
  have hl2 := (pm_at hY.hp).1
  have HF := Lib.hid (fun h => hW.fits (y := y) h)
  have HL0 := Lib.hid hl0
  have HL1 := Lib.hid hl1
  have HL2 := Lib.hid hl2
  clear hY hT h0 h1 h2 hW hl0 hl1 hl2
  cases hS : smallB y with
  | false =>
    rw [hS] at HSm
    clear hS
    go_enter Tryz.func5, Tryz.ntmps5
    go_wp2_with fail
    refine (HAw.out _ bl_).mono ?_
    (rintro e w1 ⟨rfl, hb1⟩; have hs1 := hb1.size; (try simp at hs1))
    have HB1 := Lib.hid (bl_ : Below w.heap.size w w1)
    have BY := Lib.hid (bk_ : Blk w1 w.heap.size 26 #[.slice A0 n0 c0, .slice A1 n1 c1, .slice A2 n2 c2])
    have cY := BY.out.cell
    have lY := BY.out.lt
    clear hb1
    go_wp2_with fail
    refine (HSm.out _ HB1.out).mono ?_
    (rintro e w2 ⟨rfl, hb2⟩; have hs2 := hb2.size; (try simp at hs2))
    have HB2 := Lib.hid (HB1.out.trans (hb2.mono HB1.out.size))
    have hs02 := HB2.out.size
    replace BY := Lib.hid (BY.out.kept hb2)
    replace cY := BY.out.cell
    replace lY := BY.out.lt
    (try replace BG := Lib.hid (BG.out.kept hb2))
    (try replace cG := BG.out.cell)
    (try replace lG := BG.out.lt)
    clear hb2
    go_wp2_with fail
    refine (HAw.out _ HB2.out).mono ?_
    rintro e wz ⟨rfl, hbz⟩
    go_wp2_with fail
    go_ret
    exact ⟨rfl, HB2.out.trans (hbz.mono HB2.out.size)⟩
  | true =>
    rw [hS] at HSm
    have hSS : shortY y = true ∧ smallY y = true ∧ yardE y = 0 := by
      unfold smallB at hS
      simp only [Bool.and_eq_true, beq_iff_eq] at hS
      exact ⟨hS.1.1, hS.1.2, hS.2⟩
    have hF := HF.out hSS.1
    have hyE := hSS.2.2
    have hP := (yard_ok hyE).1
    have f0 := hF.s9
    have f1 := hF.w9
    have f2 := hF.p9
    have g0 : n0 ≤ 9 := HL0.out ▸ f0
    have g1 : n1 ≤ 9 := HL1.out ▸ f1
    have g2 : n2 ≤ 9 := HL2.out ▸ f2
    have HO := Lib.hid (fun W (hW : Below w.heap.size w W) => (own_any w.heap.size A0 A1 A2 n0 n1 n2 c0 c1 c2 y W (HY.out.below hW) hW.size (by omega) (by omega) (by omega)).mono fun _ _ h => h.sh)
    have HOr := Lib.hid (fun W (hW : Below w.heap.size w W) => own_any w.heap.size A0 A1 A2 n0 n1 n2 c0 c1 c2 y W (HY.out.below hW) hW.size (by omega) (by omega) (by omega))
    have HI := Lib.hid (fun W D0 D1 D2 d0 d1 d2 (hy : YdAt W W.heap.size D0 D1 D2 y.s.length y.w.length y.p.length y) (hW : Below w.heap.size w W) => Islands_any W.heap.size D0 D1 D2 y.s.length y.w.length y.p.length d0 d1 d2 y W hy (Nat.le_refl _) (HT.out W hW) hF)
    have HEn := Lib.hid (fun W D0 D1 D2 d0 d1 d2 (hy : YdAt W W.heap.size D0 D1 D2 y.s.length y.w.length y.p.length y) (hW : Below w.heap.size w W) => Energized_any W.heap.size D0 D1 D2 y.s.length y.w.length y.p.length d0 d1 d2 y W hy (Nat.le_refl _) (HT.out W hW) hF)
    have HEa := Lib.hid (fun W D0 D1 D2 d0 d1 d2 (hy : YdAt W W.heap.size D0 D1 D2 y.s.length y.w.length y.p.length y) (hW : Below w.heap.size w W) => Earthed_any W.heap.size D0 D1 D2 y.s.length y.w.length y.p.length d0 d1 d2 y W hy (Nat.le_refl _) (HT.out W hW) hF)
    have HSp := Lib.hid (fun W D0 D1 D2 d0 d1 d2 (hy : YdAt W W.heap.size D0 D1 D2 y.s.length y.w.length y.p.length y) (hW : Below w.heap.size w W) => Separated_any W.heap.size D0 D1 D2 y.s.length y.w.length y.p.length d0 d1 d2 y W hy (Nat.le_refl _) (HT.out W hW) hF)
    have HSc := Lib.hid (fun W D0 D1 D2 d0 d1 d2 (hy : YdAt W W.heap.size D0 D1 D2 y.s.length y.w.length y.p.length y) (hW : Below w.heap.size w W) => Secured_any W.heap.size D0 D1 D2 y.s.length y.w.length y.p.length d0 d1 d2 y W hy (Nat.le_refl _) (HT.out W hW) hF)
    have HLf := Lib.hid (fun W D0 D1 D2 d0 d1 d2 (hy : YdAt W W.heap.size D0 D1 D2 y.s.length y.w.length y.p.length y) (hW : Below w.heap.size w W) => Left_any W.heap.size D0 D1 D2 y.s.length y.w.length y.p.length d0 d1 d2 y W hy (Nat.le_refl _) (HT.out W hW) hF)
    simp only [hyE, resI, resW, if_true] at HI HEn HEa HSp HSc HLf
    change Hid (∀ W D0 D1 D2 d0 d1 d2 hy hW, Calls _ _ _ W (IntsERes W (enL y) 0)) at HEn
    change Hid (∀ W D0 D1 D2 d0 d1 d2 hy hW, Calls _ _ _ W (IntsERes W (earL y) 0)) at HEa
    change Hid (∀ W D0 D1 D2 d0 d1 d2 hy hW, Calls _ _ _ W (IntsERes W (sepL y) 0)) at HSp
    change Hid (∀ W D0 D1 D2 d0 d1 d2 hy hW, Calls _ _ _ W (IntsERes W (secL y) 0)) at HSc
    have HEo := Lib.hid (fun W D0 D1 d0 d1 (hy : YdAt W W.heap.size D0 D1 none y.s.length y.w.length 0 (opened y)) (hW : Below w.heap.size w W) => Energized_any W.heap.size D0 D1 none y.s.length y.w.length 0 d0 d1 0 (opened y) W hy (Nat.le_refl _) (HT.out W hW) (fits_opened hF))
    simp only [opened_ok hyE, resI, if_true] at HEo
    change Hid (∀ W D0 D1 d0 d1 hy hW, Calls _ _ _ W (IntsERes W (enL (opened y)) 0)) at HEo
    have i0 : (islsL y).length ≤ n0 := HL0.out ▸ islsTo_len y y.s.length
    have HLe := Lib.hid (And.intro (enL_len y) (And.intro (earL_len y) (And.intro (those_len y.s.length (sepB y)) (And.intro (those_len y.s.length (secB y)) (And.intro (enL_len (opened y)) (show (leftL y).length ≤ y.w.length by rw [← leftTo_all]; exact leftTo_len y _))))))
    have HPy := Lib.hid (And.intro hP hyE)
    have hgt : ¬ ((n0 : Int) < ((islsL y).length : Int)) := by omega
    have hgd : decide (n0 < (islsL y).length) = false := decide_eq_false (by omega)
    have HI0 := Lib.hid i0
    clear i0
    obtain ⟨ht, ⟨ix, zv, e1, e2, e3, e4, e5⟩, hp⟩ := elemInt
    have hz : zv = .int .i64 0 := by
      have : (Tryz.prog.info? 3).bind (·.zero) = some (.int .i64 0) := by kernel_rfl
      rw [e1] at this
      simpa [e2] using this
    subst hz
    have hm1 : ∀ w, (Instr.makeSlice 29 (.int .i64 (n0 : Int)) (.int .i64 (n0 : Int))).run Tryz.prog w = .ok (.slice (some ⟨w.heap.size, 0, none⟩) n0 n0) (w.alloc (.cells (fnV n0 (fun _ => 0)) 3)) := fun w => by
      have := run_make (P := Tryz.prog) w _ _ ix (.int .i64 0) ht e1 e2 .i64 .i64 (n0 : Int) (n0 : Int) (by omega) (by omega) (by rw [e4]; omega) (by omega)
      rw [e3] at this
      simpa [fnV_zero] using this
    clear ht e1 e2 e3 e4 e5 hp hS hSS HF hF hyE hP f0 f1 f2
    as_aux_lemma =>
      go_enter Tryz.func5, Tryz.ntmps5
      go_wp2_with fail
      refine (HAw.out _ bl_).mono ?_
      (rintro e w1 ⟨rfl, hb1⟩; have hs1 := hb1.size; (try simp at hs1))
      have HB1 := Lib.hid (bl_ : Below w.heap.size w w1)
      have BY := Lib.hid (bk_ : Blk w1 w.heap.size 26 #[.slice A0 n0 c0, .slice A1 n1 c1, .slice A2 n2 c2])
      have cY := BY.out.cell
      have lY := BY.out.lt
      clear hb1
      go_wp2_with fail
      refine (HSm.out _ HB1.out).mono ?_
      (rintro e w2 ⟨rfl, hb2⟩; have hs2 := hb2.size; (try simp at hs2))
      have HB2 := Lib.hid (HB1.out.trans (hb2.mono HB1.out.size))
      have hs02 := HB2.out.size
      replace BY := Lib.hid (BY.out.kept hb2)
      replace cY := BY.out.cell
      replace lY := BY.out.lt
      (try replace BG := Lib.hid (BG.out.kept hb2))
      (try replace cG := BG.out.cell)
      (try replace lG := BG.out.lt)
      clear hb2
      go_wp2_with fail
      go_wp2_with fail
      refine (HO.out _ HB2.out).mono ?_
      rintro e wa3 ⟨D0, D1, D2, d0, d1, d2, rfl, hyd, hba⟩
      have hsa3 := hba.size
      (try simp at hsa3)
      have HBa3 := Lib.hid (HB2.out.trans (hba.mono HB2.out.size))
      have HYD3 := Lib.hid hyd
      have HA3 := Lib.hid hba
      clear hyd hba
      go_wp2_with fail
      refine (HI.out _ _ _ _ _ _ _ HYD3.out HBa3.out).mono ?_
      rintro e w3 ⟨A3, c3, vs, rfl, hr3, hi3, hb3⟩
      have hs3 := hb3.size
      (try simp at hs3)
      have HB3 := Lib.hid (HBa3.out.trans (hb3.mono HBa3.out.size))
      have HK3 := Lib.hid (HA3.out.trans (hb3.mono HA3.out.size))
      clear hb3 HYD3 HA3 HBa3
      replace BY := Lib.hid (BY.out.kept HK3.out)
      have cY := BY.out.cell
      have lY := BY.out.lt
      (try replace HR0 := Lib.hid (il_kept HR0.out HK3.out))
      (try replace HR1 := Lib.hid (rd_kept HR1.out HK3.out))
      (try replace HR2 := Lib.hid (rd_kept HR2.out HK3.out))
      (try replace HR3 := Lib.hid (rd_kept HR3.out HK3.out))
      (try replace HR4 := Lib.hid (rd_kept HR4.out HK3.out))
      (try replace HR5 := Lib.hid (rd_kept HR5.out HK3.out))
      (try replace HR6 := Lib.hid (il_kept HR6.out HK3.out))
      (try replace HR7 := Lib.hid (rd_kept HR7.out HK3.out))
      (try replace HQ1 := Lib.hid (rd_kept HQ1.out HK3.out))
      (try replace HQ2 := Lib.hid (rd_kept HQ2.out HK3.out))
      (try replace HQ3 := Lib.hid (rd_kept HQ3.out HK3.out))
      (try replace HQ4 := Lib.hid (rd_kept HQ4.out HK3.out))
      have HR8 := Lib.hid (show IlQ w3 A3 vs (islsL y) from ⟨hr3, hi3⟩)
      clear hr3 hi3
      go_wp2_with fail
      refine (HO.out _ HB3.out).mono ?_
      rintro e wa4 ⟨D0, D1, D2, d0, d1, d2, rfl, hyd, hba⟩
      have hsa4 := hba.size
      (try simp at hsa4)
      have HBa4 := Lib.hid (HB3.out.trans (hba.mono HB3.out.size))
      have HYD4 := Lib.hid hyd
      have HA4 := Lib.hid hba
      clear hyd hba
      go_wp2_with fail
      refine (HEn.out _ _ _ _ _ _ _ HYD4.out HBa4.out).mono ?_
      rintro e w4 ⟨A4, c4, rfl, hr4, hb4⟩
      have hs4 := hb4.size
      (try simp at hs4)
      have HB4 := Lib.hid (HBa4.out.trans (hb4.mono HBa4.out.size))
      have HK4 := Lib.hid (HA4.out.trans (hb4.mono HA4.out.size))
      clear hb4 HYD4 HA4 HBa4
      replace BY := Lib.hid (BY.out.kept HK4.out)
      have cY := BY.out.cell
      have lY := BY.out.lt
      (try replace HR0 := Lib.hid (il_kept HR0.out HK4.out))
      (try replace HR1 := Lib.hid (rd_kept HR1.out HK4.out))
      (try replace HR2 := Lib.hid (rd_kept HR2.out HK4.out))
      (try replace HR3 := Lib.hid (rd_kept HR3.out HK4.out))
      (try replace HR4 := Lib.hid (rd_kept HR4.out HK4.out))
      (try replace HR5 := Lib.hid (rd_kept HR5.out HK4.out))
      (try replace HR6 := Lib.hid (il_kept HR6.out HK4.out))
      (try replace HR7 := Lib.hid (rd_kept HR7.out HK4.out))
      (try replace HQ1 := Lib.hid (rd_kept HQ1.out HK4.out))
      (try replace HQ2 := Lib.hid (rd_kept HQ2.out HK4.out))
      (try replace HQ3 := Lib.hid (rd_kept HQ3.out HK4.out))
      (try replace HQ4 := Lib.hid (rd_kept HQ4.out HK4.out))
      have HR1 := Lib.hid hr4
      replace HR8 := Lib.hid (ilq_kept HR8.out HK4.out)
      clear hr4
      go_wp2_with fail
      refine (HO.out _ HB4.out).mono ?_
      rintro e wa5 ⟨D0, D1, D2, d0, d1, d2, rfl, hyd, hba⟩
      have hsa5 := hba.size
      (try simp at hsa5)
      have HBa5 := Lib.hid (HB4.out.trans (hba.mono HB4.out.size))
      have HYD5 := Lib.hid hyd
      have HA5 := Lib.hid hba
      clear hyd hba
      go_wp2_with fail
      refine (HEa.out _ _ _ _ _ _ _ HYD5.out HBa5.out).mono ?_
      rintro e w5 ⟨A5, c5, rfl, hr5, hb5⟩
      have hs5 := hb5.size
      (try simp at hs5)
      have HB5 := Lib.hid (HBa5.out.trans (hb5.mono HBa5.out.size))
      have HK5 := Lib.hid (HA5.out.trans (hb5.mono HA5.out.size))
      clear hb5 HYD5 HA5 HBa5
      replace BY := Lib.hid (BY.out.kept HK5.out)
      have cY := BY.out.cell
      have lY := BY.out.lt
      (try replace HR0 := Lib.hid (il_kept HR0.out HK5.out))
      (try replace HR1 := Lib.hid (rd_kept HR1.out HK5.out))
      (try replace HR2 := Lib.hid (rd_kept HR2.out HK5.out))
      (try replace HR3 := Lib.hid (rd_kept HR3.out HK5.out))
      (try replace HR4 := Lib.hid (rd_kept HR4.out HK5.out))
      (try replace HR5 := Lib.hid (rd_kept HR5.out HK5.out))
      (try replace HR6 := Lib.hid (il_kept HR6.out HK5.out))
      (try replace HR7 := Lib.hid (rd_kept HR7.out HK5.out))
      (try replace HQ1 := Lib.hid (rd_kept HQ1.out HK5.out))
      (try replace HQ2 := Lib.hid (rd_kept HQ2.out HK5.out))
      (try replace HQ3 := Lib.hid (rd_kept HQ3.out HK5.out))
      (try replace HQ4 := Lib.hid (rd_kept HQ4.out HK5.out))
      have HR2 := Lib.hid hr5
      replace HR8 := Lib.hid (ilq_kept HR8.out HK5.out)
      clear hr5
      go_wp2_with fail
      refine (HO.out _ HB5.out).mono ?_
      rintro e wa6 ⟨D0, D1, D2, d0, d1, d2, rfl, hyd, hba⟩
      have hsa6 := hba.size
      (try simp at hsa6)
      have HBa6 := Lib.hid (HB5.out.trans (hba.mono HB5.out.size))
      have HYD6 := Lib.hid hyd
      have HA6 := Lib.hid hba
      clear hyd hba
      go_wp2_with fail
      refine (HSp.out _ _ _ _ _ _ _ HYD6.out HBa6.out).mono ?_
      rintro e w6 ⟨A6, c6, rfl, hr6, hb6⟩
      have hs6 := hb6.size
      (try simp at hs6)
      have HB6 := Lib.hid (HBa6.out.trans (hb6.mono HBa6.out.size))
      have HK6 := Lib.hid (HA6.out.trans (hb6.mono HA6.out.size))
      clear hb6 HYD6 HA6 HBa6
      replace BY := Lib.hid (BY.out.kept HK6.out)
      have cY := BY.out.cell
      have lY := BY.out.lt
      (try replace HR0 := Lib.hid (il_kept HR0.out HK6.out))
      (try replace HR1 := Lib.hid (rd_kept HR1.out HK6.out))
      (try replace HR2 := Lib.hid (rd_kept HR2.out HK6.out))
      (try replace HR3 := Lib.hid (rd_kept HR3.out HK6.out))
      (try replace HR4 := Lib.hid (rd_kept HR4.out HK6.out))
      (try replace HR5 := Lib.hid (rd_kept HR5.out HK6.out))
      (try replace HR6 := Lib.hid (il_kept HR6.out HK6.out))
      (try replace HR7 := Lib.hid (rd_kept HR7.out HK6.out))
      (try replace HQ1 := Lib.hid (rd_kept HQ1.out HK6.out))
      (try replace HQ2 := Lib.hid (rd_kept HQ2.out HK6.out))
      (try replace HQ3 := Lib.hid (rd_kept HQ3.out HK6.out))
      (try replace HQ4 := Lib.hid (rd_kept HQ4.out HK6.out))
      have HR3 := Lib.hid hr6
      replace HR8 := Lib.hid (ilq_kept HR8.out HK6.out)
      clear hr6
      go_wp2_with fail
      refine (HO.out _ HB6.out).mono ?_
      rintro e wa7 ⟨D0, D1, D2, d0, d1, d2, rfl, hyd, hba⟩
      have hsa7 := hba.size
      (try simp at hsa7)
      have HBa7 := Lib.hid (HB6.out.trans (hba.mono HB6.out.size))
      have HYD7 := Lib.hid hyd
      have HA7 := Lib.hid hba
      clear hyd hba
      go_wp2_with fail
      refine (HSc.out _ _ _ _ _ _ _ HYD7.out HBa7.out).mono ?_
      rintro e w7 ⟨A7, c7, rfl, hr7, hb7⟩
      have hs7 := hb7.size
      (try simp at hs7)
      have HB7 := Lib.hid (HBa7.out.trans (hb7.mono HBa7.out.size))
      have HK7 := Lib.hid (HA7.out.trans (hb7.mono HA7.out.size))
      clear hb7 HYD7 HA7 HBa7
      replace BY := Lib.hid (BY.out.kept HK7.out)
      have cY := BY.out.cell
      have lY := BY.out.lt
      (try replace HR0 := Lib.hid (il_kept HR0.out HK7.out))
      (try replace HR1 := Lib.hid (rd_kept HR1.out HK7.out))
      (try replace HR2 := Lib.hid (rd_kept HR2.out HK7.out))
      (try replace HR3 := Lib.hid (rd_kept HR3.out HK7.out))
      (try replace HR4 := Lib.hid (rd_kept HR4.out HK7.out))
      (try replace HR5 := Lib.hid (rd_kept HR5.out HK7.out))
      (try replace HR6 := Lib.hid (il_kept HR6.out HK7.out))
      (try replace HR7 := Lib.hid (rd_kept HR7.out HK7.out))
      (try replace HQ1 := Lib.hid (rd_kept HQ1.out HK7.out))
      (try replace HQ2 := Lib.hid (rd_kept HQ2.out HK7.out))
      (try replace HQ3 := Lib.hid (rd_kept HQ3.out HK7.out))
      (try replace HQ4 := Lib.hid (rd_kept HQ4.out HK7.out))
      have HR4 := Lib.hid hr7
      replace HR8 := Lib.hid (ilq_kept HR8.out HK7.out)
      clear hr7
      go_wp2_with fail
      refine (HO.out _ HB7.out).mono ?_
      rintro e wa8 ⟨D0, D1, D2, d0, d1, d2, rfl, hyd, hba⟩
      have hsa8 := hba.size
      (try simp at hsa8)
      have HBa8 := Lib.hid (HB7.out.trans (hba.mono HB7.out.size))
      have HYD8 := Lib.hid hyd
      have HA8 := Lib.hid hba
      clear hyd hba
      go_wp2_with fail
      refine (HLf.out _ _ _ _ _ _ _ HYD8.out HBa8.out).mono ?_
      rintro e w8 ⟨A8, c8, rfl, hr8, hb8⟩
      have hs8 := hb8.size
      (try simp at hs8)
      have HB8 := Lib.hid (HBa8.out.trans (hb8.mono HBa8.out.size))
      have HK8 := Lib.hid (HA8.out.trans (hb8.mono HA8.out.size))
      clear hb8 HYD8 HA8 HBa8
      replace BY := Lib.hid (BY.out.kept HK8.out)
      have cY := BY.out.cell
      have lY := BY.out.lt
      (try replace HR0 := Lib.hid (il_kept HR0.out HK8.out))
      (try replace HR1 := Lib.hid (rd_kept HR1.out HK8.out))
      (try replace HR2 := Lib.hid (rd_kept HR2.out HK8.out))
      (try replace HR3 := Lib.hid (rd_kept HR3.out HK8.out))
      (try replace HR4 := Lib.hid (rd_kept HR4.out HK8.out))
      (try replace HR5 := Lib.hid (rd_kept HR5.out HK8.out))
      (try replace HR6 := Lib.hid (il_kept HR6.out HK8.out))
      (try replace HR7 := Lib.hid (rd_kept HR7.out HK8.out))
      (try replace HQ1 := Lib.hid (rd_kept HQ1.out HK8.out))
      (try replace HQ2 := Lib.hid (rd_kept HQ2.out HK8.out))
      (try replace HQ3 := Lib.hid (rd_kept HQ3.out HK8.out))
      (try replace HQ4 := Lib.hid (rd_kept HQ4.out HK8.out))
      replace HR8 := Lib.hid (ilq_kept HR8.out HK8.out)
      have HF8 := Lib.hid (⟨HR8.out, HR1.out, HR2.out, HR3.out, HR4.out, hr8, BY.out, HB8.out⟩ : IsF w y A0 A1 A2 n0 n1 n2 c0 c1 c2 A3 A4 A5 A6 A7 A8 vs w8)
      clear hr8 HR8 HR1 HR2 HR3 HR4 HI HEn HEa HSp HSc HLf HO HAw HSm HB1 HB2 HB3 HB4 HB5 HB6 HB7 HK3 HK4 HK5 HK6 HK7 HK8
      go_upto_block 0 with fail
      have hba : Below w8.heap.size w8 (w8.alloc (.cells (fnV n0 (fun _ => 0)) 3)) := (Below.refl _ w8).alloc (Nat.le_refl _) _
      have BF := Lib.hid (Blk.new w8 3 (fnV n0 (fun _ => 0)))
      generalize (w8.alloc (.cells (fnV n0 (fun _ => 0)) 3)) = wa at *
      clear hm1 cY lY hgt hgd
      go_cut [] (fun wx => Blk wx w8.heap.size 3 (fnV n0 (fun _ => -1)) ∧ Below w8.heap.size w8 wx)
      case first =>
        as_aux_lemma =>
          go_wp2_with fail
          go_loopw [118] (fun i wr => ∃ k : Nat, k ≤ n0 ∧ i = .int .i64 k ∧ Blk wr w8.heap.size 3 (fnV n0 (fun s => if s < k then -1 else 0)) ∧ Below w8.heap.size w8 wr) (fun i _ => n0 - (intOf i).toNat)
          case atStart => exact ⟨0, by omega, rfl, by rw [fnV_congr (G := fun _ => 0) (fun s _ => if_neg (by omega))]; exact BF.out, hba⟩
          case round =>
            obtain ⟨k, hk, rfl, hB, hb⟩ := hrel
            by_cases hlt : k < n0
            · have Z := hB.set_ k (.int .i64 (-1))
              rw [fnV_set, fnV_congr (fun s _ => lt_step k s)] at Z
              have HZ := Lib.hid Z
              have ZB := Lib.hid (hb.setCell (p := ⟨w8.heap.size, k, none⟩) (by first | (simp; done) | (simp; omega)) (.int .i64 (-1)))
              have c9 := hB.cell
              have f9 := hB.frozen
              have l9 := hB.lt
              have gz := fnV_get (F := fun s => if s < k then (-1 : Int) else 0) hlt
              clear Z hba BF
              go_wp2_with fail
              go_roundw
              case rel => exact ⟨k + 1, by omega, by go_num, HZ.out, ZB.out⟩
              case measure => simp [intOf]; omega
            · obtain rfl : k = n0 := by omega
              rw [fnV_congr (G := fun _ => -1) (fun s hs => if_pos hs)] at hB
              have HZ := Lib.hid hB
              clear hB
              go_wp2_with fail
              go_meet
              case rel => exact ⟨HZ.out, hb⟩
      rename World => wb
      obtain ⟨hB, hb⟩ := hcut
      clear BF hba
      have BF := Lib.hid hB
      have HBb := Lib.hid hb
      have cY := (HF8.out.kept hb).box.cell
      have lY := (HF8.out.kept hb).box.lt
      clear hB hb
      as_aux_lemma =>
        go_upto_block 2 with fail
        go_cut [] (fun wx => Blk wx w8.heap.size 3 (fnV n0 (fun s => ofAt (islsL y) 0 s)) ∧ Below w8.heap.size w8 wx)
        case first =>
          as_aux_lemma =>
            have i0 := HI0.out
            go_wp2_with fail
            go_loopw [127] (fun i wr => ∃ k : Nat, k ≤ (islsL y).length ∧ i = .int .i64 k ∧ Blk wr w8.heap.size 3 (fnV n0 (fun s => ofAt ((islsL y).take k) 0 s)) ∧ Below w8.heap.size w8 wr) (fun i _ => (islsL y).length - (intOf i).toNat)
            case atStart => exact ⟨0, by omega, rfl, BF.out, HBb.out⟩
            case round =>
              clear BF HBb cY lY
              obtain ⟨k, hk, rfl, hB, hb⟩ := hrel
              by_cases hlt : k < (islsL y).length
              · skip
                as_aux_lemma =>
                  obtain ⟨b1, o1, A', c', eA, hbl1, hc1, hr1⟩ := ilq_at HF8.out.il k hlt
                  rw [← hb.cell (p := ⟨b1, o1 + k, none⟩) hbl1] at hc1
                  have hs := hb.size
                  have hbw1 : b1 < wr.heap.size := by omega
                  have hlm : (islsL y)[k] ∈ islsL y := List.getElem_mem hlt
                  have hl8 := isls_len8 HPy.out.1 hlm
                  have HNW := Lib.hid (fun j (hj : j < (islsL y)[k].length) => ofP_new HPy.out.1 hlt hj)
                  have HAL := Lib.hid (fun i (hi : i ∈ (islsL y)[k]) => isl_alike HPy.out.1 hlm (i := i) hi)
                  have HEND := Lib.hid (fun i => ofP_last HPy.out.1 hlt i)
                  have HSTP := Lib.hid (fun j (hj : j < (islsL y)[k].length) i => ofP_step hlt hj i)
                  have HR1 := Lib.hid hr1
                  have BF := Lib.hid hB
                  have HBb := Lib.hid hb
                  clear hlm hr1 hB hb
                  subst eA
                  generalize (islsL y)[k] = l at *
                  go_upto_block 4 with fail
                  go_cut [19, 20] (fun s19 s20 wx => s19 = .bool (fedB y l) ∧ s20 = .bool (earTo y l l.length) ∧ Blk wx w8.heap.size 3 (fnV n0 (fun s => ofAt ((islsL y).take (k + 1)) 0 s)) ∧ Below w8.heap.size w8 wx)
                  case first =>
                    as_aux_lemma =>
                      go_wp2_with fail
                      go_loopw [19, 20, 134] (fun p q i W => ∃ j : Nat, j ≤ l.length ∧ i = .int .i64 j ∧ p = .bool (fedB y (l.take j)) ∧ q = .bool (earTo y l j) ∧ Blk W w8.heap.size 3 (fnV n0 (fun s => ofP (islsL y) k j s)) ∧ Below w8.heap.size w8 W) (fun _ _ i _ => l.length - (intOf i).toNat)
                      case atStart => exact ⟨0, by omega, rfl, rfl, rfl, by rw [fnV_congr (fun s _ => ofP_zero (islsL y) k s)]; exact BF.out, HBb.out⟩
                      case round =>
                        rename World => W2
                        clear BF HBb
                        obtain ⟨j, hj, rfl, rfl, rfl, hB2, hb2⟩ := hrel
                        by_cases hjn : j < l.length
                        · skip
                          as_aux_lemma =>
                            obtain ⟨b, o, u, rfl, hbb, hu, hc⟩ := HR1.out.at_ hjn
                            obtain rfl : u = .int .i64 l[j] := by simpa [hjn] using hu.symm
                            rw [← hb2.cell (p := ⟨b, o + j, none⟩) hbb] at hc
                            have hs2 := hb2.size
                            have hbw : b < W2.heap.size := by omega
                            obtain ⟨m1, m2⟩ := HNW.out j hjn
                            obtain ⟨z0, zl⟩ := mem_rng.1 m1
                            have hst := HSTP.out j hjn
                            have HFE := Lib.hid (fed_step (y := y) hjn)
                            have HER := Lib.hid (earMid_end (y := y) hjn)
                            generalize l[j] = z at *
                            obtain ⟨zi, rfl⟩ := Int.eq_ofNat_of_zero_le z0
                            have hzs : zi < y.s.length := by omega
                            have hzn : zi < n0 := HL0.out ▸ hzs
                            rw [srcAt_nat hzs] at HFE
                            obtain ⟨b0, o0, eA0, hb0, _, hs1⟩ := (sec_at HY.out.hs).2 zi hzs
                            generalize y.s[zi].src = sr at *
                            have hst' : ∀ s : Nat, (if s = zi then (k : Int) else ofP (islsL y) k j s) = ofP (islsL y) k (j + 1) s := fun s => by
                              rw [← hst s]
                              by_cases h : s = zi
                              · rw [if_pos h, if_pos (by omega)]
                              · rw [if_neg h, if_neg (by omega)]
                            have Z := hB2.set_ zi (.int .i64 (k : Int))
                            rw [fnV_set, fnV_congr (fun s _ => hst' s)] at Z
                            have HZ := Lib.hid Z
                            have ZB := Lib.hid (hb2.setCell (p := ⟨w8.heap.size, zi, none⟩) (by first | (simp; done) | (simp; omega)) (.int .i64 (k : Int)))
                            have c9 := hB2.cell
                            have f9 := hB2.frozen
                            have l9 := hB2.lt
                            have gz := fnV_get (F := fun s => ofP (islsL y) k j s) hzn
                            (try dsimp only at gz)
                            rw [m2] at gz
                            clear Z hst hst' m1 m2 z0 zl hu
                            go_upto_region 27 with fail
                            have hsz : (W2.setCell ⟨w8.heap.size, zi, none⟩ (.int .i64 (k : Int))).heap.size = W2.heap.size := by simp
                            generalize (W2.setCell ⟨w8.heap.size, zi, none⟩ (.int .i64 (k : Int))) = W3 at *
                            clear c9 f9 l9 gz hc hB2 hb2
                            have hFk := HF8.out.kept ZB.out
                            have cY := hFk.box.cell
                            have lY := hFk.box.lt
                            rw [← hFk.low.cell (p := ⟨b0, o0 + zi * 2 + 1, none⟩) hb0] at hs1
                            have hsw := hFk.low.size
                            have hb0w : b0 < W3.heap.size := by omega
                            subst eA0
                            clear hFk
                            generalize hp : fedB y (l.take j) = p at *
                            go_cut [19] (fun s19 W => s19 = .bool (p || sr) ∧ W = W3)
                            case first =>
                              as_aux_lemma =>
                                cases p
                                · go_wp2_with fail
                                  go_meet
                                  case rel => exact ⟨by first | rfl | (simp; done), rfl⟩
                                · go_wp2_with fail
                                  go_meet
                                  case rel => exact ⟨by first | rfl | (simp; done), rfl⟩
                            obtain ⟨rfl, rfl⟩ := hcut
                            rename World => W3
                            go_wp2_with fail
                            go_loopw [20, 169] (fun q i W => ∃ m : Nat, m ≤ n1 ∧ i = .int .i64 m ∧ q = .bool (earMid y l j (zi : Int) m) ∧ Blk W w8.heap.size 3 (fnV n0 (fun s => ofP (islsL y) k (j + 1) s)) ∧ Below w8.heap.size w8 W) (fun _ i _ => n1 - (intOf i).toNat)
                            case atStart => exact ⟨0, by omega, rfl, by rw [earMid_zero], HZ.out, ZB.out⟩
                            case round =>
                              rename World => W4
                              clear HZ ZB cY lY hs1
                              obtain ⟨m, hm, rfl, rfl, hB4, hb4⟩ := hrel
                              have hF4 := HF8.out.kept hb4
                              have cY := hF4.box.cell
                              have lY := hF4.box.lt
                              have hs4 := hF4.low.size
                              have HB4 := Lib.hid hB4
                              have HBl4 := Lib.hid hb4
                              clear hB4
                              by_cases hmn : m < n1
                              · skip
                                as_aux_lemma =>
                                  have hmw : m < y.w.length := by rw [HL1.out]; exact hmn
                                  obtain ⟨b5, o5, eA1, hb5, q0, q1, q2, q3, q4⟩ := (sw_at HY.out.hw).2 m hmw
                                  rw [← hF4.low.cell (p := ⟨b5, o5 + m * 5, none⟩) hb5] at q0
                                  rw [← hF4.low.cell (p := ⟨b5, o5 + m * 5 + 1, none⟩) hb5] at q1
                                  rw [← hF4.low.cell (p := ⟨b5, o5 + m * 5 + 2, none⟩) hb5] at q2
                                  rw [← hF4.low.cell (p := ⟨b5, o5 + m * 5 + 3, none⟩) hb5] at q3
                                  rw [← hF4.low.cell (p := ⟨b5, o5 + m * 5 + 4, none⟩) hb5] at q4
                                  have hb5w : b5 < W4.heap.size := by omega
                                  have HES := Lib.hid (earMid_step (y := y) (l := l) (j := j) (i := (zi : Int)) hmw)
                                  generalize y.w[m] = x at *
                                  obtain ⟨xn, xk, xa, xb, xc⟩ := x
                                  dsimp only at q0 q1 q2 q3 q4
                                  unfold earOne at HES
                                  dsimp only at HES
                                  subst eA1
                                  generalize earMid y l j (zi : Int) m = p2 at *
                                  clear hF4
                                  cases p2 with
                                  | true =>
                                    go_wp2_with fail
                                    go_roundw
                                    case rel => exact ⟨m + 1, by omega, by go_num, by rw [HES.out]; rfl, HB4.out.alloc _, HBl4.out.alloc HBl4.out.size _⟩
                                    case measure => simp [intOf]; omega
                                  | false =>
                                    cases hk1 : (xk.toList == [101, 97, 114, 116, 104]) with
                                    | false =>
                                      go_wp2_with fail
                                      go_roundw
                                      case rel => exact ⟨m + 1, by omega, by go_num, by rw [HES.out, show (xk.toList == earthL) = false from hk1]; rfl, HB4.out.alloc _, HBl4.out.alloc HBl4.out.size _⟩
                                      case measure => simp [intOf]; omega
                                    | true =>
                                      cases xc with
                                      | false =>
                                        go_wp2_with fail
                                        go_roundw
                                        case rel => exact ⟨m + 1, by omega, by go_num, by rw [HES.out]; simp, HB4.out.alloc _, HBl4.out.alloc HBl4.out.size _⟩
                                        case measure => simp [intOf]; omega
                                      | true =>
                                        cases ha : (xa == (zi : Int)) with
                                        | false =>
                                          go_wp2_with fail
                                          go_roundw
                                          case rel => exact ⟨m + 1, by omega, by go_num, by rw [HES.out, ha]; simp, HB4.out.alloc _, HBl4.out.alloc HBl4.out.size _⟩
                                          case measure => simp [intOf]; omega
                                        | true =>
                                          go_wp2_with fail
                                          go_roundw
                                          case rel => exact ⟨m + 1, by omega, by go_num, by rw [HES.out, ha, show (xk.toList == earthL) = true from hk1]; rfl, HB4.out.alloc _, HBl4.out.alloc HBl4.out.size _⟩
                                          case measure => simp [intOf]; omega
                              · obtain rfl : m = n1 := by omega
                                have he := HER.out
                                rw [HL1.out] at he
                                clear hF4
                                go_wp2_with fail
                                go_roundw
                                case rel => exact ⟨j + 1, by omega, by go_num, by rw [HFE.out], by rw [he], HB4.out, HBl4.out⟩
                                case measure => simp [intOf]; omega
                        · obtain rfl : j = l.length := by omega
                          rw [List.take_length, fnV_congr (fun s _ => HEND.out s)] at *
                          have HZ := Lib.hid hB2
                          clear hB2
                          go_wp2_with fail
                          go_meet
                          case rel => exact ⟨rfl, rfl, HZ.out, hb2⟩
                  rename World => wx
                  obtain ⟨rfl, rfl, hB, hb⟩ := hcut
                  clear BF HBb
                  have BF := Lib.hid hB
                  have HBb := Lib.hid hb
                  clear hB hb
                  generalize fedB y l = p at *
                  generalize earTo y l l.length = q at *
                  as_aux_lemma =>
                    go_wp2_with fail
                    go_loopw [193] (fun i W => ∃ j : Nat, j ≤ l.length ∧ i = .int .i64 j ∧ Below wx.heap.size wx W) (fun i _ => l.length - (intOf i).toNat)
                    case atStart => exact ⟨0, by omega, rfl, Below.refl _ _⟩
                    case round =>
                      rename World => wr
                      obtain ⟨j, hj, rfl, hbr⟩ := hrel
                      have HBb := Lib.hid (HBb.out.trans (hbr.mono HBb.out.size))
                      have BF := Lib.hid (BF.out.kept hbr)
                      by_cases hjn : j < l.length
                      · skip
                        as_aux_lemma =>
                          obtain ⟨b, o, u, rfl, hbb, hu, hc⟩ := HR1.out.at_ hjn
                          obtain rfl : u = .int .i64 l[j] := by simpa [hjn] using hu.symm
                          rw [← HBb.out.cell (p := ⟨b, o + j, none⟩) hbb] at hc
                          have hs2 := HBb.out.size
                          have hbw : b < wr.heap.size := by omega
                          obtain ⟨a1, a2⟩ := HAL.out l[j] (List.getElem_mem hjn)
                          generalize l[j] = z at *
                          have HH1 := Lib.hid (HasInt_any _ A4 _ c4 (enL y) z wr (HF8.out.kept HBb.out).ra (by have := HLe.out.1; have := HL0.out; unfold maxLen; omega))
                          have HH2 := Lib.hid (HasInt_any _ A5 _ c5 (earL y) z wr (HF8.out.kept HBb.out).rb (by have := HLe.out.2.1; have := HL0.out; unfold maxLen; omega))
                          rw [a1] at HH1
                          rw [a2] at HH2
                          clear a1 a2 hu
                          go_wp2_with fail
                          refine HH1.out.mono ?_
                          rintro e w' ⟨rfl, rfl⟩
                          go_wp2_with fail
                          refine HH2.out.mono ?_
                          rintro e w' ⟨rfl, rfl⟩
                          go_wp2_with fail
                          go_roundw
                          case rel =>
                            exact ⟨j + 1, hjn, by go_num, hbr⟩
                          case measure => simp [intOf]; omega
                      · obtain rfl : j = l.length := by omega
                        go_wp2_with fail
                        go_roundw
                        case rel => exact ⟨k + 1, by omega, by go_num, BF.out, HBb.out⟩
                        case measure => simp [intOf]; omega
              · obtain rfl : k = (islsL y).length := by omega
                rw [List.take_length] at hB
                have HZ := Lib.hid hB
                clear hB
                go_wp2_with fail
                go_meet
                case rel => exact ⟨HZ.out, hb⟩
        rename World => wc
        obtain ⟨hB, hb⟩ := hcut
        clear BF HBb cY lY
        have BF := Lib.hid hB
        have HFc := Lib.hid (HF8.out.kept hb)
        clear hB hb
        as_aux_lemma =>
          go_upto_block 10 with fail
          go_cut [] (fun wx => Below wc.heap.size wc wx)
          case first =>
            as_aux_lemma =>
              go_wp2_with fail
              go_loopw [213] (fun i W => ∃ s : Nat, s ≤ n0 ∧ i = .int .i64 s ∧ Below wc.heap.size wc W) (fun i _ => n0 - (intOf i).toNat)
              case atStart => exact ⟨0, by omega, rfl, Below.refl _ _⟩
              case round =>
                rename World => wr
                obtain ⟨s, hs, rfl, hbr⟩ := hrel
                have BF := Lib.hid (BF.out.kept hbr)
                by_cases hsn : s < n0
                · have hv := of_ge HPy.out.1 (i := (s : Int)) (mem_rng.2 ⟨by omega, by rw [HL0.out]; omega⟩)
                  have c9 := BF.out.cell
                  have l9 := BF.out.lt
                  have gz := fnV_get (F := fun s => ofAt (islsL y) 0 s) hsn
                  (try dsimp only at gz)
                  generalize ofAt (islsL y) 0 (s : Int) = v at *
                  have hv' : ¬ v < 0 := by omega
                  go_wp2_with fail
                  go_roundw
                  case rel => exact ⟨s + 1, by omega, by go_num, hbr⟩
                  case measure => simp [intOf]; omega
                · obtain rfl : s = n0 := by omega
                  go_wp2_with fail
                  go_meet
                  case rel => exact hbr
          rename World => wc2
          have hb := hcut
          clear hcut
          have HFc := Lib.hid (HFc.out.kept hb)
          have BF := Lib.hid (BF.out.kept hb)
          clear hb
          have cY := HFc.out.box.cell
          have lY := HFc.out.box.lt
          have h8 := BF.out.lt
          have hwy := HFc.out.low.size
          clear HF8
          as_aux_lemma =>
            go_wp2_with fail
            refine (HOr.out _ HFc.out.low).mono ?_
            rintro e wd ⟨D0, D1, D2, d0, d1, d2, rfl, hO, hbd⟩
            have hsd := hbd.size
            have HOC := Lib.hid (⟨hO.r0, by rw [opTo_len, opTo_zero]; exact hO.r1⟩ : OwC wc2.heap.size y (opTo y.w 0) D0 D1 d0 d1 wd)
            have HLd := Lib.hid (hbd : Below wc2.heap.size wc2 wd)
            clear hO cY lY hbd
            go_upto_region 48 with fail
            have hbe : Below wd.heap.size wd (wd.alloc (.cells #[.slice D0 y.s.length d0, .slice D1 y.w.length d1, .slice D2 y.p.length d2] 41)) := (Below.refl _ wd).alloc (Nat.le_refl _) _
            have hZ := (Blk.new wd 41 #[.slice D0 y.s.length d0, .slice D1 y.w.length d1, .slice D2 y.p.length d2])
            have hse : (wd.alloc (.cells #[.slice D0 y.s.length d0, .slice D1 y.w.length d1, .slice D2 y.p.length d2] 41)).heap.size = wd.heap.size + 1 := by simp
            generalize (wd.alloc (.cells #[.slice D0 y.s.length d0, .slice D1 y.w.length d1, .slice D2 y.p.length d2] 41)) = we at *
            have hOC := HOC.out.kept hbe
            have hLe := HLd.out.trans (hbe.mono HLd.out.size)
            have hOf := hOC.far hZ (i := 2) (by decide) (by decide) (.slice none 0 0)
            have hZf := hZ.set_ 2 (.slice none 0 0)
            have hLf := hLe.setCell (p := ⟨wd.heap.size, 2, none⟩) (show wc2.heap.size ≤ wd.heap.size from hsd) (.slice none 0 0)
            have cZ := hZ.cell
            have fZ := hZ.frozen
            have lZ := hZ.lt
            have HP := Lib.hid (And.intro hOf (And.intro hZf hLf))
            clear hOC hLe hOf hZf hLf hZ HOC HLd hbe
            go_upto_region 49 with fail
            have hsf : (we.setCell ⟨wd.heap.size, 2, none⟩ (.slice none 0 0)).heap.size = we.heap.size := by simp [World.setCell]
            generalize (we.setCell ⟨wd.heap.size, 2, none⟩ (.slice none 0 0)) = wf at *
            obtain ⟨hOC, hZ, hL⟩ := HP.out
            have HOC := Lib.hid hOC
            have HZ := Lib.hid (show Blk wf wd.heap.size 41 #[.slice D0 y.s.length d0, .slice D1 y.w.length d1, .slice none 0 0] from hZ)
            have HLf := Lib.hid hL
            clear hOC hZ hL cZ fZ lZ HP hsf hse
            have hFf := HFc.out.kept HLf.out
            have cY := hFf.box.cell
            have lY := hFf.box.lt
            clear hFf
            as_aux_lemma =>
              go_upto_block 12 with fail
              go_cut [] (fun wx => OwC wc2.heap.size y (y.w.map opX) D0 D1 d0 d1 wx ∧ Blk wx wd.heap.size 41 #[.slice D0 y.s.length d0, .slice D1 y.w.length d1, .slice none 0 0] ∧ Below wc2.heap.size wc2 wx)
              case first =>
                as_aux_lemma =>
                  go_wp2_with fail
                  go_loopw [226] (fun i W => ∃ m : Nat, m ≤ n1 ∧ i = .int .i64 m ∧ OwC wc2.heap.size y (opTo y.w m) D0 D1 d0 d1 W ∧ Blk W wd.heap.size 41 #[.slice D0 y.s.length d0, .slice D1 y.w.length d1, .slice none 0 0] ∧ Below wc2.heap.size wc2 W) (fun i _ => n1 - (intOf i).toNat)
                  case atStart => exact ⟨0, by omega, rfl, HOC.out, HZ.out, HLf.out⟩
                  case round =>
                    rename World => W1
                    clear HOC HZ HLf cY lY
                    obtain ⟨m, hm, rfl, hOC, hZ, hL⟩ := hrel
                    have hF1 := HFc.out.kept hL
                    have hs1 := hL.size
                    have HOC := Lib.hid hOC
                    have HZ := Lib.hid hZ
                    have HL := Lib.hid hL
                    have cY := hF1.box.cell
                    have lY := hF1.box.lt
                    by_cases hmn : m < n1
                    · skip
                      as_aux_lemma =>
                        have hmw : m < y.w.length := by rw [HL1.out]; exact hmn
                        obtain ⟨b5, o5, eA1, hb5, q0, q1, q2, q3, q4⟩ := (sw_at HY.out.hw).2 m hmw
                        have hs5 := hF1.low.size
                        rw [← hF1.low.cell (p := ⟨b5, o5 + m * 5, none⟩) hb5] at q0
                        rw [← hF1.low.cell (p := ⟨b5, o5 + m * 5 + 1, none⟩) hb5] at q1
                        rw [← hF1.low.cell (p := ⟨b5, o5 + m * 5 + 2, none⟩) hb5] at q2
                        rw [← hF1.low.cell (p := ⟨b5, o5 + m * 5 + 3, none⟩) hb5] at q3
                        rw [← hF1.low.cell (p := ⟨b5, o5 + m * 5 + 4, none⟩) hb5] at q4
                        have hb5w : b5 < W1.heap.size := by omega
                        have hxm : y.w[m] ∈ y.w := List.getElem_mem hmw
                        have HSA := Lib.hid (HPy.out.1.sa _ hxm)
                        have HSB := Lib.hid (HPy.out.1.sb _ hxm)
                        have HJN := Lib.hid (fun h1 h2 => of_joined HPy.out.1 hxm h1 h2)
                        have HLO := Lib.hid (fun h1 => left_of HPy.out.2 HPy.out.1 hxm h1)
                        have HXB := Lib.hid (fun (h : (y.w[m].k.toList == breakerL) = true) => opX_breaker h)
                        have HXE := Lib.hid (fun (h : (y.w[m].k.toList == earthL) = true) => opX_earth h)
                        have HXO := Lib.hid (fun (h : (y.w[m].k.toList == breakerL) = false) (h2 : (y.w[m].k.toList == earthL) = false) => opX_other h h2)
                        have HOS := Lib.hid (opTo_step hmw)
                        have HOE := Lib.hid (fun h => opTo_same hmw h)
                        generalize opX y.w[m] = ox at *
                        generalize y.w[m] = x at *
                        obtain ⟨xn, xk, xa, xb, xc⟩ := x
                        dsimp only at q0 q1 q2 q3 q4 HSA HSB HJN HLO HXB HXE HXO HOE
                        obtain ⟨z0, z1⟩ := HSA.out
                        obtain ⟨ai, rfl⟩ := Int.eq_ofNat_of_zero_le z0
                        have hai : ai < n0 := by have := HL0.out; omega
                        subst eA1
                        clear hF1 hxm hOC hZ z0 z1
                        go_upto_region 52 with fail
                        have hba : Below W1.heap.size W1 (W1.alloc (.cells #[.string xn, .string xk, .int .i64 ai, .int .i64 xb, .bool xc] 68)) := (Below.refl _ W1).alloc (Nat.le_refl _) _
                        have hBX := (Blk.new W1 68 #[.string xn, .string xk, .int .i64 ai, .int .i64 xb, .bool xc])
                        have hsa : (W1.alloc (.cells #[.string xn, .string xk, .int .i64 ai, .int .i64 xb, .bool xc] 68)).heap.size = W1.heap.size + 1 := by simp
                        generalize (W1.alloc (.cells #[.string xn, .string xk, .int .i64 ai, .int .i64 xb, .bool xc] 68)) = Wa at *
                        replace HOC := Lib.hid (HOC.out.kept hba)
                        replace HZ := Lib.hid (HZ.out.kept hba)
                        replace HL := Lib.hid (HL.out.trans (hba.mono HL.out.size))
                        have BX := Lib.hid hBX
                        clear q0 q1 q2 q3 q4 hba hBX hL cY lY
                        have cX := BX.out.cell
                        have lX := BX.out.lt
                        have hBa := BF.out.kept HL.out
                        have c15 := hBa.cell
                        have l15 := hBa.lt
                        have ga := fnV_get (F := fun s => ofAt (islsL y) 0 s) hai
                        (try dsimp only at ga)
                        clear hBa
                        as_aux_lemma =>
                          go_cut [250] (fun s wx => s = .bool false ∧ Below Wa.heap.size Wa wx)
                          case first =>
                            as_aux_lemma =>
                              cases hk1 : (xk.toList == [101, 97, 114, 116, 104]) with
                              | true =>
                                (refine wp_region_calm [] [0, 1, 2, 3, 4, 5, 6, 7, 8, 9, 10, 11, 12, 13, 14, 15, 16, 17, 18, 19] 0 (by kernel_rfl) rfl (by kernel_rfl) (by kernel_rfl) (by kernel_rfl) ?_; simp only [pickB, List.filterMap_cons, List.filterMap_nil, List.getElem?_toArray, List.getElem?_cons_zero, List.getElem?_cons_succ]; (repeat (first | ((with_reducible refine quietL_plain rfl (fun K hK => ?_)); (apply Exists.intro; refine ⟨fun wx hx => ?_, ?_⟩; (· (have hcx := ifs_ex hx); simp [go_sem, *, ↓IntWalk.iteOmega] <;> (first | rfl | exact ⟨rfl, rfl⟩ | fail)); (simp only [Act.put, List.setIfInBounds_toArray, List.set_cons_zero, List.set_cons_succ]; refine hK _ ?_; clear hK K))) | ((with_reducible refine quietL_skip (by with_unfolding_all rfl) ?_); simp only [Act.put, List.setIfInBounds_toArray, List.set_cons_zero, List.set_cons_succ]) | ((with_reducible refine quietL_want (by with_unfolding_all rfl) (fun K hK => ?_)); (apply Exists.intro; refine ⟨fun wx hx => ?_, ?_⟩; (· (have hcx := ifs_ex hx); simp [go_sem, *, ↓IntWalk.iteOmega] <;> (first | rfl | exact ⟨rfl, rfl⟩ | fail)); (simp only [Act.put, List.setIfInBounds_toArray, List.set_cons_zero, List.set_cons_succ]; refine hK _ ?_; clear hK K))))); refine quietL_nil ?_)
                                (refine anyB_end (by kernel_rfl) ?_; intro wq hbq; have hsq := hbq.size; (try simp at hsq); simp only [Calm])
                                go_wp2_with fail
                                go_meet
                                case rel => exact ⟨by first | rfl | (simp; done), hbq⟩
                              | false =>
                                cases xc with
                                | false =>
                                  (refine wp_region_calm [] [0, 1, 2, 3, 4, 5, 6, 7, 8, 9, 10, 11, 12, 13, 14, 15, 16, 17, 18, 19] 0 (by kernel_rfl) rfl (by kernel_rfl) (by kernel_rfl) (by kernel_rfl) ?_; simp only [pickB, List.filterMap_cons, List.filterMap_nil, List.getElem?_toArray, List.getElem?_cons_zero, List.getElem?_cons_succ]; (repeat (first | ((with_reducible refine quietL_plain rfl (fun K hK => ?_)); (apply Exists.intro; refine ⟨fun wx hx => ?_, ?_⟩; (· (have hcx := ifs_ex hx); simp [go_sem, *, ↓IntWalk.iteOmega] <;> (first | rfl | exact ⟨rfl, rfl⟩ | fail)); (simp only [Act.put, List.setIfInBounds_toArray, List.set_cons_zero, List.set_cons_succ]; refine hK _ ?_; clear hK K))) | ((with_reducible refine quietL_skip (by with_unfolding_all rfl) ?_); simp only [Act.put, List.setIfInBounds_toArray, List.set_cons_zero, List.set_cons_succ]) | ((with_reducible refine quietL_want (by with_unfolding_all rfl) (fun K hK => ?_)); (apply Exists.intro; refine ⟨fun wx hx => ?_, ?_⟩; (· (have hcx := ifs_ex hx); simp [go_sem, *, ↓IntWalk.iteOmega] <;> (first | rfl | exact ⟨rfl, rfl⟩ | fail)); (simp only [Act.put, List.setIfInBounds_toArray, List.set_cons_zero, List.set_cons_succ]; refine hK _ ?_; clear hK K))))); refine quietL_nil ?_)
                                  (refine anyB_end (by kernel_rfl) ?_; intro wq hbq; have hsq := hbq.size; (try simp at hsq); simp only [Calm])
                                  go_wp2_with fail
                                  go_meet
                                  case rel => exact ⟨by first | rfl | (simp; done), hbq⟩
                                | true =>
                                  have hj := HJN.out hk1 rfl
                                  obtain ⟨y0, y1⟩ := HSB.out hk1
                                  obtain ⟨bi, rfl⟩ := Int.eq_ofNat_of_zero_le y0
                                  have hbi : bi < n0 := by have := HL0.out; omega
                                  have gb := fnV_get (F := fun s => ofAt (islsL y) 0 s) hbi
                                  (try dsimp only at gb)
                                  rw [← hj] at gb
                                  clear y0 y1 hj HJN
                                  generalize ofAt (islsL y) 0 (ai : Int) = v at *
                                  (refine wp_region_calm [] [0, 1, 2, 3, 4, 5, 6, 7, 8, 9, 10, 11, 12, 13, 14, 15, 16, 17, 18, 19] 0 (by kernel_rfl) rfl (by kernel_rfl) (by kernel_rfl) (by kernel_rfl) ?_; simp only [pickB, List.filterMap_cons, List.filterMap_nil, List.getElem?_toArray, List.getElem?_cons_zero, List.getElem?_cons_succ]; (repeat (first | ((with_reducible refine quietL_plain rfl (fun K hK => ?_)); (apply Exists.intro; refine ⟨fun wx hx => ?_, ?_⟩; (· (have hcx := ifs_ex hx); simp [go_sem, *, ↓IntWalk.iteOmega] <;> (first | rfl | exact ⟨rfl, rfl⟩ | fail)); (simp only [Act.put, List.setIfInBounds_toArray, List.set_cons_zero, List.set_cons_succ]; refine hK _ ?_; clear hK K))) | ((with_reducible refine quietL_skip (by with_unfolding_all rfl) ?_); simp only [Act.put, List.setIfInBounds_toArray, List.set_cons_zero, List.set_cons_succ]) | ((with_reducible refine quietL_want (by with_unfolding_all rfl) (fun K hK => ?_)); (apply Exists.intro; refine ⟨fun wx hx => ?_, ?_⟩; (· (have hcx := ifs_ex hx); simp [go_sem, *, ↓IntWalk.iteOmega] <;> (first | rfl | exact ⟨rfl, rfl⟩ | fail)); (simp only [Act.put, List.setIfInBounds_toArray, List.set_cons_zero, List.set_cons_succ]; refine hK _ ?_; clear hK K))))); refine quietL_nil ?_)
                                  (refine anyB_end (by kernel_rfl) ?_; intro wq hbq; have hsq := hbq.size; (try simp at hsq); simp only [Calm])
                                  go_wp2_with fail
                                  go_meet
                                  case rel => exact ⟨by first | rfl | (simp; done), hbq⟩
                          rename World => Wb
                          obtain ⟨rfl, hbb⟩ := hcut
                          have hsb := hbb.size
                          replace HOC := Lib.hid (HOC.out.kept hbb)
                          replace HZ := Lib.hid (HZ.out.kept hbb)
                          replace HL := Lib.hid (HL.out.trans (hbb.mono HL.out.size))
                          replace BX := Lib.hid (BX.out.kept hbb)
                          clear cX lX c15 l15 hbb ga
                          have cX := BX.out.cell
                          have lX := BX.out.lt
                          have cZ := HZ.out.cell
                          have lZ := HZ.out.lt
                          as_aux_lemma =>
                            go_upto_if 253 with fail
                            generalize hkb : (xk.toList == [98, 114, 101, 97, 107, 101, 114]) = kb at *
                            go_cut [] (fun wx => OwC wc2.heap.size y (opMid y.w m kb) D0 D1 d0 d1 wx ∧ Blk wx wd.heap.size 41 #[.slice D0 y.s.length d0, .slice D1 y.w.length d1, .slice none 0 0] ∧ Blk wx W1.heap.size 68 #[.string xn, .string xk, .int .i64 ai, .int .i64 xb, .bool xc] ∧ Below wc2.heap.size wc2 wx)
                            case first =>
                              as_aux_lemma =>
                                cases kb with
                                | false =>
                                  go_wp2_with fail
                                  go_meet
                                  case rel => exact ⟨HOC.out, HZ.out, BX.out, HL.out⟩
                                | true =>
                                  obtain ⟨g, rfl, hg0, hg1, ⟨u, hu⟩, hfu, hcl⟩ := HOC.out.close (m := m) (by rw [opTo_len]; exact hmw)
                                  have hc := hcl true
                                  have hos := HOS.out
                                  rw [HXB.out hkb] at hos
                                  rw [hos] at hc
                                  clear hos
                                  have HN := Lib.hid hc
                                  have hdg := HOC.out.gne HZ.out (by decide)
                                  have hxg := HOC.out.gne BX.out (by decide)
                                  clear hc hcl
                                  go_wp2_with fail
                                  go_meet
                                  case rel => exact ⟨HN.out, HZ.out.far hdg _, BX.out.far hxg _, HL.out.setCell (p := ⟨g, m * 5 + 4, none⟩) hg0 _⟩
                            rename World => Wc
                            obtain ⟨hOC, hZ, hBX, hL⟩ := hcut
                            clear HOC HZ HL BX cX lX cZ lZ
                            have HOC := Lib.hid hOC
                            have HZ := Lib.hid hZ
                            have HL := Lib.hid hL
                            have BX := Lib.hid hBX
                            clear hOC hZ hL hBX
                            have cX := BX.out.cell
                            have lX := BX.out.lt
                            have cZ := HZ.out.cell
                            have lZ := HZ.out.lt
                            as_aux_lemma =>
                              go_upto_if 261 with fail
                              generalize hke : (xk.toList == [101, 97, 114, 116, 104]) = ke at *
                              go_cut [] (fun wx => OwC wc2.heap.size y (opTo y.w (m + 1)) D0 D1 d0 d1 wx ∧ Blk wx wd.heap.size 41 #[.slice D0 y.s.length d0, .slice D1 y.w.length d1, .slice none 0 0] ∧ Blk wx W1.heap.size 68 #[.string xn, .string xk, .int .i64 ai, .int .i64 xb, .bool xc] ∧ Below wc2.heap.size wc2 wx)
                              case first =>
                                as_aux_lemma =>
                                  cases ke with
                                  | false =>
                                    have hO : OwC wc2.heap.size y (opTo y.w (m + 1)) D0 D1 d0 d1 Wc := by
                                      have h := HOC.out
                                      cases kb with
                                      | true => exact h
                                      | false => rw [← HOE.out (HXO.out hkb hke)]; exact h
                                    have HN := Lib.hid hO
                                    clear hO
                                    go_wp2_with fail
                                    go_meet
                                    case rel => exact ⟨HN.out, HZ.out, BX.out, HL.out⟩
                                  | true =>
                                    obtain rfl : kb = false := by rw [← hkb, eq_of_beq hke]; rfl
                                    obtain ⟨g, rfl, hg0, hg1, ⟨u, hu⟩, hfu, hcl⟩ := HOC.out.close (m := m) (by rw [opMid_len]; exact hmw)
                                    have hc := hcl false
                                    have hos := HOS.out
                                    rw [HXE.out hke] at hos
                                    rw [show opMid y.w m false = opTo y.w m from rfl, hos] at hc
                                    clear hos
                                    have HN := Lib.hid hc
                                    have hdg := HOC.out.gne HZ.out (by decide)
                                    have hxg := HOC.out.gne BX.out (by decide)
                                    clear hc hcl
                                    go_wp2_with fail
                                    go_meet
                                    case rel => exact ⟨HN.out, HZ.out.far hdg _, BX.out.far hxg _, HL.out.setCell (p := ⟨g, m * 5 + 4, none⟩) hg0 _⟩
                              rename World => Wd
                              obtain ⟨hOC, hZ, hBX, hL⟩ := hcut
                              clear HOC HZ HL BX cX lX cZ lZ
                              have HOC := Lib.hid hOC
                              have HZ := Lib.hid hZ
                              have HL := Lib.hid hL
                              have BX := Lib.hid hBX
                              clear hOC hZ hL hBX
                              have hFd := HFc.out.kept HL.out
                              have cY := hFd.box.cell
                              have lY := hFd.box.lt
                              clear hFd
                              as_aux_lemma =>
                                go_upto_block 14 with fail
                                go_cut [32] (fun s32 wx => s32 = .bool (heldTo y (ai : Int) y.p.length) ∧ Below Wd.heap.size Wd wx)
                                case first =>
                                  as_aux_lemma =>
                                    go_wp2_with fail
                                    go_loopw [32, 270] (fun s i W => ∃ q : Nat, q ≤ n2 ∧ i = .int .i64 q ∧ s = .bool (heldTo y (ai : Int) q) ∧ Below Wd.heap.size Wd W) (fun _ i _ => n2 - (intOf i).toNat)
                                    case atStart => exact ⟨0, by omega, rfl, rfl, Below.refl _ _⟩
                                    case round =>
                                      rename World => Wp
                                      clear cY lY
                                      obtain ⟨q, hq, rfl, rfl, hbp⟩ := hrel
                                      have hsp := hbp.size
                                      have hLp := HL.out.trans (hbp.mono HL.out.size)
                                      have hFp := HFc.out.kept hLp
                                      by_cases hqn : q < n2
                                      · skip
                                        as_aux_lemma =>
                                          have hqp : q < y.p.length := by rw [HL2.out]; exact hqn
                                          obtain ⟨b6, o6, eA2, hb6, q0, q1⟩ := (pm_at HY.out.hp).2 q hqp
                                          have hs6 := hFp.low.size
                                          rw [← hFp.low.cell (p := ⟨b6, o6 + q * 2, none⟩) hb6] at q0
                                          rw [← hFp.low.cell (p := ⟨b6, o6 + q * 2 + 1, none⟩) hb6] at q1
                                          have hb6w : b6 < Wp.heap.size := by omega
                                          obtain ⟨z0, z1⟩ := HPy.out.1.ps _ (List.getElem_mem hqp)
                                          have HHS := Lib.hid (heldTo_step (a := (ai : Int)) hqp)
                                          generalize y.p[q] = x at *
                                          obtain ⟨pn, ps⟩ := x
                                          dsimp only at q0 q1 z0 z1 HHS
                                          obtain ⟨pi, rfl⟩ := Int.eq_ofNat_of_zero_le z0
                                          have hpi : pi < n0 := by have := HL0.out; omega
                                          subst eA2
                                          have cY := hFp.box.cell
                                          have lY := hFp.box.lt
                                          have BXp := Lib.hid (BX.out.kept hbp)
                                          have HLp := Lib.hid hLp
                                          have HBp := Lib.hid hbp
                                          clear hFp hLp z0 z1 hbp
                                          go_upto_region 62 with fail
                                          have hba : Below Wp.heap.size Wp (Wp.alloc (.cells #[.string pn, .int .i64 pi] 72)) := (Below.refl _ Wp).alloc (Nat.le_refl _) _
                                          have hBP := (Blk.new Wp 72 #[.string pn, .int .i64 pi])
                                          have hsa2 : (Wp.alloc (.cells #[.string pn, .int .i64 pi] 72)).heap.size = Wp.heap.size + 1 := by simp
                                          generalize (Wp.alloc (.cells #[.string pn, .int .i64 pi] 72)) = Wq at *
                                          replace BXp := Lib.hid (BXp.out.kept hba)
                                          replace HLp := Lib.hid (HLp.out.trans (hba.mono HLp.out.size))
                                          replace HBp := Lib.hid (HBp.out.trans (hba.mono HBp.out.size))
                                          have cX := BXp.out.cell
                                          have lX := BXp.out.lt
                                          have cP := hBP.cell
                                          have lP := hBP.lt
                                          have hBa := BF.out.kept HLp.out
                                          have c15 := hBa.cell
                                          have l15 := hBa.lt
                                          have ga := fnV_get (F := fun s => ofAt (islsL y) 0 s) hai
                                          have gb := fnV_get (F := fun s => ofAt (islsL y) 0 s) hpi
                                          (try dsimp only at ga gb)
                                          clear hBa hBP q0 q1 cY lY hba
                                          generalize heldTo y (ai : Int) q = h0 at *
                                          generalize ofAt (islsL y) 0 (ai : Int) = va at *
                                          generalize ofAt (islsL y) 0 (pi : Int) = vp at *
                                          cases h0
                                          · generalize hvv : (vp == va) = vv at *
                                            (refine wp_region_calm [] [0, 1, 2, 3, 4, 5, 6, 7, 8, 9, 10, 11, 12, 13] 1 (by kernel_rfl) rfl (by kernel_rfl) (by kernel_rfl) (by kernel_rfl) ?_; simp only [pickB, List.filterMap_cons, List.filterMap_nil, List.getElem?_toArray, List.getElem?_cons_zero, List.getElem?_cons_succ]; (repeat (first | ((with_reducible refine quietL_plain rfl (fun K hK => ?_)); (apply Exists.intro; refine ⟨fun wx hx => ?_, ?_⟩; (· (have hcx := ifs_ex hx); simp [go_sem, *, ↓IntWalk.iteOmega] <;> (first | rfl | exact ⟨rfl, rfl⟩ | fail)); (simp only [Act.put, List.setIfInBounds_toArray, List.set_cons_zero, List.set_cons_succ]; refine hK _ ?_; clear hK K))) | ((with_reducible refine quietL_skip (by with_unfolding_all rfl) ?_); simp only [Act.put, List.setIfInBounds_toArray, List.set_cons_zero, List.set_cons_succ]) | ((with_reducible refine quietL_want (by with_unfolding_all rfl) (fun K hK => ?_)); (apply Exists.intro; refine ⟨fun wx hx => ?_, ?_⟩; (· (have hcx := ifs_ex hx); simp [go_sem, *, ↓IntWalk.iteOmega] <;> (first | rfl | exact ⟨rfl, rfl⟩ | fail)); (simp only [Act.put, List.setIfInBounds_toArray, List.set_cons_zero, List.set_cons_succ]; refine hK _ ?_; clear hK K))))); refine quietL_nil ?_)
                                            (refine anyB_one (i := 14) (by kernel_rfl) rfl rfl ?_; intro we hbe K hK; have hse := hbe.size; (try simp at hse); go_wp2; refine ⟨xs_, ?_⟩)
                                            (refine anyB_end (by kernel_rfl) ?_; intro wf hbf; have hsf := hbf.size; (try simp at hsf); simp only [Calm])
                                            go_wp2_with fail
                                            go_roundw
                                            case rel => exact ⟨q + 1, by omega, by go_num, by rw [HHS.out]; simp, HBp.out.trans ((hbe.trans (hbf.mono hbe.size)).mono HBp.out.size)⟩
                                            case measure => simp [intOf]; omega
                                          · (refine wp_region_calm [] [0, 1, 2, 3, 4, 5, 6, 7, 8, 9, 10, 11, 12, 13] 1 (by kernel_rfl) rfl (by kernel_rfl) (by kernel_rfl) (by kernel_rfl) ?_; simp only [pickB, List.filterMap_cons, List.filterMap_nil, List.getElem?_toArray, List.getElem?_cons_zero, List.getElem?_cons_succ]; (repeat (first | ((with_reducible refine quietL_plain rfl (fun K hK => ?_)); (apply Exists.intro; refine ⟨fun wx hx => ?_, ?_⟩; (· (have hcx := ifs_ex hx); simp [go_sem, *, ↓IntWalk.iteOmega] <;> (first | rfl | exact ⟨rfl, rfl⟩ | fail)); (simp only [Act.put, List.setIfInBounds_toArray, List.set_cons_zero, List.set_cons_succ]; refine hK _ ?_; clear hK K))) | ((with_reducible refine quietL_skip (by with_unfolding_all rfl) ?_); simp only [Act.put, List.setIfInBounds_toArray, List.set_cons_zero, List.set_cons_succ]) | ((with_reducible refine quietL_want (by with_unfolding_all rfl) (fun K hK => ?_)); (apply Exists.intro; refine ⟨fun wx hx => ?_, ?_⟩; (· (have hcx := ifs_ex hx); simp [go_sem, *, ↓IntWalk.iteOmega] <;> (first | rfl | exact ⟨rfl, rfl⟩ | fail)); (simp only [Act.put, List.setIfInBounds_toArray, List.set_cons_zero, List.set_cons_succ]; refine hK _ ?_; clear hK K))))); refine quietL_nil ?_)
                                            (refine anyB_one (i := 14) (by kernel_rfl) rfl rfl ?_; intro we hbe K hK; have hse := hbe.size; (try simp at hse); go_wp2; refine ⟨xs_, ?_⟩)
                                            (refine anyB_end (by kernel_rfl) ?_; intro wf hbf; have hsf := hbf.size; (try simp at hsf); simp only [Calm])
                                            go_wp2_with fail
                                            go_roundw
                                            case rel => exact ⟨q + 1, by omega, by go_num, by rw [HHS.out]; rfl, HBp.out.trans ((hbe.trans (hbf.mono hbe.size)).mono HBp.out.size)⟩
                                            case measure => simp [intOf]; omega
                                      · obtain rfl : q = n2 := by omega
                                        have cY := hFp.box.cell
                                        have lY := hFp.box.lt
                                        clear hFp hLp
                                        go_wp2_with fail
                                        go_meet
                                        case rel => exact ⟨by rw [HL2.out], hbp⟩
                                rename World => We
                                obtain ⟨rfl, hbe⟩ := hcut
                                have hse2 := hbe.size
                                replace HOC := Lib.hid (HOC.out.kept hbe)
                                replace HZ := Lib.hid (HZ.out.kept hbe)
                                replace HL := Lib.hid (HL.out.trans (hbe.mono HL.out.size))
                                replace BX := Lib.hid (BX.out.kept hbe)
                                clear cY lY hbe
                                have cX := BX.out.cell
                                have lX := BX.out.lt
                                as_aux_lemma =>
                                  go_upto_region 64 with fail
                                  go_cut [304] (fun s wx => s = .bool false ∧ Below We.heap.size We wx)
                                  case first =>
                                    as_aux_lemma =>
                                      cases ke with
                                      | false =>
                                        (refine wp_region_calm [] [0, 1, 2, 3, 4, 5, 6, 7, 8, 9, 10, 11, 12, 13, 14, 15] 0 (by kernel_rfl) rfl (by kernel_rfl) (by kernel_rfl) (by kernel_rfl) ?_; simp only [pickB, List.filterMap_cons, List.filterMap_nil, List.getElem?_toArray, List.getElem?_cons_zero, List.getElem?_cons_succ]; (repeat (first | ((with_reducible refine quietL_plain rfl (fun K hK => ?_)); (apply Exists.intro; refine ⟨fun wx hx => ?_, ?_⟩; (· (have hcx := ifs_ex hx); simp [go_sem, *, ↓IntWalk.iteOmega] <;> (first | rfl | exact ⟨rfl, rfl⟩ | fail)); (simp only [Act.put, List.setIfInBounds_toArray, List.set_cons_zero, List.set_cons_succ]; refine hK _ ?_; clear hK K))) | ((with_reducible refine quietL_skip (by with_unfolding_all rfl) ?_); simp only [Act.put, List.setIfInBounds_toArray, List.set_cons_zero, List.set_cons_succ]) | ((with_reducible refine quietL_want (by with_unfolding_all rfl) (fun K hK => ?_)); (apply Exists.intro; refine ⟨fun wx hx => ?_, ?_⟩; (· (have hcx := ifs_ex hx); simp [go_sem, *, ↓IntWalk.iteOmega] <;> (first | rfl | exact ⟨rfl, rfl⟩ | fail)); (simp only [Act.put, List.setIfInBounds_toArray, List.set_cons_zero, List.set_cons_succ]; refine hK _ ?_; clear hK K))))); refine quietL_nil ?_)
                                        (refine anyB_end (by kernel_rfl) ?_; intro wq hbq; have hsq := hbq.size; (try simp at hsq); simp only [Calm])
                                        go_wp2_with fail
                                        go_meet
                                        case rel => exact ⟨by first | rfl | (simp; done), hbq⟩
                                      | true =>
                                        have hlo := HLO.out hke
                                        rw [← heldTo_end] at hlo
                                        have HW := Lib.hid (fun W (hW : Below We.heap.size We W) => HasWord_any _ A8 _ c8 (leftL y) xn W (((HFc.out.kept HL.out).kept hW).rl) (by have := HLe.out.2.2.2.2.2; have := HL1.out; unfold maxLen; omega))
                                        rw [hlo] at HW
                                        generalize heldTo y (ai : Int) y.p.length = hh at *
                                        clear hlo HLO
                                        (refine wp_region_calm [] [0, 1, 2, 3, 4, 5, 6, 8, 9] 7 (by kernel_rfl) rfl (by kernel_rfl) (by kernel_rfl) (by kernel_rfl) ?_; simp only [pickB, List.filterMap_cons, List.filterMap_nil, List.getElem?_toArray, List.getElem?_cons_zero, List.getElem?_cons_succ]; (repeat (first | ((with_reducible refine quietL_plain rfl (fun K hK => ?_)); (apply Exists.intro; refine ⟨fun wx hx => ?_, ?_⟩; (· (have hcx := ifs_ex hx); simp [go_sem, *, ↓IntWalk.iteOmega] <;> (first | rfl | exact ⟨rfl, rfl⟩ | fail)); (simp only [Act.put, List.setIfInBounds_toArray, List.set_cons_zero, List.set_cons_succ]; refine hK _ ?_; clear hK K))) | ((with_reducible refine quietL_skip (by with_unfolding_all rfl) ?_); simp only [Act.put, List.setIfInBounds_toArray, List.set_cons_zero, List.set_cons_succ]) | ((with_reducible refine quietL_want (by with_unfolding_all rfl) (fun K hK => ?_)); (apply Exists.intro; refine ⟨fun wx hx => ?_, ?_⟩; (· (have hcx := ifs_ex hx); simp [go_sem, *, ↓IntWalk.iteOmega] <;> (first | rfl | exact ⟨rfl, rfl⟩ | fail)); (simp only [Act.put, List.setIfInBounds_toArray, List.set_cons_zero, List.set_cons_succ]; refine hK _ ?_; clear hK K))))); refine quietL_nil ?_)
                                        (refine anyB_one_want (i := 7) (by kernel_rfl) rfl (by kernel_rfl) ?_; intro wa hba K hK; have hsa := hba.size; (try simp at hsa); go_wp2_with fail)
                                        refine (HW.out _ hba).mono ?_
                                        rintro e w' ⟨rfl, rfl⟩
                                        (go_wp2; refine ⟨xs_, ?_⟩)
                                        cases xc <;> cases hh
                                        all_goals
                                          (refine anyB_quiet_at (by kernel_rfl) calm_panic xs_ 0 [10, 11, 12, 13, 14, 15] _ _ (by kernel_rfl) (by decide +kernel) ?_; simp only [pickB, List.filterMap_cons, List.filterMap_nil, List.getElem?_toArray, List.getElem?_cons_zero, List.getElem?_cons_succ]; (repeat (first | ((with_reducible refine quietL_plain rfl (fun K hK => ?_)); (apply Exists.intro; refine ⟨fun wx hx => ?_, ?_⟩; (· (have hcx := ifs_ex hx); simp [go_sem, *, ↓IntWalk.iteOmega] <;> (first | rfl | exact ⟨rfl, rfl⟩ | fail)); (simp only [Act.put, List.setIfInBounds_toArray, List.set_cons_zero, List.set_cons_succ]; refine hK _ ?_; clear hK K))) | ((with_reducible refine quietL_skip (by with_unfolding_all rfl) ?_); simp only [Act.put, List.setIfInBounds_toArray, List.set_cons_zero, List.set_cons_succ]) | ((with_reducible refine quietL_want (by with_unfolding_all rfl) (fun K hK => ?_)); (apply Exists.intro; refine ⟨fun wx hx => ?_, ?_⟩; (· (have hcx := ifs_ex hx); simp [go_sem, *, ↓IntWalk.iteOmega] <;> (first | rfl | exact ⟨rfl, rfl⟩ | fail)); (simp only [Act.put, List.setIfInBounds_toArray, List.set_cons_zero, List.set_cons_succ]; refine hK _ ?_; clear hK K))))); refine quietL_nil ?_)
                                          (refine anyB_end (by kernel_rfl) ?_; intro wq hbq; have hsq := hbq.size; (try simp at hsq); simp only [Calm])
                                          go_wp2_with fail
                                          go_meet
                                          case rel => exact ⟨by first | rfl | (simp; done), hba.trans (hbq.mono hba.size)⟩
                                  rename World => Wf
                                  obtain ⟨rfl, hbf⟩ := hcut
                                  have hsf2 := hbf.size
                                  have HN := Lib.hid (And.intro (HOC.out.kept hbf) (And.intro (HZ.out.kept hbf) (HL.out.trans (hbf.mono HL.out.size))))
                                  as_aux_lemma =>
                                    go_wp2_with fail
                                    go_roundw
                                    case rel => exact ⟨m + 1, by omega, by go_num, HN.out.1, HN.out.2.1, HN.out.2.2⟩
                                    case measure => simp [intOf]; omega
                    · obtain rfl : m = n1 := by omega
                      have hO := HOC.out
                      rw [← HL1.out, opTo_all] at hO
                      have HN := Lib.hid hO
                      clear hF1 hOC hO
                      go_wp2_with fail
                      go_meet
                      case rel => exact ⟨HN.out, HZ.out, HL.out⟩
              rename World => wx
              obtain ⟨hOC, hZ, hL⟩ := hcut
              clear HOC HZ HLf cY lY
              have HLx := Lib.hid (HFc.out.kept hL)
              have cZ := hZ.cell
              have lZ := hZ.lt
              have hr1 := row_rd hOC.r1
              rw [List.length_map] at hr1
              have HYo := Lib.hid (⟨row_rd hOC.r0, hr1, Reads.nil_⟩ : YdAt wx wx.heap.size D0 D1 none y.s.length y.w.length 0 (opened y))
              clear hOC hZ hL hr1
              as_aux_lemma =>
                go_wp2_with fail
                refine (HEo.out _ _ _ _ _ HYo.out HLx.out.low).mono ?_
                rintro e wz ⟨A9, c9', rfl, hr9, hb9⟩
                have hs9 := hb9.size
                have HR9 := Lib.hid hr9
                have HFz := Lib.hid (HLx.out.kept hb9)
                have cY := HFz.out.box.cell
                have lY := HFz.out.box.lt
                clear hr9 cZ lZ HYo
                go_wp2_with fail
                go_loopw [316] (fun i W => ∃ s : Nat, s ≤ n0 ∧ i = .int .i64 s ∧ Below wz.heap.size wz W) (fun i _ => n0 - (intOf i).toNat)
                case atStart => exact ⟨0, by omega, rfl, Below.refl _ _⟩
                case round =>
                  rename World => wr
                  clear cY lY
                  obtain ⟨s, hs, rfl, hbr⟩ := hrel
                  have hFr := HFz.out.kept hbr
                  have hsr := hbr.size
                  by_cases hsn : s < n0
                  · skip
                    as_aux_lemma =>
                      have hlast := last_ok HPy.out.1 (i := (s : Int)) (mem_rng.2 ⟨by omega, by rw [HL0.out]; omega⟩)
                      have hL := HLe.out
                      have hL0 := HL0.out
                      have HA := Lib.hid (HasInt_any _ A4 _ c4 (enL y) s wr hFr.ra (by unfold maxLen; omega))
                      have HB := Lib.hid (HasInt_any _ A5 _ c5 (earL y) s wr hFr.rb (by unfold maxLen; omega))
                      have HC := Lib.hid (HasInt_any _ A6 _ c6 (sepL y) s wr hFr.rc (by have := hL.2.2.1; unfold maxLen; unfold sepL; omega))
                      have HD := Lib.hid (HasInt_any _ A7 _ c7 (secL y) s wr hFr.rd (by have := hL.2.2.2.1; unfold maxLen; unfold secL; omega))
                      have HE := Lib.hid (HasInt_any _ A9 _ c9' (enL (opened y)) s wr (rd_kept HR9.out hbr) (by have h1 := hL.2.2.2.2.1; have h2 : (opened y).s.length = y.s.length := rfl; unfold maxLen; omega))
                      obtain ⟨k1, k2, k3⟩ := hlast
                      rw [k1] at HE
                      rw [k2] at HD k3
                      generalize hasI (sepL y) (s : Int) = p at *
                      generalize hasI (earL y) (s : Int) = q at *
                      generalize hasI (enL y) (s : Int) = a at *
                      clear k1 k2 hFr hL hL0
                      cases p <;> cases q
                      · go_wp2_with fail
                        refine HC.out.mono ?_
                        rintro e w' ⟨rfl, rfl⟩
                        go_wp2_with fail
                        refine HE.out.mono ?_
                        rintro e w' ⟨rfl, rfl⟩
                        go_wp2_with fail
                        refine HD.out.mono ?_
                        rintro e w' ⟨rfl, rfl⟩
                        go_wp2_with fail
                        refine HC.out.mono ?_
                        rintro e w' ⟨rfl, rfl⟩
                        go_wp2_with fail
                        refine HD.out.mono ?_
                        rintro e w' ⟨rfl, rfl⟩
                        go_wp2_with fail
                        go_roundw
                        case rel => exact ⟨s + 1, by omega, by go_num, hbr⟩
                        case measure => simp [intOf]; omega
                      · go_wp2_with fail
                        refine HC.out.mono ?_
                        rintro e w' ⟨rfl, rfl⟩
                        go_wp2_with fail
                        refine HE.out.mono ?_
                        rintro e w' ⟨rfl, rfl⟩
                        go_wp2_with fail
                        refine HD.out.mono ?_
                        rintro e w' ⟨rfl, rfl⟩
                        go_wp2_with fail
                        refine HC.out.mono ?_
                        rintro e w' ⟨rfl, rfl⟩
                        go_wp2_with fail
                        refine HD.out.mono ?_
                        rintro e w' ⟨rfl, rfl⟩
                        go_wp2_with fail
                        go_roundw
                        case rel => exact ⟨s + 1, by omega, by go_num, hbr⟩
                        case measure => simp [intOf]; omega
                      · go_wp2_with fail
                        refine HC.out.mono ?_
                        rintro e w' ⟨rfl, rfl⟩
                        go_wp2_with fail
                        refine HE.out.mono ?_
                        rintro e w' ⟨rfl, rfl⟩
                        go_wp2_with fail
                        refine HD.out.mono ?_
                        rintro e w' ⟨rfl, rfl⟩
                        go_wp2_with fail
                        refine HC.out.mono ?_
                        rintro e w' ⟨rfl, rfl⟩
                        go_wp2_with fail
                        refine HB.out.mono ?_
                        rintro e w' ⟨rfl, rfl⟩
                        go_wp2_with fail
                        refine HD.out.mono ?_
                        rintro e w' ⟨rfl, rfl⟩
                        go_wp2_with fail
                        go_roundw
                        case rel => exact ⟨s + 1, by omega, by go_num, hbr⟩
                        case measure => simp [intOf]; omega
                      · obtain rfl : a = false := by simpa using k3
                        go_wp2_with fail
                        refine HC.out.mono ?_
                        rintro e w' ⟨rfl, rfl⟩
                        go_wp2_with fail
                        refine HE.out.mono ?_
                        rintro e w' ⟨rfl, rfl⟩
                        go_wp2_with fail
                        refine HD.out.mono ?_
                        rintro e w' ⟨rfl, rfl⟩
                        go_wp2_with fail
                        refine HC.out.mono ?_
                        rintro e w' ⟨rfl, rfl⟩
                        go_wp2_with fail
                        refine HB.out.mono ?_
                        rintro e w' ⟨rfl, rfl⟩
                        go_wp2_with fail
                        refine HD.out.mono ?_
                        rintro e w' ⟨rfl, rfl⟩
                        go_wp2_with fail
                        refine HA.out.mono ?_
                        rintro e w' ⟨rfl, rfl⟩
                        go_wp2_with fail
                        go_roundw
                        case rel => exact ⟨s + 1, by omega, by go_num, hbr⟩
                        case measure => simp [intOf]; omega
                  · obtain rfl : s = n0 := by omega
                    have hlow := hFr.low
                    clear hFr
                    go_wp2_with fail
                    go_ret
                    exact ⟨by first | rfl | (simp; done), hlow⟩
end Go.Proofs.YtphlojgmfkgeiaaGreatDoor
