/- The law PermitYards. -/
import Derived.Test.YtphlojgmfkgeiaaGreatDoorKn
import Derived.Test.YtphlojgmfkgeiaaGreatDoorKo
import Derived.Test.YtphlojgmfkgeiaaGreatDoorKp
namespace Go.Proofs.YtphlojgmfkgeiaaGreatDoor
open Go.RowKit Go.Sort Go.Shelf
set_option linter.unusedSimpArgs false
set_option linter.unusedVariables false
attribute [local go_sem] cell_if frozen_if grow_cell
/-- A row of lists that reads as these. -/
def IlS (W : World) (A : Option Addr) (vs : List Value) (zss : List (List Int)) : Prop := Reads W W.heap.size 1 A zss.length vs ∧ ∀ (j : Nat) (v : Value) (zs : List Int), vs[j]? = some v → zss[j]? = some zs → ∃ A' c', v = .slice A' zs.length c' ∧ Reads W W.heap.size 1 A' zs.length (zs.map (.int .i64))
theorem il_kept {W W' : World} {A : Option Addr} {vs : List Value} {zss : List (List Int)} (h : IlS W A vs zss) (hb : Below W.heap.size W W') : IlS W' A vs zss :=
  ⟨rd_kept h.1 hb, fun j v zs hv hz => let ⟨A', c', e, r⟩ := h.2 j v zs hv hz; ⟨A', c', e, rd_kept r hb⟩⟩
theorem il_at {W : World} {A : Option Addr} {vs : List Value} {zss : List (List Int)} (h : IlS W A vs zss) (j : Nat) (hj : j < zss.length) : ∃ b o A' c', A = some ⟨b, o, none⟩ ∧ b < W.heap.size ∧ W.cell? ⟨b, o + j, none⟩ = some (.slice A' zss[j].length c') ∧ Reads W W.heap.size 1 A' zss[j].length (zss[j].map (.int .i64)) := by
  obtain ⟨b, o, u, e, hb, hu, hc⟩ := h.1.at_ hj
  obtain ⟨A', c', rfl, r⟩ := h.2 j u _ hu (List.getElem?_eq_getElem hj)
  exact ⟨b, o, A', c', e, hb, hc, r⟩
theorem resI_no {e : Int} (h : e ≠ 0) (l : List Int) : resI e l = [] := if_neg h
theorem resI_ok (l : List Int) : resI 0 l = l := if_pos rfl
theorem resW_no {e : Int} (h : e ≠ 0) (l : List ByteArray) : resW e l = [] := if_neg h
theorem resW_ok (l : List ByteArray) : resW 0 l = l := if_pos rfl
theorem islsL_len (y : Yd) : (islsL y).length ≤ y.s.length := islsTo_len y y.s.length
theorem islsL_els {y : Yd} (hP : Parts y) (l : List Int) (h : l ∈ islsL y) : l.length ≤ 8 := by
  unfold islsL at h
  obtain ⟨i, hi, rfl⟩ := List.mem_map.1 h
  exact Nat.le_trans (isl_len (all := false) hP.ends (List.mem_filter.1 hi).1) hP.n8
theorem leftL_len (y : Yd) : (leftL y).length ≤ y.w.length := by rw [← leftTo_all]; exact leftTo_len y _
theorem those_le (n : Nat) (p : Int → Bool) : (those n p).length ≤ n := those_len n p
set_option maxRecDepth 1000000 in
set_option maxHeartbeats 8000000 in
theorem yards_any (A0 A1 A2 : Option Addr) (n0 n1 n2 c0 c1 c2 : Nat) (y : Yd) (w : World) (hY : YdAt w w.heap.size A0 A1 A2 n0 n1 n2 y) (h0 : n0 ≤ maxLen) (h1 : n1 ≤ maxLen) (h2 : n2 ≤ maxLen) (hW : Wide y) (hT : Tabs w) :
    Calls Tryz.prog 4 #[.agg #[.slice A0 n0 c0, .slice A1 n1 c1, .slice A2 n2 c2]] w fun e w' => e = .returned (.bool true) ∧ Below w.heap.size w w' := by
  have HY := Lib.hid hY
  have HT := Lib.hid (fun W (hW : Below w.heap.size w W) => hT.kept hW)
  have HAw := Lib.hid (fun W (hW : Below w.heap.size w W) => awake_any W (hT.kept hW))
  have HSh := Lib.hid (fun W (hW : Below w.heap.size w W) => Short_any w.heap.size A0 A1 A2 n0 n1 n2 c0 c1 c2 y W (hY.below hW) hW.size h0 h1 h2)
  have hl0 := (sec_at hY.hs).1
  have hl1 := (sw_at hY.hw).1
  have hl2 := (pm_at hY.hp).1
  have HL0 := Lib.hid hl0
  have HL1 := Lib.hid hl1
  have HL2 := Lib.hid hl2
  have HF := Lib.hid (fun h => hW.fits (y := y) h)
  clear hY hT h0 h1 h2 hW hl0 hl1 hl2
  cases hS : shortY y with
  | false =>
    rw [hS] at HSh
    clear hS
    go_enter Tryz.func4, Tryz.ntmps4
    go_wp2_with fail
    refine (HAw.out _ bl_).mono ?_
    (rintro e w1 ⟨rfl, hb1⟩; have hs1 := hb1.size; (try simp at hs1))
    obtain ⟨hc1, hf1⟩ := ifs_of hb1; have hs1 := hb1.size; (try simp at hs1)
    go_wp2_with fail
    refine (HSh.out _ bl_).mono ?_
    (rintro e w2 ⟨rfl, hb2⟩; have hs2 := hb2.size; (try simp at hs2))
    obtain ⟨hc2, hf2⟩ := ifs_of hb2; have hs2 := hb2.size; (try simp at hs2)
    go_wp2_with fail
    refine (HAw.out _ bl_).mono ?_
    (rintro e w3 ⟨rfl, hb3⟩; have hs3 := hb3.size; (try simp at hs3))
    go_wp2_with fail
    go_ret
    exact ⟨rfl, bl_⟩
  | true =>
    rw [hS] at HSh
    have hF := HF.out hS
    have f0 := hF.s9
    have f1 := hF.w9
    have f2 := hF.p9
    have g0 : n0 ≤ 9 := HL0.out ▸ f0
    have g1 : n1 ≤ 9 := HL1.out ▸ f1
    have g2 : n2 ≤ 9 := HL2.out ▸ f2
    have HFt := Lib.hid hF
    have HO := Lib.hid (fun W (hW : Below w.heap.size w W) => (own_any w.heap.size A0 A1 A2 n0 n1 n2 c0 c1 c2 y W (HY.out.below hW) hW.size (by omega) (by omega) (by omega)).mono fun _ _ h => h.sh)
    have HCk := Lib.hid (fun W (hW : Below w.heap.size w W) => rCheckYard_any w.heap.size A0 A1 A2 n0 n1 n2 c0 c1 c2 y W (HY.out.below hW) hW.size hF)
    have HI := Lib.hid (fun W D0 D1 D2 d0 d1 d2 (hy : YdAt W W.heap.size D0 D1 D2 y.s.length y.w.length y.p.length y) (hW : Below w.heap.size w W) => Islands_any W.heap.size D0 D1 D2 y.s.length y.w.length y.p.length d0 d1 d2 y W hy (Nat.le_refl _) (HT.out W hW) hF)
    have HEn := Lib.hid (fun W D0 D1 D2 d0 d1 d2 (hy : YdAt W W.heap.size D0 D1 D2 y.s.length y.w.length y.p.length y) (hW : Below w.heap.size w W) => Energized_any W.heap.size D0 D1 D2 y.s.length y.w.length y.p.length d0 d1 d2 y W hy (Nat.le_refl _) (HT.out W hW) hF)
    have HEa := Lib.hid (fun W D0 D1 D2 d0 d1 d2 (hy : YdAt W W.heap.size D0 D1 D2 y.s.length y.w.length y.p.length y) (hW : Below w.heap.size w W) => Earthed_any W.heap.size D0 D1 D2 y.s.length y.w.length y.p.length d0 d1 d2 y W hy (Nat.le_refl _) (HT.out W hW) hF)
    have HSp := Lib.hid (fun W D0 D1 D2 d0 d1 d2 (hy : YdAt W W.heap.size D0 D1 D2 y.s.length y.w.length y.p.length y) (hW : Below w.heap.size w W) => Separated_any W.heap.size D0 D1 D2 y.s.length y.w.length y.p.length d0 d1 d2 y W hy (Nat.le_refl _) (HT.out W hW) hF)
    have HSc := Lib.hid (fun W D0 D1 D2 d0 d1 d2 (hy : YdAt W W.heap.size D0 D1 D2 y.s.length y.w.length y.p.length y) (hW : Below w.heap.size w W) => Secured_any W.heap.size D0 D1 D2 y.s.length y.w.length y.p.length d0 d1 d2 y W hy (Nat.le_refl _) (HT.out W hW) hF)
    have HLf := Lib.hid (fun W D0 D1 D2 d0 d1 d2 (hy : YdAt W W.heap.size D0 D1 D2 y.s.length y.w.length y.p.length y) (hW : Below w.heap.size w W) => Left_any W.heap.size D0 D1 D2 y.s.length y.w.length y.p.length d0 d1 d2 y W hy (Nat.le_refl _) (HT.out W hW) hF)
    have HCy := Lib.hid (fun W D0 D1 D2 d0 d1 d2 (hy : YdAt W W.heap.size D0 D1 D2 y.s.length y.w.length y.p.length y) (hW : Below w.heap.size w W) => CheckYard_any W.heap.size D0 D1 D2 y.s.length y.w.length y.p.length d0 d1 d2 y W hy (Nat.le_refl _) (HT.out W hW) hF)
    have HOk := Lib.hid (fun h => (yard_ok (y := y) h).1)
    clear hS hF HFt HF
    cases he : (yardE y == 0) with
    | false =>
      have hne : yardE y ≠ 0 := by simpa using he
      simp only [resI_no hne, resW_no hne, if_neg hne] at HI HEn HEa HSp HSc HLf
      clear HOk he
      generalize yardE y = ee at *
      have HNE := Lib.hid hne
      go_enter Tryz.func4, Tryz.ntmps4
      go_wp2_with fail
      refine (HAw.out _ bl_).mono ?_
      (rintro e w1 ⟨rfl, hb1⟩; have hs1 := hb1.size; (try simp at hs1))
      obtain ⟨hc1, hf1⟩ := ifs_of hb1; have hs1 := hb1.size; (try simp at hs1)
      go_wp2_with fail
      refine (HSh.out _ bl_).mono ?_
      (rintro e w2 ⟨rfl, hb2⟩; have hs2 := hb2.size; (try simp at hs2))
      have HB2 := Lib.hid (bl_ : Below w.heap.size w w2)
      have BY := Lib.hid (bk_ : Blk w2 w.heap.size 26 #[.slice A0 n0 c0, .slice A1 n1 c1, .slice A2 n2 c2])
      have cY := BY.out.cell
      have lY := BY.out.lt
      clear hc1 hf1 hb1 hb2 hne
      go_wp2_with fail
      refine (HO.out _ HB2.out).mono ?_
      rintro e wa3 ⟨D0, D1, D2, d0, d1, d2, rfl, hyd, hba⟩
      have hsa3 := hba.size
      (try simp at hsa3)
      have HBa3 := Lib.hid (HB2.out.trans (hba.mono HB2.out.size))
      have HYD3 := Lib.hid hyd
      have HA3 := Lib.hid hba
      clear hyd hba
      go_wp2_with fail
      refine (HI.out _ _ _ _ _ _ _ HYD3.out HBa3.out).mono ?_
      rintro e w3 ⟨A3, c3, vs, rfl, hr3, _, hb3⟩
      have hs3 := hb3.size
      (try simp at hs3)
      have HB3 := Lib.hid (HBa3.out.trans (hb3.mono HBa3.out.size))
      have HK3 := Lib.hid (HA3.out.trans (hb3.mono HA3.out.size))
      clear hb3 HYD3 HA3 HBa3
      replace BY := Lib.hid (BY.out.kept HK3.out)
      have cY := BY.out.cell
      have lY := BY.out.lt
      (try replace HR0 := Lib.hid (il_kept HR0.out HK3.out))
      (try replace HR1 := Lib.hid (rd_kept HR1.out HK3.out))
      (try replace HR2 := Lib.hid (rd_kept HR2.out HK3.out))
      (try replace HR3 := Lib.hid (rd_kept HR3.out HK3.out))
      (try replace HR4 := Lib.hid (rd_kept HR4.out HK3.out))
      (try replace HR5 := Lib.hid (rd_kept HR5.out HK3.out))
      (try replace HR6 := Lib.hid (il_kept HR6.out HK3.out))
      (try replace HR7 := Lib.hid (rd_kept HR7.out HK3.out))
      (try replace HQ1 := Lib.hid (rd_kept HQ1.out HK3.out))
      (try replace HQ2 := Lib.hid (rd_kept HQ2.out HK3.out))
      (try replace HQ3 := Lib.hid (rd_kept HQ3.out HK3.out))
      (try replace HQ4 := Lib.hid (rd_kept HQ4.out HK3.out))
      go_wp2_with fail
      refine (HO.out _ HB3.out).mono ?_
      rintro e wa4 ⟨D0, D1, D2, d0, d1, d2, rfl, hyd, hba⟩
      have hsa4 := hba.size
      (try simp at hsa4)
      have HBa4 := Lib.hid (HB3.out.trans (hba.mono HB3.out.size))
      have HYD4 := Lib.hid hyd
      have HA4 := Lib.hid hba
      clear hyd hba
      go_wp2_with fail
      refine (HEn.out _ _ _ _ _ _ _ HYD4.out HBa4.out).mono ?_
      rintro e w4 ⟨A4, c4, rfl, hr4, hb4⟩
      have hs4 := hb4.size
      (try simp at hs4)
      have HB4 := Lib.hid (HBa4.out.trans (hb4.mono HBa4.out.size))
      have HK4 := Lib.hid (HA4.out.trans (hb4.mono HA4.out.size))
      clear hb4 HYD4 HA4 HBa4
      replace BY := Lib.hid (BY.out.kept HK4.out)
      have cY := BY.out.cell
      have lY := BY.out.lt
      (try replace HR0 := Lib.hid (il_kept HR0.out HK4.out))
      (try replace HR1 := Lib.hid (rd_kept HR1.out HK4.out))
      (try replace HR2 := Lib.hid (rd_kept HR2.out HK4.out))
      (try replace HR3 := Lib.hid (rd_kept HR3.out HK4.out))
      (try replace HR4 := Lib.hid (rd_kept HR4.out HK4.out))
      (try replace HR5 := Lib.hid (rd_kept HR5.out HK4.out))
      (try replace HR6 := Lib.hid (il_kept HR6.out HK4.out))
      (try replace HR7 := Lib.hid (rd_kept HR7.out HK4.out))
      (try replace HQ1 := Lib.hid (rd_kept HQ1.out HK4.out))
      (try replace HQ2 := Lib.hid (rd_kept HQ2.out HK4.out))
      (try replace HQ3 := Lib.hid (rd_kept HQ3.out HK4.out))
      (try replace HQ4 := Lib.hid (rd_kept HQ4.out HK4.out))
      go_wp2_with fail
      refine (HO.out _ HB4.out).mono ?_
      rintro e wa5 ⟨D0, D1, D2, d0, d1, d2, rfl, hyd, hba⟩
      have hsa5 := hba.size
      (try simp at hsa5)
      have HBa5 := Lib.hid (HB4.out.trans (hba.mono HB4.out.size))
      have HYD5 := Lib.hid hyd
      have HA5 := Lib.hid hba
      clear hyd hba
      go_wp2_with fail
      refine (HEa.out _ _ _ _ _ _ _ HYD5.out HBa5.out).mono ?_
      rintro e w5 ⟨A5, c5, rfl, hr5, hb5⟩
      have hs5 := hb5.size
      (try simp at hs5)
      have HB5 := Lib.hid (HBa5.out.trans (hb5.mono HBa5.out.size))
      have HK5 := Lib.hid (HA5.out.trans (hb5.mono HA5.out.size))
      clear hb5 HYD5 HA5 HBa5
      replace BY := Lib.hid (BY.out.kept HK5.out)
      have cY := BY.out.cell
      have lY := BY.out.lt
      (try replace HR0 := Lib.hid (il_kept HR0.out HK5.out))
      (try replace HR1 := Lib.hid (rd_kept HR1.out HK5.out))
      (try replace HR2 := Lib.hid (rd_kept HR2.out HK5.out))
      (try replace HR3 := Lib.hid (rd_kept HR3.out HK5.out))
      (try replace HR4 := Lib.hid (rd_kept HR4.out HK5.out))
      (try replace HR5 := Lib.hid (rd_kept HR5.out HK5.out))
      (try replace HR6 := Lib.hid (il_kept HR6.out HK5.out))
      (try replace HR7 := Lib.hid (rd_kept HR7.out HK5.out))
      (try replace HQ1 := Lib.hid (rd_kept HQ1.out HK5.out))
      (try replace HQ2 := Lib.hid (rd_kept HQ2.out HK5.out))
      (try replace HQ3 := Lib.hid (rd_kept HQ3.out HK5.out))
      (try replace HQ4 := Lib.hid (rd_kept HQ4.out HK5.out))
      go_wp2_with fail
      refine (HO.out _ HB5.out).mono ?_
      rintro e wa6 ⟨D0, D1, D2, d0, d1, d2, rfl, hyd, hba⟩
      have hsa6 := hba.size
      (try simp at hsa6)
      have HBa6 := Lib.hid (HB5.out.trans (hba.mono HB5.out.size))
      have HYD6 := Lib.hid hyd
      have HA6 := Lib.hid hba
      clear hyd hba
      go_wp2_with fail
      refine (HSp.out _ _ _ _ _ _ _ HYD6.out HBa6.out).mono ?_
      rintro e w6 ⟨A6, c6, rfl, hr6, hb6⟩
      have hs6 := hb6.size
      (try simp at hs6)
      have HB6 := Lib.hid (HBa6.out.trans (hb6.mono HBa6.out.size))
      have HK6 := Lib.hid (HA6.out.trans (hb6.mono HA6.out.size))
      clear hb6 HYD6 HA6 HBa6
      replace BY := Lib.hid (BY.out.kept HK6.out)
      have cY := BY.out.cell
      have lY := BY.out.lt
      (try replace HR0 := Lib.hid (il_kept HR0.out HK6.out))
      (try replace HR1 := Lib.hid (rd_kept HR1.out HK6.out))
      (try replace HR2 := Lib.hid (rd_kept HR2.out HK6.out))
      (try replace HR3 := Lib.hid (rd_kept HR3.out HK6.out))
      (try replace HR4 := Lib.hid (rd_kept HR4.out HK6.out))
      (try replace HR5 := Lib.hid (rd_kept HR5.out HK6.out))
      (try replace HR6 := Lib.hid (il_kept HR6.out HK6.out))
      (try replace HR7 := Lib.hid (rd_kept HR7.out HK6.out))
      (try replace HQ1 := Lib.hid (rd_kept HQ1.out HK6.out))
      (try replace HQ2 := Lib.hid (rd_kept HQ2.out HK6.out))
      (try replace HQ3 := Lib.hid (rd_kept HQ3.out HK6.out))
      (try replace HQ4 := Lib.hid (rd_kept HQ4.out HK6.out))
      go_wp2_with fail
      refine (HO.out _ HB6.out).mono ?_
      rintro e wa7 ⟨D0, D1, D2, d0, d1, d2, rfl, hyd, hba⟩
      have hsa7 := hba.size
      (try simp at hsa7)
      have HBa7 := Lib.hid (HB6.out.trans (hba.mono HB6.out.size))
      have HYD7 := Lib.hid hyd
      have HA7 := Lib.hid hba
      clear hyd hba
      go_wp2_with fail
      refine (HSc.out _ _ _ _ _ _ _ HYD7.out HBa7.out).mono ?_
      rintro e w7 ⟨A7, c7, rfl, hr7, hb7⟩
      have hs7 := hb7.size
      (try simp at hs7)
      have HB7 := Lib.hid (HBa7.out.trans (hb7.mono HBa7.out.size))
      have HK7 := Lib.hid (HA7.out.trans (hb7.mono HA7.out.size))
      clear hb7 HYD7 HA7 HBa7
      replace BY := Lib.hid (BY.out.kept HK7.out)
      have cY := BY.out.cell
      have lY := BY.out.lt
      (try replace HR0 := Lib.hid (il_kept HR0.out HK7.out))
      (try replace HR1 := Lib.hid (rd_kept HR1.out HK7.out))
      (try replace HR2 := Lib.hid (rd_kept HR2.out HK7.out))
      (try replace HR3 := Lib.hid (rd_kept HR3.out HK7.out))
      (try replace HR4 := Lib.hid (rd_kept HR4.out HK7.out))
      (try replace HR5 := Lib.hid (rd_kept HR5.out HK7.out))
      (try replace HR6 := Lib.hid (il_kept HR6.out HK7.out))
      (try replace HR7 := Lib.hid (rd_kept HR7.out HK7.out))
      (try replace HQ1 := Lib.hid (rd_kept HQ1.out HK7.out))
      (try replace HQ2 := Lib.hid (rd_kept HQ2.out HK7.out))
      (try replace HQ3 := Lib.hid (rd_kept HQ3.out HK7.out))
      (try replace HQ4 := Lib.hid (rd_kept HQ4.out HK7.out))
      go_wp2_with fail
      refine (HO.out _ HB7.out).mono ?_
      rintro e wa8 ⟨D0, D1, D2, d0, d1, d2, rfl, hyd, hba⟩
      have hsa8 := hba.size
      (try simp at hsa8)
      have HBa8 := Lib.hid (HB7.out.trans (hba.mono HB7.out.size))
      have HYD8 := Lib.hid hyd
      have HA8 := Lib.hid hba
      clear hyd hba
      go_wp2_with fail
      refine (HLf.out _ _ _ _ _ _ _ HYD8.out HBa8.out).mono ?_
      rintro e w8 ⟨A8, c8, rfl, hr8, hb8⟩
      have hs8 := hb8.size
      (try simp at hs8)
      have HB8 := Lib.hid (HBa8.out.trans (hb8.mono HBa8.out.size))
      have HK8 := Lib.hid (HA8.out.trans (hb8.mono HA8.out.size))
      clear hb8 HYD8 HA8 HBa8
      replace BY := Lib.hid (BY.out.kept HK8.out)
      have cY := BY.out.cell
      have lY := BY.out.lt
      (try replace HR0 := Lib.hid (il_kept HR0.out HK8.out))
      (try replace HR1 := Lib.hid (rd_kept HR1.out HK8.out))
      (try replace HR2 := Lib.hid (rd_kept HR2.out HK8.out))
      (try replace HR3 := Lib.hid (rd_kept HR3.out HK8.out))
      (try replace HR4 := Lib.hid (rd_kept HR4.out HK8.out))
      (try replace HR5 := Lib.hid (rd_kept HR5.out HK8.out))
      (try replace HR6 := Lib.hid (il_kept HR6.out HK8.out))
      (try replace HR7 := Lib.hid (rd_kept HR7.out HK8.out))
      (try replace HQ1 := Lib.hid (rd_kept HQ1.out HK8.out))
      (try replace HQ2 := Lib.hid (rd_kept HQ2.out HK8.out))
      (try replace HQ3 := Lib.hid (rd_kept HQ3.out HK8.out))
      (try replace HQ4 := Lib.hid (rd_kept HQ4.out HK8.out))
      go_wp2_with fail
      refine (HCk.out _ HB8.out).mono ?_
      (rintro e w9 ⟨rfl, hb9⟩; have hs9 := hb9.size; (try simp at hs9))
      have HB9 := Lib.hid (HB8.out.trans (hb9.mono HB8.out.size))
      have HK9 := Lib.hid hb9
      replace BY := Lib.hid (BY.out.kept HK9.out)
      have cY := BY.out.cell
      have lY := BY.out.lt
      (try replace HR0 := Lib.hid (il_kept HR0.out HK9.out))
      (try replace HR1 := Lib.hid (rd_kept HR1.out HK9.out))
      (try replace HR2 := Lib.hid (rd_kept HR2.out HK9.out))
      (try replace HR3 := Lib.hid (rd_kept HR3.out HK9.out))
      (try replace HR4 := Lib.hid (rd_kept HR4.out HK9.out))
      (try replace HR5 := Lib.hid (rd_kept HR5.out HK9.out))
      (try replace HR6 := Lib.hid (il_kept HR6.out HK9.out))
      (try replace HR7 := Lib.hid (rd_kept HR7.out HK9.out))
      (try replace HQ1 := Lib.hid (rd_kept HQ1.out HK9.out))
      (try replace HQ2 := Lib.hid (rd_kept HQ2.out HK9.out))
      (try replace HQ3 := Lib.hid (rd_kept HQ3.out HK9.out))
      (try replace HQ4 := Lib.hid (rd_kept HQ4.out HK9.out))
      clear hb9
      have hb0 : (ee == 0) = false := by simpa using HNE.out
      go_wp2_with fail
      refine (HO.out _ HB9.out).mono ?_
      rintro e wa10 ⟨D0, D1, D2, d0, d1, d2, rfl, hyd, hba⟩
      have hsa10 := hba.size
      (try simp at hsa10)
      have HBa10 := Lib.hid (HB9.out.trans (hba.mono HB9.out.size))
      have HYD10 := Lib.hid hyd
      have HA10 := Lib.hid hba
      clear hyd hba
      go_wp2_with fail
      refine (HCy.out _ _ _ _ _ _ _ HYD10.out HBa10.out).mono ?_
      rintro e w10 ⟨rfl, hb10⟩
      have hs10 := hb10.size
      (try simp at hs10)
      have HB10 := Lib.hid (HBa10.out.trans (hb10.mono HBa10.out.size))
      have HK10 := Lib.hid (HA10.out.trans (hb10.mono HA10.out.size))
      clear hb10 HYD10 HA10 HBa10
      replace BY := Lib.hid (BY.out.kept HK10.out)
      have cY := BY.out.cell
      have lY := BY.out.lt
      (try replace HR0 := Lib.hid (il_kept HR0.out HK10.out))
      (try replace HR1 := Lib.hid (rd_kept HR1.out HK10.out))
      (try replace HR2 := Lib.hid (rd_kept HR2.out HK10.out))
      (try replace HR3 := Lib.hid (rd_kept HR3.out HK10.out))
      (try replace HR4 := Lib.hid (rd_kept HR4.out HK10.out))
      (try replace HR5 := Lib.hid (rd_kept HR5.out HK10.out))
      (try replace HR6 := Lib.hid (il_kept HR6.out HK10.out))
      (try replace HR7 := Lib.hid (rd_kept HR7.out HK10.out))
      (try replace HQ1 := Lib.hid (rd_kept HQ1.out HK10.out))
      (try replace HQ2 := Lib.hid (rd_kept HQ2.out HK10.out))
      (try replace HQ3 := Lib.hid (rd_kept HQ3.out HK10.out))
      (try replace HQ4 := Lib.hid (rd_kept HQ4.out HK10.out))
      go_wp2_with fail
      go_loopw [102] (fun i wr => i = .int .i64 0 ∧ wr = w10) (fun _ _ => 0)
      case atStart => exact ⟨rfl, rfl⟩
      case round =>
        obtain ⟨rfl, rfl⟩ := hrel
        go_wp2_with fail
        refine (listed_err _ _ _ _ _ _ _ HNE.out rfl _).mono ?_
        (rintro e w11 ⟨rfl, hb11⟩; have hs11 := hb11.size; (try simp at hs11))
        go_wp2_with fail
        refine (listed_err _ _ _ _ _ _ _ HNE.out rfl _).mono ?_
        (rintro e w12 ⟨rfl, hb12⟩; have hs12 := hb12.size; (try simp at hs12))
        go_wp2_with fail
        refine (listed_err _ _ _ _ _ _ _ HNE.out rfl _).mono ?_
        (rintro e w13 ⟨rfl, hb13⟩; have hs13 := hb13.size; (try simp at hs13))
        go_wp2_with fail
        refine (listed_err _ _ _ _ _ _ _ HNE.out rfl _).mono ?_
        (rintro e w14 ⟨rfl, hb14⟩; have hs14 := hb14.size; (try simp at hs14))
        go_wp2_with fail
        refine (named_err _ _ _ _ _ _ _ HNE.out rfl _).mono ?_
        (rintro e w15 ⟨rfl, hb15⟩; have hs15 := hb15.size; (try simp at hs15))
        go_wp2_with fail
        go_ret
        exact ⟨by first | rfl | (simp; done), by have hz := HB10.out; exact bl_⟩
    | true =>
      have hee : yardE y = 0 := by simpa using he
      have hP := HOk.out hee
      simp only [hee, resI_ok, resW_ok, if_true] at HI HEn HEa HSp HSc HLf HCk HCy
      have HRi := Lib.hid (fun W (hW : Below w.heap.size w W) => rIslands_any w.heap.size A0 A1 A2 n0 n1 n2 c0 c1 c2 y W (HY.out.below hW) hW.size hP)
      have HRl := Lib.hid (fun W (hW : Below w.heap.size w W) => rLeft_any w.heap.size A0 A1 A2 n0 n1 n2 c0 c1 c2 y W (HY.out.below hW) hW.size hP)
      have HS1 := Lib.hid (fun W (hW : Below w.heap.size w W) => Sections_en w.heap.size A0 A1 A2 n0 n1 n2 c0 c1 c2 y W (HY.out.below hW) hW.size hP ⟨#[101, 110, 101, 114, 103, 105, 122, 101, 100]⟩ (by decide +kernel) (by decide +kernel) (by decide +kernel) (by decide +kernel))
      have HS2 := Lib.hid (fun W (hW : Below w.heap.size w W) => Sections_ea w.heap.size A0 A1 A2 n0 n1 n2 c0 c1 c2 y W (HY.out.below hW) hW.size hP ⟨#[101, 97, 114, 116, 104, 101, 100]⟩ (by decide +kernel) (by decide +kernel) (by decide +kernel) (by decide +kernel))
      have HS3 := Lib.hid (fun W (hW : Below w.heap.size w W) => Sections_sp w.heap.size A0 A1 A2 n0 n1 n2 c0 c1 c2 y W (HY.out.below hW) hW.size hP ⟨#[115, 101, 112, 97, 114, 97, 116, 101, 100]⟩ (by decide +kernel) (by decide +kernel) (by decide +kernel) (by decide +kernel))
      have HS4 := Lib.hid (fun W (hW : Below w.heap.size w W) => Sections_sc w.heap.size A0 A1 A2 n0 n1 n2 c0 c1 c2 y W (HY.out.below hW) hW.size hP ⟨#[115, 101, 99, 117, 114, 101, 100]⟩ (by decide +kernel) (by decide +kernel) (by decide +kernel) (by decide +kernel))
      have i0 := islsL_len y
      have hi6 : ∀ k (h : k < (islsL y).length), (islsL y)[k].length ≤ 8 := fun k h => islsL_els hP _ (List.getElem_mem h)
      have i1 := those_le y.s.length (energB y)
      have i2 := those_le y.s.length (earthedB y)
      have i3 := those_le y.s.length (sepB y)
      have i4 := those_le y.s.length (secB y)
      have i5 := leftL_len y
      generalize islsL y = ls at *
      generalize those y.s.length (energB y) = l1 at *
      generalize those y.s.length (earthedB y) = l2 at *
      generalize those y.s.length (sepB y) = l3 at *
      generalize those y.s.length (secB y) = l4 at *
      generalize leftL y = l5 at *
      clear hP HOk he hee
      go_enter Tryz.func4, Tryz.ntmps4
      go_wp2_with fail
      refine (HAw.out _ bl_).mono ?_
      (rintro e w1 ⟨rfl, hb1⟩; have hs1 := hb1.size; (try simp at hs1))
      obtain ⟨hc1, hf1⟩ := ifs_of hb1; have hs1 := hb1.size; (try simp at hs1)
      go_wp2_with fail
      refine (HSh.out _ bl_).mono ?_
      (rintro e w2 ⟨rfl, hb2⟩; have hs2 := hb2.size; (try simp at hs2))
      have HB2 := Lib.hid (bl_ : Below w.heap.size w w2)
      have BY := Lib.hid (bk_ : Blk w2 w.heap.size 26 #[.slice A0 n0 c0, .slice A1 n1 c1, .slice A2 n2 c2])
      have cY := BY.out.cell
      have lY := BY.out.lt
      clear hc1 hf1 hb1 hb2
      go_wp2_with fail
      refine (HO.out _ HB2.out).mono ?_
      rintro e wa3 ⟨D0, D1, D2, d0, d1, d2, rfl, hyd, hba⟩
      have hsa3 := hba.size
      (try simp at hsa3)
      have HBa3 := Lib.hid (HB2.out.trans (hba.mono HB2.out.size))
      have HYD3 := Lib.hid hyd
      have HA3 := Lib.hid hba
      clear hyd hba
      go_wp2_with fail
      refine (HI.out _ _ _ _ _ _ _ HYD3.out HBa3.out).mono ?_
      rintro e w3 ⟨A3, c3, vs, rfl, hr3, hi3, hb3⟩
      have hs3 := hb3.size
      (try simp at hs3)
      have HB3 := Lib.hid (HBa3.out.trans (hb3.mono HBa3.out.size))
      have HK3 := Lib.hid (HA3.out.trans (hb3.mono HA3.out.size))
      clear hb3 HYD3 HA3 HBa3
      replace BY := Lib.hid (BY.out.kept HK3.out)
      have cY := BY.out.cell
      have lY := BY.out.lt
      (try replace HR0 := Lib.hid (il_kept HR0.out HK3.out))
      (try replace HR1 := Lib.hid (rd_kept HR1.out HK3.out))
      (try replace HR2 := Lib.hid (rd_kept HR2.out HK3.out))
      (try replace HR3 := Lib.hid (rd_kept HR3.out HK3.out))
      (try replace HR4 := Lib.hid (rd_kept HR4.out HK3.out))
      (try replace HR5 := Lib.hid (rd_kept HR5.out HK3.out))
      (try replace HR6 := Lib.hid (il_kept HR6.out HK3.out))
      (try replace HR7 := Lib.hid (rd_kept HR7.out HK3.out))
      (try replace HQ1 := Lib.hid (rd_kept HQ1.out HK3.out))
      (try replace HQ2 := Lib.hid (rd_kept HQ2.out HK3.out))
      (try replace HQ3 := Lib.hid (rd_kept HQ3.out HK3.out))
      (try replace HQ4 := Lib.hid (rd_kept HQ4.out HK3.out))
      have HR0 := Lib.hid (show IlS w3 A3 vs ls from ⟨hr3, hi3⟩)
      clear hr3 hi3
      go_wp2_with fail
      refine (HO.out _ HB3.out).mono ?_
      rintro e wa4 ⟨D0, D1, D2, d0, d1, d2, rfl, hyd, hba⟩
      have hsa4 := hba.size
      (try simp at hsa4)
      have HBa4 := Lib.hid (HB3.out.trans (hba.mono HB3.out.size))
      have HYD4 := Lib.hid hyd
      have HA4 := Lib.hid hba
      clear hyd hba
      go_wp2_with fail
      refine (HEn.out _ _ _ _ _ _ _ HYD4.out HBa4.out).mono ?_
      rintro e w4 ⟨A4, c4, rfl, hr4, hb4⟩
      have hs4 := hb4.size
      (try simp at hs4)
      have HB4 := Lib.hid (HBa4.out.trans (hb4.mono HBa4.out.size))
      have HK4 := Lib.hid (HA4.out.trans (hb4.mono HA4.out.size))
      clear hb4 HYD4 HA4 HBa4
      replace BY := Lib.hid (BY.out.kept HK4.out)
      have cY := BY.out.cell
      have lY := BY.out.lt
      (try replace HR0 := Lib.hid (il_kept HR0.out HK4.out))
      (try replace HR1 := Lib.hid (rd_kept HR1.out HK4.out))
      (try replace HR2 := Lib.hid (rd_kept HR2.out HK4.out))
      (try replace HR3 := Lib.hid (rd_kept HR3.out HK4.out))
      (try replace HR4 := Lib.hid (rd_kept HR4.out HK4.out))
      (try replace HR5 := Lib.hid (rd_kept HR5.out HK4.out))
      (try replace HR6 := Lib.hid (il_kept HR6.out HK4.out))
      (try replace HR7 := Lib.hid (rd_kept HR7.out HK4.out))
      (try replace HQ1 := Lib.hid (rd_kept HQ1.out HK4.out))
      (try replace HQ2 := Lib.hid (rd_kept HQ2.out HK4.out))
      (try replace HQ3 := Lib.hid (rd_kept HQ3.out HK4.out))
      (try replace HQ4 := Lib.hid (rd_kept HQ4.out HK4.out))
      have HR1 := Lib.hid hr4
      clear hr4
      go_wp2_with fail
      refine (HO.out _ HB4.out).mono ?_
      rintro e wa5 ⟨D0, D1, D2, d0, d1, d2, rfl, hyd, hba⟩
      have hsa5 := hba.size
      (try simp at hsa5)
      have HBa5 := Lib.hid (HB4.out.trans (hba.mono HB4.out.size))
      have HYD5 := Lib.hid hyd
      have HA5 := Lib.hid hba
      clear hyd hba
      go_wp2_with fail
      refine (HEa.out _ _ _ _ _ _ _ HYD5.out HBa5.out).mono ?_
      rintro e w5 ⟨A5, c5, rfl, hr5, hb5⟩
      have hs5 := hb5.size
      (try simp at hs5)
      have HB5 := Lib.hid (HBa5.out.trans (hb5.mono HBa5.out.size))
      have HK5 := Lib.hid (HA5.out.trans (hb5.mono HA5.out.size))
      clear hb5 HYD5 HA5 HBa5
      replace BY := Lib.hid (BY.out.kept HK5.out)
      have cY := BY.out.cell
      have lY := BY.out.lt
      (try replace HR0 := Lib.hid (il_kept HR0.out HK5.out))
      (try replace HR1 := Lib.hid (rd_kept HR1.out HK5.out))
      (try replace HR2 := Lib.hid (rd_kept HR2.out HK5.out))
      (try replace HR3 := Lib.hid (rd_kept HR3.out HK5.out))
      (try replace HR4 := Lib.hid (rd_kept HR4.out HK5.out))
      (try replace HR5 := Lib.hid (rd_kept HR5.out HK5.out))
      (try replace HR6 := Lib.hid (il_kept HR6.out HK5.out))
      (try replace HR7 := Lib.hid (rd_kept HR7.out HK5.out))
      (try replace HQ1 := Lib.hid (rd_kept HQ1.out HK5.out))
      (try replace HQ2 := Lib.hid (rd_kept HQ2.out HK5.out))
      (try replace HQ3 := Lib.hid (rd_kept HQ3.out HK5.out))
      (try replace HQ4 := Lib.hid (rd_kept HQ4.out HK5.out))
      have HR2 := Lib.hid hr5
      clear hr5
      go_wp2_with fail
      refine (HO.out _ HB5.out).mono ?_
      rintro e wa6 ⟨D0, D1, D2, d0, d1, d2, rfl, hyd, hba⟩
      have hsa6 := hba.size
      (try simp at hsa6)
      have HBa6 := Lib.hid (HB5.out.trans (hba.mono HB5.out.size))
      have HYD6 := Lib.hid hyd
      have HA6 := Lib.hid hba
      clear hyd hba
      go_wp2_with fail
      refine (HSp.out _ _ _ _ _ _ _ HYD6.out HBa6.out).mono ?_
      rintro e w6 ⟨A6, c6, rfl, hr6, hb6⟩
      have hs6 := hb6.size
      (try simp at hs6)
      have HB6 := Lib.hid (HBa6.out.trans (hb6.mono HBa6.out.size))
      have HK6 := Lib.hid (HA6.out.trans (hb6.mono HA6.out.size))
      clear hb6 HYD6 HA6 HBa6
      replace BY := Lib.hid (BY.out.kept HK6.out)
      have cY := BY.out.cell
      have lY := BY.out.lt
      (try replace HR0 := Lib.hid (il_kept HR0.out HK6.out))
      (try replace HR1 := Lib.hid (rd_kept HR1.out HK6.out))
      (try replace HR2 := Lib.hid (rd_kept HR2.out HK6.out))
      (try replace HR3 := Lib.hid (rd_kept HR3.out HK6.out))
      (try replace HR4 := Lib.hid (rd_kept HR4.out HK6.out))
      (try replace HR5 := Lib.hid (rd_kept HR5.out HK6.out))
      (try replace HR6 := Lib.hid (il_kept HR6.out HK6.out))
      (try replace HR7 := Lib.hid (rd_kept HR7.out HK6.out))
      (try replace HQ1 := Lib.hid (rd_kept HQ1.out HK6.out))
      (try replace HQ2 := Lib.hid (rd_kept HQ2.out HK6.out))
      (try replace HQ3 := Lib.hid (rd_kept HQ3.out HK6.out))
      (try replace HQ4 := Lib.hid (rd_kept HQ4.out HK6.out))
      have HR3 := Lib.hid hr6
      clear hr6
      go_wp2_with fail
      refine (HO.out _ HB6.out).mono ?_
      rintro e wa7 ⟨D0, D1, D2, d0, d1, d2, rfl, hyd, hba⟩
      have hsa7 := hba.size
      (try simp at hsa7)
      have HBa7 := Lib.hid (HB6.out.trans (hba.mono HB6.out.size))
      have HYD7 := Lib.hid hyd
      have HA7 := Lib.hid hba
      clear hyd hba
      go_wp2_with fail
      refine (HSc.out _ _ _ _ _ _ _ HYD7.out HBa7.out).mono ?_
      rintro e w7 ⟨A7, c7, rfl, hr7, hb7⟩
      have hs7 := hb7.size
      (try simp at hs7)
      have HB7 := Lib.hid (HBa7.out.trans (hb7.mono HBa7.out.size))
      have HK7 := Lib.hid (HA7.out.trans (hb7.mono HA7.out.size))
      clear hb7 HYD7 HA7 HBa7
      replace BY := Lib.hid (BY.out.kept HK7.out)
      have cY := BY.out.cell
      have lY := BY.out.lt
      (try replace HR0 := Lib.hid (il_kept HR0.out HK7.out))
      (try replace HR1 := Lib.hid (rd_kept HR1.out HK7.out))
      (try replace HR2 := Lib.hid (rd_kept HR2.out HK7.out))
      (try replace HR3 := Lib.hid (rd_kept HR3.out HK7.out))
      (try replace HR4 := Lib.hid (rd_kept HR4.out HK7.out))
      (try replace HR5 := Lib.hid (rd_kept HR5.out HK7.out))
      (try replace HR6 := Lib.hid (il_kept HR6.out HK7.out))
      (try replace HR7 := Lib.hid (rd_kept HR7.out HK7.out))
      (try replace HQ1 := Lib.hid (rd_kept HQ1.out HK7.out))
      (try replace HQ2 := Lib.hid (rd_kept HQ2.out HK7.out))
      (try replace HQ3 := Lib.hid (rd_kept HQ3.out HK7.out))
      (try replace HQ4 := Lib.hid (rd_kept HQ4.out HK7.out))
      have HR4 := Lib.hid hr7
      clear hr7
      go_wp2_with fail
      refine (HO.out _ HB7.out).mono ?_
      rintro e wa8 ⟨D0, D1, D2, d0, d1, d2, rfl, hyd, hba⟩
      have hsa8 := hba.size
      (try simp at hsa8)
      have HBa8 := Lib.hid (HB7.out.trans (hba.mono HB7.out.size))
      have HYD8 := Lib.hid hyd
      have HA8 := Lib.hid hba
      clear hyd hba
      go_wp2_with fail
      refine (HLf.out _ _ _ _ _ _ _ HYD8.out HBa8.out).mono ?_
      rintro e w8 ⟨A8, c8, rfl, hr8, hb8⟩
      have hs8 := hb8.size
      (try simp at hs8)
      have HB8 := Lib.hid (HBa8.out.trans (hb8.mono HBa8.out.size))
      have HK8 := Lib.hid (HA8.out.trans (hb8.mono HA8.out.size))
      clear hb8 HYD8 HA8 HBa8
      replace BY := Lib.hid (BY.out.kept HK8.out)
      have cY := BY.out.cell
      have lY := BY.out.lt
      (try replace HR0 := Lib.hid (il_kept HR0.out HK8.out))
      (try replace HR1 := Lib.hid (rd_kept HR1.out HK8.out))
      (try replace HR2 := Lib.hid (rd_kept HR2.out HK8.out))
      (try replace HR3 := Lib.hid (rd_kept HR3.out HK8.out))
      (try replace HR4 := Lib.hid (rd_kept HR4.out HK8.out))
      (try replace HR5 := Lib.hid (rd_kept HR5.out HK8.out))
      (try replace HR6 := Lib.hid (il_kept HR6.out HK8.out))
      (try replace HR7 := Lib.hid (rd_kept HR7.out HK8.out))
      (try replace HQ1 := Lib.hid (rd_kept HQ1.out HK8.out))
      (try replace HQ2 := Lib.hid (rd_kept HQ2.out HK8.out))
      (try replace HQ3 := Lib.hid (rd_kept HQ3.out HK8.out))
      (try replace HQ4 := Lib.hid (rd_kept HQ4.out HK8.out))
      have HR5 := Lib.hid hr8
      clear hr8
      go_wp2_with fail
      refine (HCk.out _ HB8.out).mono ?_
      (rintro e w9 ⟨rfl, hb9⟩; have hs9 := hb9.size; (try simp at hs9))
      have HB9 := Lib.hid (HB8.out.trans (hb9.mono HB8.out.size))
      have HK9 := Lib.hid hb9
      replace BY := Lib.hid (BY.out.kept HK9.out)
      have cY := BY.out.cell
      have lY := BY.out.lt
      (try replace HR0 := Lib.hid (il_kept HR0.out HK9.out))
      (try replace HR1 := Lib.hid (rd_kept HR1.out HK9.out))
      (try replace HR2 := Lib.hid (rd_kept HR2.out HK9.out))
      (try replace HR3 := Lib.hid (rd_kept HR3.out HK9.out))
      (try replace HR4 := Lib.hid (rd_kept HR4.out HK9.out))
      (try replace HR5 := Lib.hid (rd_kept HR5.out HK9.out))
      (try replace HR6 := Lib.hid (il_kept HR6.out HK9.out))
      (try replace HR7 := Lib.hid (rd_kept HR7.out HK9.out))
      (try replace HQ1 := Lib.hid (rd_kept HQ1.out HK9.out))
      (try replace HQ2 := Lib.hid (rd_kept HQ2.out HK9.out))
      (try replace HQ3 := Lib.hid (rd_kept HQ3.out HK9.out))
      (try replace HQ4 := Lib.hid (rd_kept HQ4.out HK9.out))
      clear hb9
      go_wp2_with fail
      (refine wp_region_calm [] [0, 2] 4 (by kernel_rfl) rfl (by kernel_rfl) (by kernel_rfl) (by kernel_rfl) ?_; simp only [pickB, List.filterMap_cons, List.filterMap_nil, List.getElem?_toArray, List.getElem?_cons_zero, List.getElem?_cons_succ]; (repeat (first | ((with_reducible refine quietL_plain rfl (fun K hK => ?_)); (apply Exists.intro; refine ⟨fun wx hx => ?_, ?_⟩; (· (have hcx := ifs_ex hx); simp [go_sem, *, ↓IntWalk.iteOmega] <;> (first | rfl | exact ⟨rfl, rfl⟩ | fail)); (simp only [Act.put, List.setIfInBounds_toArray, List.set_cons_zero, List.set_cons_succ]; refine hK _ ?_; clear hK K))) | ((with_reducible refine quietL_skip (by with_unfolding_all rfl) ?_); simp only [Act.put, List.setIfInBounds_toArray, List.set_cons_zero, List.set_cons_succ]) | ((with_reducible refine quietL_want (by with_unfolding_all rfl) (fun K hK => ?_)); (apply Exists.intro; refine ⟨fun wx hx => ?_, ?_⟩; (· (have hcx := ifs_ex hx); simp [go_sem, *, ↓IntWalk.iteOmega] <;> (first | rfl | exact ⟨rfl, rfl⟩ | fail)); (simp only [Act.put, List.setIfInBounds_toArray, List.set_cons_zero, List.set_cons_succ]; refine hK _ ?_; clear hK K))))); refine quietL_nil ?_)
      (refine anyB_one (i := 1) (by kernel_rfl) rfl rfl ?_; intro wa hba K hK; obtain ⟨hca, hfa⟩ := ifs_of hba; have hsa := hba.size; (try simp at hsa); go_wp2_with fail)
      have HBa := Lib.hid (HB9.out.trans (hba.mono HB9.out.size))
      refine (HRi.out _ HBa.out).mono ?_
      rintro e wb ⟨Ab, cb, us, rfl, hrb, hib, hbb⟩
      have hsb := hbb.size
      (try simp at hsb)
      have HBb := Lib.hid (HBa.out.trans (hbb.mono HBa.out.size))
      have HQ0 := Lib.hid (show IlS wb Ab us ls from ⟨hrb, hib⟩)
      clear hrb hib hca hfa
      (go_wp2; refine ⟨xs_, ?_⟩)
      (refine anyB_one (i := 3) (by kernel_rfl) rfl rfl ?_; intro wc hbc K hK; obtain ⟨hcc, hfc⟩ := ifs_of hbc; have hsc := hbc.size; (try simp at hsc); go_wp2_with fail)
      have HBc := Lib.hid (HBb.out.trans (hbc.mono HBb.out.size))
      refine (HRl.out _ HBc.out).mono ?_
      rintro e wd ⟨Ad, cd, rfl, hrd, hbd⟩
      have hsd := hbd.size
      (try simp at hsd)
      have HBd := Lib.hid (HBc.out.trans (hbd.mono HBc.out.size))
      have HQ5 := Lib.hid hrd
      clear hrd hcc hfc
      (go_wp2; refine ⟨xs_, ?_⟩)
      (refine anyB_one (i := 4) (by kernel_rfl) rfl rfl ?_; intro we hbe K hK; obtain ⟨hce, hfe⟩ := ifs_of hbe; have hse := hbe.size; (try simp at hse); go_wp2; refine ⟨xs_, ?_⟩)
      (refine anyB_one (i := 5) (by kernel_rfl) rfl rfl ?_; intro wf hbf K hK; obtain ⟨hcf, hff⟩ := ifs_of hbf; have hsf := hbf.size; (try simp at hsf); go_wp2; refine ⟨xs_, ?_⟩)
      (refine anyB_end (by kernel_rfl) ?_; intro wg hbg; obtain ⟨hcg, hfg⟩ := ifs_of hbg; have hsg := hbg.size; (try simp at hsg); simp only [Calm])
      have HBg := Lib.hid (show Below w.heap.size w wg from by have hz := HB9.out; exact bl_)
      have HKg := Lib.hid (bl_ : Below w9.heap.size w9 wg)
      have HKb := Lib.hid (bl_ : Below wb.heap.size wb wg)
      have HKd := Lib.hid (bl_ : Below wd.heap.size wd wg)
      have HR6 := Lib.hid (il_kept HQ0.out HKb.out)
      have HR7 := Lib.hid (rd_kept HQ5.out HKd.out)
      clear HQ0 HQ5
      replace BY := Lib.hid (BY.out.kept HKg.out)
      have cY := BY.out.cell
      have lY := BY.out.lt
      (try replace HR0 := Lib.hid (il_kept HR0.out HKg.out))
      (try replace HR1 := Lib.hid (rd_kept HR1.out HKg.out))
      (try replace HR2 := Lib.hid (rd_kept HR2.out HKg.out))
      (try replace HR3 := Lib.hid (rd_kept HR3.out HKg.out))
      (try replace HR4 := Lib.hid (rd_kept HR4.out HKg.out))
      (try replace HR5 := Lib.hid (rd_kept HR5.out HKg.out))
      (try replace HR6 := Lib.hid (il_kept HR6.out HKg.out))
      (try replace HR7 := Lib.hid (rd_kept HR7.out HKg.out))
      (try replace HQ1 := Lib.hid (rd_kept HQ1.out HKg.out))
      (try replace HQ2 := Lib.hid (rd_kept HQ2.out HKg.out))
      (try replace HQ3 := Lib.hid (rd_kept HQ3.out HKg.out))
      (try replace HQ4 := Lib.hid (rd_kept HQ4.out HKg.out))
      clear hba hbb hbc hbd hbe hbf hbg HKb HKd HBa HBb HBc HBd hce hfe hcf hff hcg hfg
      go_wp2_with fail
      (refine wp_region_calm [] [0, 2, 4, 6] 8 (by kernel_rfl) rfl (by kernel_rfl) (by kernel_rfl) (by kernel_rfl) ?_; simp only [pickB, List.filterMap_cons, List.filterMap_nil, List.getElem?_toArray, List.getElem?_cons_zero, List.getElem?_cons_succ]; (repeat (first | ((with_reducible refine quietL_plain rfl (fun K hK => ?_)); (apply Exists.intro; refine ⟨fun wx hx => ?_, ?_⟩; (· (have hcx := ifs_ex hx); simp [go_sem, *, ↓IntWalk.iteOmega] <;> (first | rfl | exact ⟨rfl, rfl⟩ | fail)); (simp only [Act.put, List.setIfInBounds_toArray, List.set_cons_zero, List.set_cons_succ]; refine hK _ ?_; clear hK K))) | ((with_reducible refine quietL_skip (by with_unfolding_all rfl) ?_); simp only [Act.put, List.setIfInBounds_toArray, List.set_cons_zero, List.set_cons_succ]) | ((with_reducible refine quietL_want (by with_unfolding_all rfl) (fun K hK => ?_)); (apply Exists.intro; refine ⟨fun wx hx => ?_, ?_⟩; (· (have hcx := ifs_ex hx); simp [go_sem, *, ↓IntWalk.iteOmega] <;> (first | rfl | exact ⟨rfl, rfl⟩ | fail)); (simp only [Act.put, List.setIfInBounds_toArray, List.set_cons_zero, List.set_cons_succ]; refine hK _ ?_; clear hK K))))); refine quietL_nil ?_)
      (refine anyB_one (i := 1) (by kernel_rfl) rfl rfl ?_; intro wh hbh K hK; obtain ⟨hch, hfh⟩ := ifs_of hbh; have hsh := hbh.size; (try simp at hsh); go_wp2_with fail)
      have HBh := Lib.hid (HBg.out.trans (hbh.mono HBg.out.size))
      refine ((HS1.out _ HBh.out).mono fun _ _ h => h.res).mono ?_
      rintro e wi ⟨Ai, capi, rfl, hri, hbi⟩
      have hsi := hbi.size
      have HRi := Lib.hid hri
      (try simp at hsi)
      have HBi := Lib.hid (HBh.out.trans (hbi.mono HBh.out.size))
      clear hri hch hfh
      (go_wp2; refine ⟨xs_, ?_⟩)
      (refine anyB_one (i := 3) (by kernel_rfl) rfl rfl ?_; intro wj hbj K hK; obtain ⟨hcj, hfj⟩ := ifs_of hbj; have hsj := hbj.size; (try simp at hsj); go_wp2_with fail)
      have HBj := Lib.hid (HBi.out.trans (hbj.mono HBi.out.size))
      refine ((HS2.out _ HBj.out).mono fun _ _ h => h.res).mono ?_
      rintro e wk ⟨Ak, capk, rfl, hrk, hbk⟩
      have hsk := hbk.size
      have HRk := Lib.hid hrk
      (try simp at hsk)
      have HBk := Lib.hid (HBj.out.trans (hbk.mono HBj.out.size))
      clear hrk hcj hfj
      (go_wp2; refine ⟨xs_, ?_⟩)
      (refine anyB_one (i := 5) (by kernel_rfl) rfl rfl ?_; intro wl hbl K hK; obtain ⟨hcl, hfl⟩ := ifs_of hbl; have hsl := hbl.size; (try simp at hsl); go_wp2_with fail)
      have HBl := Lib.hid (HBk.out.trans (hbl.mono HBk.out.size))
      refine ((HS3.out _ HBl.out).mono fun _ _ h => h.res).mono ?_
      rintro e wm ⟨Am, capm, rfl, hrm, hbm⟩
      have hsm := hbm.size
      have HRm := Lib.hid hrm
      (try simp at hsm)
      have HBm := Lib.hid (HBl.out.trans (hbm.mono HBl.out.size))
      clear hrm hcl hfl
      (go_wp2; refine ⟨xs_, ?_⟩)
      (refine anyB_one (i := 7) (by kernel_rfl) rfl rfl ?_; intro wn hbn K hK; obtain ⟨hcn, hfn⟩ := ifs_of hbn; have hsn := hbn.size; (try simp at hsn); go_wp2_with fail)
      have HBn := Lib.hid (HBm.out.trans (hbn.mono HBm.out.size))
      refine ((HS4.out _ HBn.out).mono fun _ _ h => h.res).mono ?_
      rintro e wo ⟨Ao, capo, rfl, hro, hbo⟩
      have hso := hbo.size
      have HRo := Lib.hid hro
      (try simp at hso)
      have HBo := Lib.hid (HBn.out.trans (hbo.mono HBn.out.size))
      clear hro hcn hfn
      (go_wp2; refine ⟨xs_, ?_⟩)
      (refine anyB_one (i := 8) (by kernel_rfl) rfl rfl ?_; intro wp hbp K hK; obtain ⟨hcp, hfp⟩ := ifs_of hbp; have hsp := hbp.size; (try simp at hsp); go_wp2; refine ⟨xs_, ?_⟩)
      (refine anyB_one (i := 9) (by kernel_rfl) rfl rfl ?_; intro wq hbq K hK; obtain ⟨hcq, hfq⟩ := ifs_of hbq; have hsq := hbq.size; (try simp at hsq); go_wp2; refine ⟨xs_, ?_⟩)
      (refine anyB_one (i := 10) (by kernel_rfl) rfl rfl ?_; intro wr hbr K hK; obtain ⟨hcr, hfr⟩ := ifs_of hbr; have hsr := hbr.size; (try simp at hsr); go_wp2; refine ⟨xs_, ?_⟩)
      (refine anyB_one (i := 11) (by kernel_rfl) rfl rfl ?_; intro ws hbs K hK; obtain ⟨hcs, hfs⟩ := ifs_of hbs; have hss := hbs.size; (try simp at hss); go_wp2; refine ⟨xs_, ?_⟩)
      (refine anyB_end (by kernel_rfl) ?_; intro wt hbt; obtain ⟨hct, hft⟩ := ifs_of hbt; have hst := hbt.size; (try simp at hst); simp only [Calm])
      have HBt := Lib.hid (show Below w.heap.size w wt from by have hz := HBo.out; exact bl_)
      have HKt := Lib.hid (bl_ : Below wg.heap.size wg wt)
      have HK1 := Lib.hid (bl_ : Below wi.heap.size wi wt)
      have HK2 := Lib.hid (bl_ : Below wk.heap.size wk wt)
      have HK3 := Lib.hid (bl_ : Below wm.heap.size wm wt)
      have HK4 := Lib.hid (bl_ : Below wo.heap.size wo wt)
      have HQ1 := Lib.hid (rd_kept HRi.out HK1.out)
      have HQ2 := Lib.hid (rd_kept HRk.out HK2.out)
      have HQ3 := Lib.hid (rd_kept HRm.out HK3.out)
      have HQ4 := Lib.hid (rd_kept HRo.out HK4.out)
      clear HRi HRk HRm HRo
      replace BY := Lib.hid (BY.out.kept HKt.out)
      have cY := BY.out.cell
      have lY := BY.out.lt
      (try replace HR0 := Lib.hid (il_kept HR0.out HKt.out))
      (try replace HR1 := Lib.hid (rd_kept HR1.out HKt.out))
      (try replace HR2 := Lib.hid (rd_kept HR2.out HKt.out))
      (try replace HR3 := Lib.hid (rd_kept HR3.out HKt.out))
      (try replace HR4 := Lib.hid (rd_kept HR4.out HKt.out))
      (try replace HR5 := Lib.hid (rd_kept HR5.out HKt.out))
      (try replace HR6 := Lib.hid (il_kept HR6.out HKt.out))
      (try replace HR7 := Lib.hid (rd_kept HR7.out HKt.out))
      (try replace HQ1 := Lib.hid (rd_kept HQ1.out HKt.out))
      (try replace HQ2 := Lib.hid (rd_kept HQ2.out HKt.out))
      (try replace HQ3 := Lib.hid (rd_kept HQ3.out HKt.out))
      (try replace HQ4 := Lib.hid (rd_kept HQ4.out HKt.out))
      clear hbh hbi hbj hbk hbl hbm hbn hbo hbp hbq hbr hbs hbt HK1 HK2 HK3 HK4 HBh HBi HBj HBk HBl HBm HBn HBo hcp hfp hcq hfq hcr hfr hcs hfs hct hft
      go_wp2_with fail
      refine (HO.out _ HBt.out).mono ?_
      rintro e wau ⟨D0, D1, D2, d0, d1, d2, rfl, hyd, hba⟩
      have hsau := hba.size
      (try simp at hsau)
      have HBau := Lib.hid (HBt.out.trans (hba.mono HBt.out.size))
      have HYDu := Lib.hid hyd
      have HAu := Lib.hid hba
      clear hyd hba
      go_wp2_with fail
      refine (HCy.out _ _ _ _ _ _ _ HYDu.out HBau.out).mono ?_
      rintro e wu ⟨rfl, hbu⟩
      have hsu := hbu.size
      (try simp at hsu)
      have HBu := Lib.hid (HBau.out.trans (hbu.mono HBau.out.size))
      have HKu := Lib.hid (HAu.out.trans (hbu.mono HAu.out.size))
      clear hbu HYDu HAu HBau
      replace BY := Lib.hid (BY.out.kept HKu.out)
      have cY := BY.out.cell
      have lY := BY.out.lt
      (try replace HR0 := Lib.hid (il_kept HR0.out HKu.out))
      (try replace HR1 := Lib.hid (rd_kept HR1.out HKu.out))
      (try replace HR2 := Lib.hid (rd_kept HR2.out HKu.out))
      (try replace HR3 := Lib.hid (rd_kept HR3.out HKu.out))
      (try replace HR4 := Lib.hid (rd_kept HR4.out HKu.out))
      (try replace HR5 := Lib.hid (rd_kept HR5.out HKu.out))
      (try replace HR6 := Lib.hid (il_kept HR6.out HKu.out))
      (try replace HR7 := Lib.hid (rd_kept HR7.out HKu.out))
      (try replace HQ1 := Lib.hid (rd_kept HQ1.out HKu.out))
      (try replace HQ2 := Lib.hid (rd_kept HQ2.out HKu.out))
      (try replace HQ3 := Lib.hid (rd_kept HQ3.out HKu.out))
      (try replace HQ4 := Lib.hid (rd_kept HQ4.out HKu.out))
      go_wp2_with fail
      go_loopw [102] (fun i wr => ∃ k : Nat, k ≤ ls.length ∧ i = .int .i64 k ∧ Below wu.heap.size wu wr) (fun i _ => ls.length - (intOf i).toNat)
      case atStart => exact ⟨0, by omega, rfl, Below.refl _ _⟩
      case round =>
        obtain ⟨k, hk, rfl, hb⟩ := hrel
        have hsr := hb.size
        clear cY lY
        by_cases hlt : k < ls.length
        · obtain ⟨b1, o1, A', c', rfl, hbl1, hc1, hr1⟩ := il_at HR0.out k hlt
          obtain ⟨b2, o2, A'', c'', rfl, hbl2, hc2, hr2⟩ := il_at HR6.out k hlt
          have h8 := hi6 k hlt
          have HS := Lib.hid (fun W (hW : Below wr.heap.size wr W) => SameInts_any W.heap.size W.heap.size A' A'' ls[k].length ls[k].length c' c'' ls[k] ls[k] W (rd_kept hr1 (hb.trans (hW.mono hb.size))) (rd_kept hr2 (hb.trans (hW.mono hb.size))) (Nat.le_refl _) (Nat.le_refl _) (by unfold maxLen; omega) (by unfold maxLen; omega))
          rw [sameI_refl] at HS
          have kb : ∀ b i, b < wu.heap.size → wr.cell? ⟨b, i, none⟩ = wu.cell? ⟨b, i, none⟩ := fun b i h => hb.cell (p := ⟨b, i, none⟩) h
          rw [← kb _ _ hbl1] at hc1
          rw [← kb _ _ hbl2] at hc2
          clear kb hr1 hr2
          generalize ls[k].length = m1 at *
          go_wp2_with fail
          (refine wp_region_calm [] [0, 1, 2, 3, 4, 5, 6, 7, 8, 9] 0 (by kernel_rfl) rfl (by kernel_rfl) (by kernel_rfl) (by kernel_rfl) ?_; simp only [pickB, List.filterMap_cons, List.filterMap_nil, List.getElem?_toArray, List.getElem?_cons_zero, List.getElem?_cons_succ]; (repeat (first | ((with_reducible refine quietL_plain rfl (fun K hK => ?_)); (apply Exists.intro; refine ⟨fun wx hx => ?_, ?_⟩; (· (have hcx := ifs_ex hx); simp [go_sem, *, ↓IntWalk.iteOmega] <;> (first | rfl | exact ⟨rfl, rfl⟩ | (have hbx := Ex.belowW hx; exact calls_B (HS.out _ hbx)))); (simp only [Act.put, List.setIfInBounds_toArray, List.set_cons_zero, List.set_cons_succ]; refine hK _ ?_; clear hK K))) | ((with_reducible refine quietL_skip (by with_unfolding_all rfl) ?_); simp only [Act.put, List.setIfInBounds_toArray, List.set_cons_zero, List.set_cons_succ]) | ((with_reducible refine quietL_want (by with_unfolding_all rfl) (fun K hK => ?_)); (apply Exists.intro; refine ⟨fun wx hx => ?_, ?_⟩; (· (have hcx := ifs_ex hx); simp [go_sem, *, ↓IntWalk.iteOmega] <;> (first | rfl | exact ⟨rfl, rfl⟩ | (have hbx := Ex.belowW hx; exact calls_B (HS.out _ hbx)))); (simp only [Act.put, List.setIfInBounds_toArray, List.set_cons_zero, List.set_cons_succ]; refine hK _ ?_; clear hK K))))); refine quietL_nil ?_)
          (refine anyB_end (by kernel_rfl) ?_; intro wv hbv; obtain ⟨hcv, hfv⟩ := ifs_of hbv; have hsv := hbv.size; (try simp at hsv); simp only [Calm]; go_wp2_with fail)
          go_roundw
          case rel => exact ⟨k + 1, by omega, by go_num, bl_⟩
          case measure => simp [intOf]; omega
        · obtain rfl : k = ls.length := by omega
          have HB := Lib.hid (hb : Below wu.heap.size wu wr)
          have hl1 := (HR1.out).1
          go_wp2_with fail
          refine (listed_ok _ _ _ _ _ l1 rfl (by omega) _ (rd_kept HR1.out bl_) (rd_kept HQ1.out bl_)).mono ?_
          (rintro e w11 ⟨rfl, hb11⟩; have hs11 := hb11.size; (try simp at hs11))
          go_wp2_with fail
          refine (listed_ok _ _ _ _ _ l2 rfl (by omega) _ (rd_kept HR2.out bl_) (rd_kept HQ2.out bl_)).mono ?_
          (rintro e w12 ⟨rfl, hb12⟩; have hs12 := hb12.size; (try simp at hs12))
          go_wp2_with fail
          refine (listed_ok _ _ _ _ _ l3 rfl (by omega) _ (rd_kept HR3.out bl_) (rd_kept HQ3.out bl_)).mono ?_
          (rintro e w13 ⟨rfl, hb13⟩; have hs13 := hb13.size; (try simp at hs13))
          go_wp2_with fail
          refine (listed_ok _ _ _ _ _ l4 rfl (by omega) _ (rd_kept HR4.out bl_) (rd_kept HQ4.out bl_)).mono ?_
          (rintro e w14 ⟨rfl, hb14⟩; have hs14 := hb14.size; (try simp at hs14))
          go_wp2_with fail
          refine (named_ok _ _ _ _ _ l5 rfl (by omega) _ (rd_kept HR5.out bl_) (rd_kept HR7.out bl_)).mono ?_
          (rintro e w15 ⟨rfl, hb15⟩; have hs15 := hb15.size; (try simp at hs15))
          go_wp2_with fail
          go_ret
          exact ⟨by first | rfl | (simp; done), by have hz := HBu.out; exact bl_⟩
end Go.Proofs.YtphlojgmfkgeiaaGreatDoor
