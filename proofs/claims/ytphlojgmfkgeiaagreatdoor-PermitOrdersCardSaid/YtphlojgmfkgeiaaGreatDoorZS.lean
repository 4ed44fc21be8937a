/- Reference: CheckOrder. -/
import Derived.Test.YtphlojgmfkgeiaaGreatDoorZR
namespace Go.Proofs.YtphlojgmfkgeiaaGreatDoor
open Go.RowKit Go.Sort Go.Shelf
set_option linter.unusedSimpArgs false
set_option linter.unusedVariables false
attribute [local go_sem] cell_if frozen_if grow_cell
set_option maxRecDepth 100000 in
set_option maxHeartbeats 8000000 in
theorem rCheckOrder_any (B : Nat) (A0 A1 A2 : Option Addr) (n0 n1 n2 c0 c1 c2 : Nat) (y : Yd) (w : World) (hY : YdAt w B A0 A1 A2 n0 n1 n2 y) (hB : B ≤ w.heap.size) (hyE : yardE y = 0) (hF : Fits y) (gk gs : ByteArray) (hk : goalB gk = true) (h0 : 0 ≤ secAtB y gs) (A : Option Addr) (n c : Nat) (l : List ByteArray) (hr : Reads w w.heap.size 1 A n (l.map .string)) (hn : n ≤ 100000) :
    Calls Tryz.prog 56 #[.agg #[.slice A0 n0 c0, .slice A1 n1 c1, .slice A2 n2 c2], .agg #[.string gk, .string gs], .slice A n c] w fun e w' => e = .returned (.int .i64 (ordCE y gk gs l)) ∧ Below w.heap.size w w' := by
  have hl0 := (sec_at hY.hs).1
  have hl1 := (sw_at hY.hw).1
  have hl2 := (pm_at hY.hp).1
  have hll : l.length = n := by simpa using hr.1
  have HMv := Lib.hid (fun W D0 D1 D2 d0 d1 d2 z nm (hz : YdAt W W.heap.size D0 D1 D2 z.s.length z.w.length z.p.length z) (he : yardE z = 0) => (rMove_any W.heap.size D0 D1 D2 z.s.length z.w.length z.p.length d0 d1 d2 z W hz (Nat.le_refl _) (yard_ok he).1 nm).mono fun _ _ h => YdRRes.mv h)
  have HHo := Lib.hid (fun W D0 D1 D2 d0 d1 d2 z (hz : YdAt W W.heap.size D0 D1 D2 z.s.length z.w.length z.p.length z) (he : yardE z = 0) (h0 : 0 ≤ secAtB z gs) => rHolds_any W.heap.size D0 D1 D2 z.s.length z.w.length z.p.length d0 d1 d2 z W hz (Nat.le_refl _) (yard_ok he).1 gk gs hk h0)
  have HWw := Lib.hid (fun b W => rWhen_any b 32 W)
  have HOw := Lib.hid (fun W (hW : Below w.heap.size w W) => rOwn_any B A0 A1 A2 n0 n1 n2 c0 c1 c2 y W (hY.below (hW.mono hB)) (by have := hW.size; omega) (by have := hF.s9; omega) (by have := hF.w9; omega) (by have := hF.p9; omega))
  have HR := Lib.hid hr
  have HLL := Lib.hid hll
  have HL0 := Lib.hid hl0
  have HL1 := Lib.hid hl1
  have HL2 := Lib.hid hl2
  have HG0 := Lib.hid (And.intro hyE (And.intro hF h0))
  by_cases hh : (256 : Int) < (n : Int)
  case pos =>
    have HV : Hid (ordCE y gk gs l = 5) := by
      show _ = _
      unfold ordCE
      rw [HLL.out, decide_eq_true hh]
      rfl
    rw [HV.out]
    clear hY hF hyE hr hll HV HMv HHo HWw h0 hk hl0 hl1 hl2
    go_enter Tryz.func56, Tryz.ntmps56
    go_wp2_with fail
    go_ret
    exact ⟨rfl, bl_⟩
  case neg =>
    have HV : Hid (ordCE y gk gs l = ordGo gk gs y (l.drop 0)) := by
      show _ = _
      unfold ordCE
      rw [HLL.out, decide_eq_false hh, List.drop_zero]
      rfl
    rw [HV.out]
    clear hY hF hyE hr hll h0 hk hl0 hl1 hl2
    go_enter Tryz.func56, Tryz.ntmps56
    go_wp2_with fail
    refine (HOw.out _ bl_).mono ?_
    rintro e w2 ⟨D0, D1, D2, d0, d1, d2, rfl, hO, hb2⟩
    have hs2 := hb2.size
    (try simp at hs2)
    have BY2 := Lib.hid (bk_ : Blk w2 w.heap.size 26 #[.slice A0 n0 c0, .slice A1 n1 c1, .slice A2 n2 c2])
    have BG2 := Lib.hid (bk_ : Blk w2 (w.heap.size + 1) 28 #[.string gk, .string gs])
    have HB2 := Lib.hid (bl_ : Below w.heap.size w w2)
    have HO := Lib.hid (YdR.of_row (X := [w2.heap.size]) hO (fun x hx => by simp at hx; omega))
    clear hb2 hO
    have hb2 := HB2.out
    go_wp2_with fail
    go_loopw [8] (fun i wr => ∃ (k : Nat) (z : Yd) (D0 D1 D2 : Option Addr) (d0 d1 d2 : Nat), i = .int .i64 k ∧ k ≤ n ∧ Hid (ordGo gk gs y (l.drop 0) = ordGo gk gs z (l.drop k)) ∧ OrI w w2.heap.size 26 z gs D0 D1 D2 d0 d1 d2 wr ∧ Blk wr (w.heap.size + 1) 28 #[.string gk, .string gs]) (fun i _ => n - (intOf i).toNat)
    case atStart =>
      have bg := BG2.out
      refine ⟨0, y, D0, D1, D2, d0, d1, d2, rfl, by omega, Lib.hid rfl, ⟨bk_, HO.out.ex xs_, HG0.out.1, HG0.out.2.1, HG0.out.2.2, bl_⟩, bk_⟩
    case round =>
      clear BY2 BG2 HB2 HG0 HV HOw HL0 HL1 HL2 HO
      obtain ⟨k, z, D0, D1, D2, d0, d1, d2, rfl, hkn, hV, hI, hG⟩ := hrel
      have hb := hI.low
      have hsr := hb.size
      have hsw2 : w.heap.size + 1 + 1 ≤ w2.heap.size := by first | omega | (have := hb2.size; simp at this; omega)
      clear hb2 hs2
      have cZ := hI.blk.cell
      have lZ := hI.blk.lt
      have cG := hG.cell
      have lG := hG.lt
      have HI := Lib.hid hI
      have B8 := Lib.hid hI.blk
      have BG := Lib.hid hG
      have HK := Lib.hid hV.out
      clear hI hG hV
      by_cases hlt : k < n
      · have hkl : k < l.length := by rw [HLL.out]; exact hlt
        obtain ⟨b, o, eA, hbb, hcs⟩ := HR.out.2 (by omega)
        have kb : ∀ i, wr.cell? ⟨b, i, none⟩ = w.cell? ⟨b, i, none⟩ := fun i => hb.cell (p := ⟨b, i, none⟩) (by simp; omega)
        have hbw : b < wr.heap.size := by omega
        have z0 := (kb _).trans (hcs k (.string l[k]) (by simp [hkl]))
        clear kb hcs
        subst eA
        have HD := Lib.hid (List.drop_eq_getElem_cons hkl)
        rw [HD.out] at HK
        generalize l[k] = nm at *
        have HM := Lib.hid (fun W hz => HMv.out W D0 D1 D2 d0 d1 d2 z nm hz HI.out.ok)
        by_cases hm : moveR z nm = 0
        case neg =>
          have HKn := Lib.hid (HK.out.trans (ordGo_no hm))
          clear HK HD
          generalize moveR z nm = er at *
          generalize z.mv (atB z nm).toNat = z' at *
          go_wp2_with fail
          (refine wp_region_calm [] [0, 1, 2, 3, 4] 7 (by kernel_rfl) rfl (by kernel_rfl) (by kernel_rfl) (by kernel_rfl) ?_; simp only [pickB, List.filterMap_cons, List.filterMap_nil, List.getElem?_toArray, List.getElem?_cons_zero, List.getElem?_cons_succ]; (repeat (first | ((with_reducible refine quietL_plain rfl (fun K hK => ?_)); (apply Exists.intro; refine ⟨fun wx hx => ?_, ?_⟩; (· (have hcx := ifs_ex hx); simp [go_sem, *, ↓IntWalk.iteOmega] <;> (first | rfl | exact ⟨rfl, rfl⟩ | fail)); (simp only [Act.put, List.setIfInBounds_toArray, List.set_cons_zero, List.set_cons_succ]; refine hK _ ?_; clear hK K))) | ((with_reducible refine quietL_skip (by with_unfolding_all rfl) ?_); simp only [Act.put, List.setIfInBounds_toArray, List.set_cons_zero, List.set_cons_succ]) | ((with_reducible refine quietL_want (by with_unfolding_all rfl) (fun K hK => ?_)); (apply Exists.intro; refine ⟨fun wx hx => ?_, ?_⟩; (· (have hcx := ifs_ex hx); simp [go_sem, *, ↓IntWalk.iteOmega] <;> (first | rfl | exact ⟨rfl, rfl⟩ | fail)); (simp only [Act.put, List.setIfInBounds_toArray, List.set_cons_zero, List.set_cons_succ]; refine hK _ ?_; clear hK K))))); refine quietL_nil ?_)
          apply anyB_floatU 5 9 5 9 _ (AlF wr.heap.size 26 #[.slice none 0 0, .slice none 0 0, .slice none 0 0])
          case hn => rfl
          case hof => rfl
          case hoi => rfl
          case hgf => rfl
          case hgi => rfl
          case hk => exact AlF.kept
          case hT => decide +kernel
          case h0 => decide +kernel
          case hF => decide +kernel
          case hl => rfl
          case ha => first | rfl | simp [Act.put]
          case hL => rfl
          case hfl =>
            intro u W hW K hK
            have hsW := hW.size
            have h := hK (.pointer (some ⟨W.heap.size, 0, none⟩)) (W.alloc (.cells #[.slice none 0 0, .slice none 0 0, .slice none 0 0] 26)) xs_ ⟨_, rfl, Blk.new _ _ _, hsW⟩ bl_
            clear hK
            simp only [Act.put, List.setIfInBounds_toArray, List.set_cons_zero, List.set_cons_succ] at h ⊢
            go_wp2
            exact h
          case hst =>
            intro p u W fuel hf hu hW K hK
            have hsW := hW.size
            simp only [Act.put, List.setIfInBounds_toArray, List.set_cons_zero, List.set_cons_succ]
            go_wp2_with fail
            refine (HM.out _ (HI.out.yd _ xs_)).mono ?_
            rintro e W1 (⟨h0, _⟩ | ⟨h0, rfl, hb1⟩)
            · exact absurd h0 hm
            have hs1 := hb1.size
            go_wp2
            refine ⟨xs_, ?_⟩
            cases p with
            | true =>
              obtain ⟨b9, rfl, B9, l9⟩ := hu rfl
              have l9a := B9.lt
              replace B9 := B9.kept hb1
              have h89 : w2.heap.size ≠ b9 := by omega
              have hG9 : w.heap.size + 1 ≠ b9 := by omega
              refine anyB_more 5 fuel _ _ _ (by simpa using hf) ?_
              clear hu hf cZ cG z0
              show anyB _ _ _ _ _ _ 5 #[true, true, true, true, true, true, false, false, false, true, false, false] _ _
              (refine anyB_quiet_at (by kernel_rfl) calm_panic xs_ 2 [6, 7, 8] _ _ (by kernel_rfl) (by decide +kernel) ?_; simp only [pickB, List.filterMap_cons, List.filterMap_nil, List.getElem?_toArray, List.getElem?_cons_zero, List.getElem?_cons_succ]; (repeat ((with_reducible refine quietL_plain rfl (fun K hK => ?_)); (apply Exists.intro; refine ⟨fun wx hx => ?_, ?_⟩; (· (have hcx := ifs_ex hx); simp [go_sem, *, ↓IntWalk.iteOmega] <;> (first | rfl | exact ⟨rfl, rfl⟩ | fail)); (simp only [Act.put, List.setIfInBounds_toArray, List.set_cons_zero, List.set_cons_succ]; refine hK _ ?_; clear hK K)))); refine quietL_nil ?_)
              refine anyB_one (i := 10) (by kernel_rfl) rfl rfl ?_
              intro w6 hb6 K6 hK6
              have hs6 := hb6.size
              have hbw6 := Lib.hid (bl_ : Below wr.heap.size wr w6)
              have k9 := B9.kept hb6
              have k8 := Lib.hid (B8.out.kept hbw6.out)
              have kG := Lib.hid (BG.out.kept hbw6.out)
              have c9 := k9.cell
              have f9 := k9.frozen
              have l9' := k9.lt
              go_wp2
              refine ⟨xs_, ?_⟩
              have s9 := Lib.hid (k9.set3 (.slice none 0 0) (.slice none 0 0) (.slice none 0 0))
              have s8 := Lib.hid (k8.out.far3 h89 (.slice none 0 0) (.slice none 0 0) (.slice none 0 0))
              have sG := Lib.hid (kG.out.far3 hG9 (.slice none 0 0) (.slice none 0 0) (.slice none 0 0))
              have hbs := Lib.hid (below_set3 hbw6.out l9 (.slice none 0 0) (.slice none 0 0) (.slice none 0 0))
              clear k9 k8 kG c9 f9 l9'
              refine anyB_one (i := 11) (by kernel_rfl) rfl rfl ?_
              intro w7 hb7 K7 hK7
              have hs7 := hb7.size
              (try simp at hs7)
              go_wp2
              refine ⟨xs_, ?_⟩
              refine anyB_end (by kernel_rfl) ?_
              intro w8 hb8
              have hs8 := hb8.size
              simp only [Calm]
              have hq := hbs.out.size
              have hb8r := hb.trans ((hbs.out.trans ((hb7.mono hq).trans (hb8.mono (Nat.le_trans hq hb7.size)))).mono hsr)
              clear hb8 hb7 hb6 hb1 hW hbs hbw6 s9 s8 sG hb
              have HB8 := Lib.hid hb8r
              have hs8r := HB8.out.size
              clear hb8r
              go_wp2_with fail
              go_ret
              exact ⟨by rw [HKn.out]; rfl, HB8.out⟩
            | false =>
              refine anyB_more 6 fuel _ _ _ (by simpa using hf) ?_
              clear hu hf cZ cG z0
              show anyB _ _ _ _ _ _ 6 #[true, true, true, true, true, true, false, false, false, false, false, false] _ _
              (refine anyB_quiet_at (by kernel_rfl) calm_panic xs_ 3 [6, 7, 8] _ _ (by kernel_rfl) (by decide +kernel) ?_; simp only [pickB, List.filterMap_cons, List.filterMap_nil, List.getElem?_toArray, List.getElem?_cons_zero, List.getElem?_cons_succ]; (repeat ((with_reducible refine quietL_plain rfl (fun K hK => ?_)); (apply Exists.intro; refine ⟨fun wx hx => ?_, ?_⟩; (· (have hcx := ifs_ex hx); simp [go_sem, *, ↓IntWalk.iteOmega] <;> (first | rfl | exact ⟨rfl, rfl⟩ | fail)); (simp only [Act.put, List.setIfInBounds_toArray, List.set_cons_zero, List.set_cons_succ]; refine hK _ ?_; clear hK K)))); refine quietL_nil ?_)
              refine anyB_one (i := 9) (by kernel_rfl) rfl rfl ?_
              intro w5 hb5 K5 hK5
              have hs5 := hb5.size
              go_wp2
              refine ⟨xs_, ?_⟩
              have B9 := Blk.new w5 26 #[.slice none 0 0, .slice none 0 0, .slice none 0 0]
              have l9 : wr.heap.size ≤ w5.heap.size := by omega
              have h89 : w2.heap.size ≠ w5.heap.size := by omega
              have hG9 : w.heap.size + 1 ≠ w5.heap.size := by omega
              refine anyB_one (i := 10) (by kernel_rfl) rfl rfl ?_
              intro w6 hb6 K6 hK6
              have hs6 := hb6.size
              have hbw6 := Lib.hid (bl_ : Below wr.heap.size wr w6)
              have k9 := B9.kept hb6
              have k8 := Lib.hid (B8.out.kept hbw6.out)
              have kG := Lib.hid (BG.out.kept hbw6.out)
              have c9 := k9.cell
              have f9 := k9.frozen
              have l9' := k9.lt
              go_wp2
              refine ⟨xs_, ?_⟩
              have s9 := Lib.hid (k9.set3 (.slice none 0 0) (.slice none 0 0) (.slice none 0 0))
              have s8 := Lib.hid (k8.out.far3 h89 (.slice none 0 0) (.slice none 0 0) (.slice none 0 0))
              have sG := Lib.hid (kG.out.far3 hG9 (.slice none 0 0) (.slice none 0 0) (.slice none 0 0))
              have hbs := Lib.hid (below_set3 hbw6.out l9 (.slice none 0 0) (.slice none 0 0) (.slice none 0 0))
              clear k9 k8 kG c9 f9 l9'
              refine anyB_one (i := 11) (by kernel_rfl) rfl rfl ?_
              intro w7 hb7 K7 hK7
              have hs7 := hb7.size
              (try simp at hs7)
              go_wp2
              refine ⟨xs_, ?_⟩
              refine anyB_end (by kernel_rfl) ?_
              intro w8 hb8
              have hs8 := hb8.size
              simp only [Calm]
              have hq := hbs.out.size
              have hb8r := hb.trans ((hbs.out.trans ((hb7.mono hq).trans (hb8.mono (Nat.le_trans hq hb7.size)))).mono hsr)
              clear hb8 hb7 hb6 hb1 hW hbs hbw6 s9 s8 sG hb
              have HB8 := Lib.hid hb8r
              have hs8r := HB8.out.size
              clear hb8r
              go_wp2_with fail
              go_ret
              exact ⟨by rw [HKn.out]; rfl, HB8.out⟩
        case pos =>
          have HKn := Lib.hid (HK.out.trans (ordGo_ok hm))
          have hi' := moveR_ok HI.out.ok hm
          have hf' := fits_mv HI.out.fit (atB z nm).toNat
          have hsc' : 0 ≤ secAtB (z.mv (atB z nm).toNat) gs := HI.out.sec
          have HG' := Lib.hid (And.intro hi' (And.intro hf' hsc'))
          clear HK HD hi' hf' hsc'
          rw [hm] at HM
          generalize z.mv (atB z nm).toNat = z' at *
          go_wp2_with fail
          (refine wp_region_calm [] [0, 1, 2, 3, 4] 7 (by kernel_rfl) rfl (by kernel_rfl) (by kernel_rfl) (by kernel_rfl) ?_; simp only [pickB, List.filterMap_cons, List.filterMap_nil, List.getElem?_toArray, List.getElem?_cons_zero, List.getElem?_cons_succ]; (repeat (first | ((with_reducible refine quietL_plain rfl (fun K hK => ?_)); (apply Exists.intro; refine ⟨fun wx hx => ?_, ?_⟩; (· (have hcx := ifs_ex hx); simp [go_sem, *, ↓IntWalk.iteOmega] <;> (first | rfl | exact ⟨rfl, rfl⟩ | fail)); (simp only [Act.put, List.setIfInBounds_toArray, List.set_cons_zero, List.set_cons_succ]; refine hK _ ?_; clear hK K))) | ((with_reducible refine quietL_skip (by with_unfolding_all rfl) ?_); simp only [Act.put, List.setIfInBounds_toArray, List.set_cons_zero, List.set_cons_succ]) | ((with_reducible refine quietL_want (by with_unfolding_all rfl) (fun K hK => ?_)); (apply Exists.intro; refine ⟨fun wx hx => ?_, ?_⟩; (· (have hcx := ifs_ex hx); simp [go_sem, *, ↓IntWalk.iteOmega] <;> (first | rfl | exact ⟨rfl, rfl⟩ | fail)); (simp only [Act.put, List.setIfInBounds_toArray, List.set_cons_zero, List.set_cons_succ]; refine hK _ ?_; clear hK K))))); refine quietL_nil ?_)
          apply anyB_floatU 5 9 5 9 _ (AlF wr.heap.size 26 #[.slice none 0 0, .slice none 0 0, .slice none 0 0])
          case hn => rfl
          case hof => rfl
          case hoi => rfl
          case hgf => rfl
          case hgi => rfl
          case hk => exact AlF.kept
          case hT => decide +kernel
          case h0 => decide +kernel
          case hF => decide +kernel
          case hl => rfl
          case ha => first | rfl | simp [Act.put]
          case hL => rfl
          case hfl =>
            intro u W hW K hK
            have hsW := hW.size
            have h := hK (.pointer (some ⟨W.heap.size, 0, none⟩)) (W.alloc (.cells #[.slice none 0 0, .slice none 0 0, .slice none 0 0] 26)) xs_ ⟨_, rfl, Blk.new _ _ _, hsW⟩ bl_
            clear hK
            simp only [Act.put, List.setIfInBounds_toArray, List.set_cons_zero, List.set_cons_succ] at h ⊢
            go_wp2
            exact h
          case hst =>
            intro p u W fuel hf hu hW K hK
            have hsW := hW.size
            simp only [Act.put, List.setIfInBounds_toArray, List.set_cons_zero, List.set_cons_succ]
            go_wp2_with fail
            refine (HM.out _ (HI.out.yd _ xs_)).mono ?_
            rintro e W1 (⟨_, E0, E1, E2, e0, e1, e2, rfl, hyd, hb1⟩ | ⟨h0, _⟩)
            case inr => exact absurd rfl h0
            have hs1 := hb1.size
            go_wp2
            refine ⟨xs_, ?_⟩
            cases p with
            | true =>
              obtain ⟨b9, rfl, B9, l9⟩ := hu rfl
              have l9a := B9.lt
              have HE := Lib.hid (hyd [w2.heap.size, b9] (fun x hx => by simp at hx; omega))
              clear hyd
              replace B9 := B9.kept hb1
              have h89 : w2.heap.size ≠ b9 := by omega
              have hG9 : w.heap.size + 1 ≠ b9 := by omega
              refine anyB_more 5 fuel _ _ _ (by simpa using hf) ?_
              clear hu hf cZ cG z0
              show anyB _ _ _ _ _ _ 5 #[true, true, true, true, true, true, false, false, false, true, false, false] _ _
              (refine anyB_quiet_at (by kernel_rfl) calm_panic xs_ 2 [6, 7, 8] _ _ (by kernel_rfl) (by decide +kernel) ?_; simp only [pickB, List.filterMap_cons, List.filterMap_nil, List.getElem?_toArray, List.getElem?_cons_zero, List.getElem?_cons_succ]; (repeat ((with_reducible refine quietL_plain rfl (fun K hK => ?_)); (apply Exists.intro; refine ⟨fun wx hx => ?_, ?_⟩; (· (have hcx := ifs_ex hx); simp [go_sem, *, ↓IntWalk.iteOmega] <;> (first | rfl | exact ⟨rfl, rfl⟩ | fail)); (simp only [Act.put, List.setIfInBounds_toArray, List.set_cons_zero, List.set_cons_succ]; refine hK _ ?_; clear hK K)))); refine quietL_nil ?_)
              refine anyB_one (i := 10) (by kernel_rfl) rfl rfl ?_
              intro w6 hb6 K6 hK6
              have hs6 := hb6.size
              have hbw6 := Lib.hid (bl_ : Below wr.heap.size wr w6)
              have k9 := B9.kept hb6
              have k8 := Lib.hid (B8.out.kept hbw6.out)
              have kG := Lib.hid (BG.out.kept hbw6.out)
              have c9 := k9.cell
              have f9 := k9.frozen
              have l9' := k9.lt
              go_wp2
              refine ⟨xs_, ?_⟩
              have s9 := Lib.hid (k9.set3 (.slice E0 z'.s.length e0) (.slice E1 z'.w.length e1) (.slice E2 z'.p.length e2))
              have s8 := Lib.hid (k8.out.far3 h89 (.slice E0 z'.s.length e0) (.slice E1 z'.w.length e1) (.slice E2 z'.p.length e2))
              have sG := Lib.hid (kG.out.far3 hG9 (.slice E0 z'.s.length e0) (.slice E1 z'.w.length e1) (.slice E2 z'.p.length e2))
              have hbs := Lib.hid (below_set3 hbw6.out l9 (.slice E0 z'.s.length e0) (.slice E1 z'.w.length e1) (.slice E2 z'.p.length e2))
              clear k9 k8 kG c9 f9 l9'
              refine anyB_one (i := 11) (by kernel_rfl) rfl rfl ?_
              intro w7 hb7 K7 hK7
              have hs7 := hb7.size
              (try simp at hs7)
              go_wp2
              refine ⟨xs_, ?_⟩
              refine anyB_end (by kernel_rfl) ?_
              intro w8 hb8
              have hs8 := hb8.size
              simp only [Calm]
              have HZ8 := Lib.hid (YdR.turn (Y := [w2.heap.size]) (HE.out.ex (xs_ : Ex [w2.heap.size, b9] W1 w8)) (Ex.refl _ _) (fun x hx => .inl (by simp at hx; simp [hx])))
              have hq := hbs.out.size
              have hb8r := hb.trans ((hbs.out.trans ((hb7.mono hq).trans (hb8.mono (Nat.le_trans hq hb7.size)))).mono hsr)
              have HB8 := Lib.hid hb8r
              have t9 := Lib.hid ((s9.out.kept hb7).kept hb8)
              have t8 := Lib.hid ((s8.out.kept hb7).kept hb8)
              have tG := Lib.hid ((sG.out.kept hb7).kept hb8)
              have hs8r := HB8.out.size
              have c9 := t9.out.cell
              have l9'' := t9.out.lt
              have c8 := t8.out.cell
              have f8 := t8.out.frozen
              have l8 := t8.out.lt
              clear hb8 hb7 hb6 hb1 hW hb8r s9 s8 sG hbs hbw6 HE hb
              go_wp2_with fail
              refine ⟨⟨k + 1, z', E0, E1, E2, e0, e1, e2, by simp, by omega, Lib.hid HKn.out, ⟨t8.out.set3 _ _ _, HZ8.out.ex xs_, HG'.out.1, HG'.out.2.1, HG'.out.2.2, below_set3 HB8.out (by omega) _ _ _⟩, tG.out.far3 (by omega) _ _ _⟩, ?_⟩
              simp only [intOf]
              omega
            | false =>
              refine anyB_more 6 fuel _ _ _ (by simpa using hf) ?_
              clear hu hf cZ cG z0
              show anyB _ _ _ _ _ _ 6 #[true, true, true, true, true, true, false, false, false, false, false, false] _ _
              (refine anyB_quiet_at (by kernel_rfl) calm_panic xs_ 3 [6, 7, 8] _ _ (by kernel_rfl) (by decide +kernel) ?_; simp only [pickB, List.filterMap_cons, List.filterMap_nil, List.getElem?_toArray, List.getElem?_cons_zero, List.getElem?_cons_succ]; (repeat ((with_reducible refine quietL_plain rfl (fun K hK => ?_)); (apply Exists.intro; refine ⟨fun wx hx => ?_, ?_⟩; (· (have hcx := ifs_ex hx); simp [go_sem, *, ↓IntWalk.iteOmega] <;> (first | rfl | exact ⟨rfl, rfl⟩ | fail)); (simp only [Act.put, List.setIfInBounds_toArray, List.set_cons_zero, List.set_cons_succ]; refine hK _ ?_; clear hK K)))); refine quietL_nil ?_)
              refine anyB_one (i := 9) (by kernel_rfl) rfl rfl ?_
              intro w5 hb5 K5 hK5
              have hs5 := hb5.size
              go_wp2
              refine ⟨xs_, ?_⟩
              have HE := Lib.hid (hyd [w2.heap.size, w5.heap.size] (fun x hx => by simp at hx; omega))
              clear hyd
              have B9 := Blk.new w5 26 #[.slice none 0 0, .slice none 0 0, .slice none 0 0]
              have l9 : wr.heap.size ≤ w5.heap.size := by omega
              have h89 : w2.heap.size ≠ w5.heap.size := by omega
              have hG9 : w.heap.size + 1 ≠ w5.heap.size := by omega
              refine anyB_one (i := 10) (by kernel_rfl) rfl rfl ?_
              intro w6 hb6 K6 hK6
              have hs6 := hb6.size
              have hbw6 := Lib.hid (bl_ : Below wr.heap.size wr w6)
              have k9 := B9.kept hb6
              have k8 := Lib.hid (B8.out.kept hbw6.out)
              have kG := Lib.hid (BG.out.kept hbw6.out)
              have c9 := k9.cell
              have f9 := k9.frozen
              have l9' := k9.lt
              go_wp2
              refine ⟨xs_, ?_⟩
              have s9 := Lib.hid (k9.set3 (.slice E0 z'.s.length e0) (.slice E1 z'.w.length e1) (.slice E2 z'.p.length e2))
              have s8 := Lib.hid (k8.out.far3 h89 (.slice E0 z'.s.length e0) (.slice E1 z'.w.length e1) (.slice E2 z'.p.length e2))
              have sG := Lib.hid (kG.out.far3 hG9 (.slice E0 z'.s.length e0) (.slice E1 z'.w.length e1) (.slice E2 z'.p.length e2))
              have hbs := Lib.hid (below_set3 hbw6.out l9 (.slice E0 z'.s.length e0) (.slice E1 z'.w.length e1) (.slice E2 z'.p.length e2))
              clear k9 k8 kG c9 f9 l9'
              refine anyB_one (i := 11) (by kernel_rfl) rfl rfl ?_
              intro w7 hb7 K7 hK7
              have hs7 := hb7.size
              (try simp at hs7)
              go_wp2
              refine ⟨xs_, ?_⟩
              refine anyB_end (by kernel_rfl) ?_
              intro w8 hb8
              have hs8 := hb8.size
              simp only [Calm]
              have HZ8 := Lib.hid (YdR.turn (Y := [w2.heap.size]) (HE.out.ex (xs_ : Ex [w2.heap.size, w5.heap.size] W1 w8)) (Ex.refl _ _) (fun x hx => .inl (by simp at hx; simp [hx])))
              have hq := hbs.out.size
              have hb8r := hb.trans ((hbs.out.trans ((hb7.mono hq).trans (hb8.mono (Nat.le_trans hq hb7.size)))).mono hsr)
              have HB8 := Lib.hid hb8r
              have t9 := Lib.hid ((s9.out.kept hb7).kept hb8)
              have t8 := Lib.hid ((s8.out.kept hb7).kept hb8)
              have tG := Lib.hid ((sG.out.kept hb7).kept hb8)
              have hs8r := HB8.out.size
              have c9 := t9.out.cell
              have l9'' := t9.out.lt
              have c8 := t8.out.cell
              have f8 := t8.out.frozen
              have l8 := t8.out.lt
              clear hb8 hb7 hb6 hb1 hW hb8r s9 s8 sG hbs hbw6 HE hb
              go_wp2_with fail
              refine ⟨⟨k + 1, z', E0, E1, E2, e0, e1, e2, by simp, by omega, Lib.hid HKn.out, ⟨t8.out.set3 _ _ _, HZ8.out.ex xs_, HG'.out.1, HG'.out.2.1, HG'.out.2.2, below_set3 HB8.out (by omega) _ _ _⟩, tG.out.far3 (by omega) _ _ _⟩, ?_⟩
              simp only [intOf]
              omega
      · have hkn' : k = n := by omega
        subst hkn'
        have HKn := Lib.hid (HK.out.trans (by rw [List.drop_of_length_le (by rw [HLL.out]; exact Nat.le_refl _), ordGo_nil]))
        have HH := Lib.hid (fun W hz => HHo.out W D0 D1 D2 d0 d1 d2 z hz HI.out.ok HI.out.sec)
        generalize holdsB gk gs z = q at *
        go_wp2_with fail
        refine (HH.out _ (HI.out.yd _ (Ex.refl _ _))).mono ?_
        (rintro e w3 ⟨rfl, hb3⟩; have hs3 := hb3.size; (try simp at hs3))
        have HB3 := Lib.hid (bl_ : Below w.heap.size w w3)
        go_wp2_with fail
        refine (HWw.out _ _).mono ?_
        rintro e w4 ⟨rfl, rfl⟩
        go_wp2_with fail
        go_ret
        exact ⟨by rw [HKn.out]; rfl, HB3.out⟩
end Go.Proofs.YtphlojgmfkgeiaaGreatDoor
