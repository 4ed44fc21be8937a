/- Reference: Play. -/
import Derived.Test.YtphlojgmfkgeiaaGreatDoorXD
import Derived.Test.YtphlojgmfkgeiaaGreatDoorXF
namespace Go.Proofs.YtphlojgmfkgeiaaGreatDoor
open Go.RowKit Go.Sort Go.Shelf
set_option linter.unusedSimpArgs false
set_option linter.unusedVariables false
attribute [local go_sem] cell_if frozen_if grow_cell
set_option maxRecDepth 100000 in
set_option maxHeartbeats 8000000 in
theorem rPlay_any (B : Nat) (A0 A1 A2 : Option Addr) (n0 n1 n2 c0 c1 c2 : Nat) (y : Yd) (w : World) (hY : YdAt w B A0 A1 A2 n0 n1 n2 y) (hB : B ≤ w.heap.size) (hyE : yardE y = 0) (hF : Fits y) (A : Option Addr) (n c : Nat) (l : List Ac) (hr : Reads w w.heap.size 3 A n (acs l)) (hn : n ≤ 100000) (hs : ∀ x ∈ l, x.n.size ≤ maxLen ∧ x.s.size ≤ maxLen) :
    Calls Tryz.prog 71 #[.agg #[.slice A0 n0 c0, .slice A1 n1 c1, .slice A2 n2 c2], .slice A n c] w (PlU w (playGo y 0 l)) := by
  have hl0 := (sec_at hY.hs).1
  have hl1 := (sw_at hY.hw).1
  have hl2 := (pm_at hY.hp).1
  obtain ⟨hll, hat⟩ := ac_at hr
  have HOw := Lib.hid (fun W (hW : Below w.heap.size w W) => rOwn_any B A0 A1 A2 n0 n1 n2 c0 c1 c2 y W (hY.below (hW.mono hB)) (by have := hW.size; omega) (by have := hF.s9; omega) (by have := hF.w9; omega) (by have := hF.p9; omega))
  have HGr := Lib.hid (fun W D0 D1 D2 d0 d1 d2 z nm sc (hz : YdAt W W.heap.size D0 D1 D2 z.s.length z.w.length z.p.length z) (he : yardE z = 0) (hnm : nm.size ≤ maxLen) => (by
    have h := (rGrant_any W.heap.size D0 D1 D2 z.s.length z.w.length z.p.length d0 d1 d2 z W hz (Nat.le_refl _) (yard_ok he).1 nm sc hnm).mono fun _ _ h => MvR.u h
    rwa [← grantE_R he] at h : Calls Tryz.prog 65 #[.agg #[.slice D0 z.s.length d0, .slice D1 z.w.length d1, .slice D2 z.p.length d2], .string nm, .string sc] W (YdU W (grantE z nm sc) (okY (grantE z nm sc) (grantY z nm sc)))))
  have HMv := Lib.hid (fun W D0 D1 D2 d0 d1 d2 z nm (hz : YdAt W W.heap.size D0 D1 D2 z.s.length z.w.length z.p.length z) (he : yardE z = 0) => (by
    have h := (rMove_any W.heap.size D0 D1 D2 z.s.length z.w.length z.p.length d0 d1 d2 z W hz (Nat.le_refl _) (yard_ok he).1 nm).mono fun _ _ h => MvR.u (YdRRes.mv h)
    rwa [← moveE_R he] at h : Calls Tryz.prog 64 #[.agg #[.slice D0 z.s.length d0, .slice D1 z.w.length d1, .slice D2 z.p.length d2], .string nm] W (YdU W (moveE z nm) (okY (moveE z nm) (z.mv (atB z nm).toNat)))))
  have HRt := Lib.hid (fun W D0 D1 D2 d0 d1 d2 z nm (hz : YdAt W W.heap.size D0 D1 D2 z.s.length z.w.length z.p.length z) (he : yardE z = 0) => (by
    have h := (rReturn_any W.heap.size D0 D1 D2 z.s.length z.w.length z.p.length d0 d1 d2 z W hz (Nat.le_refl _) (yard_ok he).1 nm).mono fun _ _ h => MvR.u h
    rwa [← retE_R he] at h : Calls Tryz.prog 66 #[.agg #[.slice D0 z.s.length d0, .slice D1 z.w.length d1, .slice D2 z.p.length d2], .string nm] W (YdU W (retE z nm) (okY (retE z nm) (retY z nm)))))
  have HAT := Lib.hid hat
  have HLL := Lib.hid hll
  have HSz := Lib.hid hs
  have HG0 := Lib.hid (And.intro hyE hF)
  have HL0 := Lib.hid hl0
  have HL1 := Lib.hid hl1
  have HL2 := Lib.hid hl2
  clear hY hF hyE hr hll hat hs hl0 hl1 hl2
  go_enter Tryz.func71, Tryz.ntmps71
  go_wp2_with fail
  refine (HOw.out _ bl_).mono ?_
  rintro e w2 ⟨D0, D1, D2, d0, d1, d2, rfl, hO, hb2⟩
  have hs2 := hb2.size
  (try simp at hs2)
  have BZ2 := Lib.hid (bk_ : Blk w2 (w.heap.size + 1) 26 #[.slice none 0 0, .slice none 0 0, .slice none 0 0])
  have HB2 := Lib.hid (bl_ : Below w.heap.size w w2)
  have HO := Lib.hid (YdR.of_row (X := [w2.heap.size, w.heap.size + 1]) hO (fun x hx => by simp at hx; rcases hx with rfl | rfl <;> (first | omega | (simp; omega) | (simp; done))))
  clear hb2 hO
  have hb2 := HB2.out
  go_wp2_with fail
  go_loopw [8] (fun i wr => ∃ (k : Nat) (z : Yd) (D0 D1 D2 : Option Addr) (d0 d1 d2 : Nat), i = .int .i64 k ∧ k ≤ n ∧ Hid (playGo y 0 l = playGo z k (l.drop k)) ∧ PlI w w2.heap.size (w.heap.size + 1) 26 z D0 D1 D2 d0 d1 d2 wr ∧ Blk wr (w.heap.size + 1) 26 #[.slice none 0 0, .slice none 0 0, .slice none 0 0]) (fun i _ => n - (intOf i).toNat)
  case atStart =>
    have bz := BZ2.out
    exact ⟨0, y, D0, D1, D2, d0, d1, d2, rfl, by omega, Lib.hid rfl, ⟨bk_, HO.out.ex xs_, HG0.out.1, HG0.out.2, bl_⟩, bz.alloc _⟩
  case round =>
    clear BZ2 HB2 HG0 HOw HL0 HL1 HL2 HO
    obtain ⟨k, z, D0, D1, D2, d0, d1, d2, rfl, hkn, hV, hI, hZ⟩ := hrel
    have hb := hI.low
    have hsr := hb.size
    have hsw2 : w.heap.size + 1 + 1 ≤ w2.heap.size := by first | omega | (have := hb2.size; simp at this; omega)
    clear hb2 hs2
    have cZ := hI.blk.cell
    have lZ := hI.blk.lt
    have HI := Lib.hid hI
    have HZk := Lib.hid hZ
    have HK := Lib.hid hV.out
    clear hI hZ hV
    by_cases hlt : k < n
    · have hkl : k < l.length := by rw [HLL.out]; exact hlt
      obtain ⟨b, o, eA, hbb, z0, z1, z2⟩ := HAT.out k hkl
      have kb : ∀ b i, b < w.heap.size → wr.cell? ⟨b, i, none⟩ = w.cell? ⟨b, i, none⟩ := fun b i h => hb.cell (p := ⟨b, i, none⟩) (by simp; omega)
      rw [← kb _ _ hbb] at z0 z1 z2
      have hbw : b < wr.heap.size := by omega
      clear kb
      subst eA
      have HD := Lib.hid (List.drop_eq_getElem_cons hkl)
      rw [HD.out] at HK
      have hsz := HSz.out _ (List.getElem_mem hkl)
      generalize l[k] = x at *
      have HFx := Lib.hid (fun h => And.intro (act_ok (x := x) h) (act_fits (x := x) HI.out.fit hsz.1 h))
      have HKok := Lib.hid (fun h => HK.out.trans (playGo_ok (x := x) h _ _))
      have HKno := Lib.hid (fun h => HK.out.trans (playGo_no (x := x) h _ _))
      have HG := Lib.hid (fun W hz => HGr.out W D0 D1 D2 d0 d1 d2 z x.n x.s hz HI.out.ok hsz.1)
      have HM := Lib.hid (fun W hz => HMv.out W D0 D1 D2 d0 d1 d2 z x.n hz HI.out.ok)
      have HR := Lib.hid (fun W hz => HRt.out W D0 D1 D2 d0 d1 d2 z x.n hz HI.out.ok)
      clear hsz HK HD
      obtain ⟨xk, xn, xs⟩ := x
      dsimp only at z0 z1 z2
      cases k1 : (xk.toList == [103, 114, 97, 110, 116]) with
      | true =>
        have HE : Hid (actE z ⟨xk, xn, xs⟩ = grantE z xn xs ∧ actY z ⟨xk, xn, xs⟩ = grantY z xn xs) := ⟨if_pos k1, if_pos k1⟩
        change Hid (∀ W hz, Calls _ _ _ W (YdU W (grantE z xn xs) (okY (grantE z xn xs) (grantY z xn xs)))) at HG
        rw [← HE.out.1, ← HE.out.2] at HG
        clear HE HM HR
        by_cases hm : actE z ⟨xk, xn, xs⟩ = 0
        case' neg =>
          have HKn := Lib.hid (HKno.out hm)
          clear HKok HKno HFx
          generalize hzz : okY (actE z ⟨xk, xn, xs⟩) (actY z ⟨xk, xn, xs⟩) = zz at *
          rw [okY_no hm] at hzz
          have HZZ := Lib.hid hzz.symm
          clear hzz
          generalize actE z ⟨xk, xn, xs⟩ = er at *
        case' pos =>
          have HKn := Lib.hid (HKok.out hm)
          have HG' := Lib.hid (HFx.out hm)
          clear HKok HKno HFx
          generalize hzz : okY (actE z ⟨xk, xn, xs⟩) (actY z ⟨xk, xn, xs⟩) = zz at *
          rw [hm, okY_ok] at hzz
          rw [hzz] at HKn HG'
          clear hzz
          generalize hrr : actE z ⟨xk, xn, xs⟩ = er at *
          subst hm
          clear hrr
        case neg =>
          go_wp2_with fail
          (refine wp_region_calm [wr.heap.size] [0, 1, 2, 3, 4, 5, 6, 7, 8, 9, 10] 6 (by kernel_rfl) rfl (by kernel_rfl) (by kernel_rfl) (by kernel_rfl) ?_; simp only [pickB, List.filterMap_cons, List.filterMap_nil, List.getElem?_toArray, List.getElem?_cons_zero, List.getElem?_cons_succ]; (repeat (first | ((with_reducible refine quietL_plain rfl (fun K hK => ?_)); (apply Exists.intro; refine ⟨fun wx hx => ?_, ?_⟩; (· (have hcx := ifs_ex hx); simp [go_sem, *, ↓IntWalk.iteOmega] <;> (first | rfl | exact ⟨rfl, rfl⟩ | fail)); (simp only [Act.put, List.setIfInBounds_toArray, List.set_cons_zero, List.set_cons_succ]; refine hK _ ?_; clear hK K))) | ((with_reducible refine quietL_skip (by with_unfolding_all rfl) ?_); simp only [Act.put, List.setIfInBounds_toArray, List.set_cons_zero, List.set_cons_succ]) | ((with_reducible refine quietL_want (by with_unfolding_all rfl) (fun K hK => ?_)); (apply Exists.intro; refine ⟨fun wx hx => ?_, ?_⟩; (· (have hcx := ifs_ex hx); simp [go_sem, *, ↓IntWalk.iteOmega] <;> (first | rfl | exact ⟨rfl, rfl⟩ | fail)); (simp only [Act.put, List.setIfInBounds_toArray, List.set_cons_zero, List.set_cons_succ]; refine hK _ ?_; clear hK K))))); refine quietL_nil ?_)
          (refine anyB_one (i := 11) (by kernel_rfl) rfl rfl ?_; intro w3 hb3 K hK; have hs3 := hb3.size; (try simp at hs3); go_wp2_with fail)
          refine (HG.out _ (HI.out.yd _ xs_)).mono ?_
          rintro e w4 ⟨E0, E1, E2, e0, e1, e2, rfl, hyd, hb4⟩
          have hs4 := hb4.size
          have HE := Lib.hid (hyd [wr.heap.size, w2.heap.size, w.heap.size + 1] (fun x hx => by simp at hx; left; omega))
          clear hyd
          go_wp2
          refine ⟨xs_, ?_⟩
          (refine anyB_quiet_at (by kernel_rfl) calm_panic xs_ 2 [12, 13, 14] _ _ (by kernel_rfl) (by decide +kernel) ?_; simp only [pickB, List.filterMap_cons, List.filterMap_nil, List.getElem?_toArray, List.getElem?_cons_zero, List.getElem?_cons_succ]; (repeat ((with_reducible refine quietL_plain rfl (fun K hK => ?_)); (apply Exists.intro; refine ⟨fun wx hx => ?_, ?_⟩; (· (have hcx := ifs_ex hx); simp [go_sem, *, ↓IntWalk.iteOmega] <;> (first | rfl | exact ⟨rfl, rfl⟩ | fail)); (simp only [Act.put, List.setIfInBounds_toArray, List.set_cons_zero, List.set_cons_succ]; refine hK _ ?_; clear hK K)))); refine quietL_nil ?_)
          refine anyB_one (i := 15) (by kernel_rfl) rfl rfl ?_
          intro w6 hb6 K6 hK6
          have hs6 := hb6.size
          have hbA := Lib.hid (bl_ : Below (wr.alloc (.cells #[.slice none 0 0, .slice none 0 0, .slice none 0 0] 26)).heap.size (wr.alloc (.cells #[.slice none 0 0, .slice none 0 0, .slice none 0 0] 26)) w6)
          have k9 := (Blk.new wr 26 #[.slice none 0 0, .slice none 0 0, .slice none 0 0]).kept hbA.out
          have k8 := (HI.out.blk.alloc (.cells #[.slice none 0 0, .slice none 0 0, .slice none 0 0] 26)).kept hbA.out
          have kZ := (HZk.out.alloc (.cells #[.slice none 0 0, .slice none 0 0, .slice none 0 0] 26)).kept hbA.out
          have hbw6 := Lib.hid ((hb.alloc hsr (.cells #[.slice none 0 0, .slice none 0 0, .slice none 0 0] 26)).trans (hbA.out.mono (by simp; omega)))
          have c9 := k9.cell
          have f9 := k9.frozen
          have l9 := k9.lt
          go_wp2
          refine ⟨xs_, ?_⟩
          have s9 := Lib.hid (k9.set3 (.slice E0 zz.s.length e0) (.slice E1 zz.w.length e1) (.slice E2 zz.p.length e2))
          have s8 := Lib.hid (k8.far3 (show w2.heap.size ≠ wr.heap.size by omega) (.slice E0 zz.s.length e0) (.slice E1 zz.w.length e1) (.slice E2 zz.p.length e2))
          have sZ := Lib.hid (kZ.far3 (show w.heap.size + 1 ≠ wr.heap.size by omega) (.slice E0 zz.s.length e0) (.slice E1 zz.w.length e1) (.slice E2 zz.p.length e2))
          have hbs := Lib.hid (below_set3 hbw6.out hsr (.slice E0 zz.s.length e0) (.slice E1 zz.w.length e1) (.slice E2 zz.p.length e2))
          clear k9 k8 kZ c9 f9 hbw6
          refine anyB_one (i := 16) (by kernel_rfl) rfl rfl ?_
          intro w7 hb7 K7 hK7
          have hs7 := hb7.size
          (try simp at hs7)
          go_wp2
          refine ⟨xs_, ?_⟩
          refine anyB_end (by kernel_rfl) ?_
          intro w8 hb8
          have hs8 := hb8.size
          simp only [Calm]
          have HZ8 := Lib.hid (HE.out.ex (xs_ : Ex [wr.heap.size, w2.heap.size, w.heap.size + 1] w4 w8))
          have t9 := Lib.hid ((s9.out.kept hb7).kept hb8)
          have t8 := Lib.hid ((s8.out.kept hb7).kept hb8)
          have tZ := Lib.hid ((sZ.out.kept hb7).kept hb8)
          have hq := hbs.out.size
          have HB8 := Lib.hid (hbs.out.trans ((hb7.mono hq).trans (hb8.mono (Nat.le_trans hq hb7.size))))
          have hs8r := HB8.out.size
          have l78 : w2.heap.size < wr.heap.size := lZ
          clear hb3 hb4 hb6 hb7 hb8 hbA s9 s8 sZ hbs HE l9 cZ lZ
          have c9 := t9.out.cell
          have f9 := t9.out.frozen
          have l9 := t9.out.lt
          have c8 := t8.out.cell
          have f8 := t8.out.frozen
          have l8 := t8.out.lt
          have cz := tZ.out.cell
          have fz := tZ.out.frozen
          have lz := tZ.out.lt
          go_wp2_with fail
          refine bodyPost_ret (v := .tuple #[zeroY, .int .i64 k, .int .i64 er]) ?_ rfl ?_
          · have ck := (tZ.out.set3 (.slice none 0 0) (.slice none 0 0) (.slice none 0 0)).cell
            simp [results, Tryz.results71, go_sem, zeroY, ck]
          · rw [HKn.out]
            exact ⟨none, none, none, 0, 0, 0, rfl, nil_yd _ _, below_set3 HB8.out (by omega) _ _ _⟩
        case pos =>
          go_wp2_with fail
          (refine wp_region_calm [wr.heap.size] [0, 1, 2, 3, 4, 5, 6, 7, 8, 9, 10] 6 (by kernel_rfl) rfl (by kernel_rfl) (by kernel_rfl) (by kernel_rfl) ?_; simp only [pickB, List.filterMap_cons, List.filterMap_nil, List.getElem?_toArray, List.getElem?_cons_zero, List.getElem?_cons_succ]; (repeat (first | ((with_reducible refine quietL_plain rfl (fun K hK => ?_)); (apply Exists.intro; refine ⟨fun wx hx => ?_, ?_⟩; (· (have hcx := ifs_ex hx); simp [go_sem, *, ↓IntWalk.iteOmega] <;> (first | rfl | exact ⟨rfl, rfl⟩ | fail)); (simp only [Act.put, List.setIfInBounds_toArray, List.set_cons_zero, List.set_cons_succ]; refine hK _ ?_; clear hK K))) | ((with_reducible refine quietL_skip (by with_unfolding_all rfl) ?_); simp only [Act.put, List.setIfInBounds_toArray, List.set_cons_zero, List.set_cons_succ]) | ((with_reducible refine quietL_want (by with_unfolding_all rfl) (fun K hK => ?_)); (apply Exists.intro; refine ⟨fun wx hx => ?_, ?_⟩; (· (have hcx := ifs_ex hx); simp [go_sem, *, ↓IntWalk.iteOmega] <;> (first | rfl | exact ⟨rfl, rfl⟩ | fail)); (simp only [Act.put, List.setIfInBounds_toArray, List.set_cons_zero, List.set_cons_succ]; refine hK _ ?_; clear hK K))))); refine quietL_nil ?_)
          (refine anyB_one (i := 11) (by kernel_rfl) rfl rfl ?_; intro w3 hb3 K hK; have hs3 := hb3.size; (try simp at hs3); go_wp2_with fail)
          refine (HG.out _ (HI.out.yd _ xs_)).mono ?_
          rintro e w4 ⟨E0, E1, E2, e0, e1, e2, rfl, hyd, hb4⟩
          have hs4 := hb4.size
          have HE := Lib.hid (hyd [wr.heap.size, w2.heap.size, w.heap.size + 1] (fun x hx => by simp at hx; left; omega))
          clear hyd
          go_wp2
          refine ⟨xs_, ?_⟩
          (refine anyB_quiet_at (by kernel_rfl) calm_panic xs_ 2 [12, 13, 14] _ _ (by kernel_rfl) (by decide +kernel) ?_; simp only [pickB, List.filterMap_cons, List.filterMap_nil, List.getElem?_toArray, List.getElem?_cons_zero, List.getElem?_cons_succ]; (repeat ((with_reducible refine quietL_plain rfl (fun K hK => ?_)); (apply Exists.intro; refine ⟨fun wx hx => ?_, ?_⟩; (· (have hcx := ifs_ex hx); simp [go_sem, *, ↓IntWalk.iteOmega] <;> (first | rfl | exact ⟨rfl, rfl⟩ | fail)); (simp only [Act.put, List.setIfInBounds_toArray, List.set_cons_zero, List.set_cons_succ]; refine hK _ ?_; clear hK K)))); refine quietL_nil ?_)
          refine anyB_one (i := 15) (by kernel_rfl) rfl rfl ?_
          intro w6 hb6 K6 hK6
          have hs6 := hb6.size
          have hbA := Lib.hid (bl_ : Below (wr.alloc (.cells #[.slice none 0 0, .slice none 0 0, .slice none 0 0] 26)).heap.size (wr.alloc (.cells #[.slice none 0 0, .slice none 0 0, .slice none 0 0] 26)) w6)
          have k9 := (Blk.new wr 26 #[.slice none 0 0, .slice none 0 0, .slice none 0 0]).kept hbA.out
          have k8 := (HI.out.blk.alloc (.cells #[.slice none 0 0, .slice none 0 0, .slice none 0 0] 26)).kept hbA.out
          have kZ := (HZk.out.alloc (.cells #[.slice none 0 0, .slice none 0 0, .slice none 0 0] 26)).kept hbA.out
          have hbw6 := Lib.hid ((hb.alloc hsr (.cells #[.slice none 0 0, .slice none 0 0, .slice none 0 0] 26)).trans (hbA.out.mono (by simp; omega)))
          have c9 := k9.cell
          have f9 := k9.frozen
          have l9 := k9.lt
          go_wp2
          refine ⟨xs_, ?_⟩
          have s9 := Lib.hid (k9.set3 (.slice E0 zz.s.length e0) (.slice E1 zz.w.length e1) (.slice E2 zz.p.length e2))
          have s8 := Lib.hid (k8.far3 (show w2.heap.size ≠ wr.heap.size by omega) (.slice E0 zz.s.length e0) (.slice E1 zz.w.length e1) (.slice E2 zz.p.length e2))
          have sZ := Lib.hid (kZ.far3 (show w.heap.size + 1 ≠ wr.heap.size by omega) (.slice E0 zz.s.length e0) (.slice E1 zz.w.length e1) (.slice E2 zz.p.length e2))
          have hbs := Lib.hid (below_set3 hbw6.out hsr (.slice E0 zz.s.length e0) (.slice E1 zz.w.length e1) (.slice E2 zz.p.length e2))
          clear k9 k8 kZ c9 f9 hbw6
          refine anyB_one (i := 16) (by kernel_rfl) rfl rfl ?_
          intro w7 hb7 K7 hK7
          have hs7 := hb7.size
          (try simp at hs7)
          go_wp2
          refine ⟨xs_, ?_⟩
          refine anyB_end (by kernel_rfl) ?_
          intro w8 hb8
          have hs8 := hb8.size
          simp only [Calm]
          have HZ8 := Lib.hid (HE.out.ex (xs_ : Ex [wr.heap.size, w2.heap.size, w.heap.size + 1] w4 w8))
          have t9 := Lib.hid ((s9.out.kept hb7).kept hb8)
          have t8 := Lib.hid ((s8.out.kept hb7).kept hb8)
          have tZ := Lib.hid ((sZ.out.kept hb7).kept hb8)
          have hq := hbs.out.size
          have HB8 := Lib.hid (hbs.out.trans ((hb7.mono hq).trans (hb8.mono (Nat.le_trans hq hb7.size))))
          have hs8r := HB8.out.size
          have l78 : w2.heap.size < wr.heap.size := lZ
          clear hb3 hb4 hb6 hb7 hb8 hbA s9 s8 sZ hbs HE l9 cZ lZ
          have c9 := t9.out.cell
          have f9 := t9.out.frozen
          have l9 := t9.out.lt
          have c8 := t8.out.cell
          have f8 := t8.out.frozen
          have l8 := t8.out.lt
          have cz := tZ.out.cell
          have fz := tZ.out.frozen
          have lz := tZ.out.lt
          go_wp2_with fail
          refine ⟨⟨k + 1, zz, E0, E1, E2, e0, e1, e2, by simp, by omega, Lib.hid HKn.out, ⟨t8.out.set3 _ _ _, YdR.turn HZ8.out (Ex.set_in (.inl (by simp)) (Ex.set_in (.inl (by simp)) (Ex.set_in (.inl (by simp)) (Ex.refl _ _) _) _) _) (fun x hx => .inl (by simp at hx ⊢; omega)), HG'.out.1, HG'.out.2, below_set3 HB8.out (by omega) _ _ _⟩, tZ.out.far3 (by omega) _ _ _⟩, ?_⟩
          simp only [intOf]
          omega
      | false =>
        have k1' : (xk.toList == grantW) = false := k1
        cases k2 : (xk.toList == [109, 111, 118, 101]) with
        | true =>
          have k3 : (xk.toList == [114, 101, 116, 117, 114, 110]) = false := by rw [eq_of_beq k2]; rfl
          cases k4 : (xs.toList == []) with
          | true =>
            have HE : Hid (actE z ⟨xk, xn, xs⟩ = moveE z xn ∧ actY z ⟨xk, xn, xs⟩ = z.mv (atB z xn).toNat) := by
              refine ⟨?_, ?_⟩
              · unfold actE; dsimp only
                rw [if_neg (by rw [k1']; decide), if_pos (by rw [show (xk.toList == moveW) = true from k2]; rfl), if_neg (by rw [k4]; decide), if_pos (show (xk.toList == moveW) = true from k2)]
              · unfold actY; dsimp only
                rw [if_neg (by rw [k1']; decide), if_pos (show (xk.toList == moveW) = true from k2)]
            change Hid (∀ W hz, Calls _ _ _ W (YdU W (moveE z xn) (okY (moveE z xn) (z.mv (atB z xn).toNat)))) at HM
            rw [← HE.out.1, ← HE.out.2] at HM
            clear HE HG HR k1'
            by_cases hm : actE z ⟨xk, xn, xs⟩ = 0
            case' neg =>
              have HKn := Lib.hid (HKno.out hm)
              clear HKok HKno HFx
              generalize hzz : okY (actE z ⟨xk, xn, xs⟩) (actY z ⟨xk, xn, xs⟩) = zz at *
              rw [okY_no hm] at hzz
              have HZZ := Lib.hid hzz.symm
              clear hzz
              generalize actE z ⟨xk, xn, xs⟩ = er at *
            case' pos =>
              have HKn := Lib.hid (HKok.out hm)
              have HG' := Lib.hid (HFx.out hm)
              clear HKok HKno HFx
              generalize hzz : okY (actE z ⟨xk, xn, xs⟩) (actY z ⟨xk, xn, xs⟩) = zz at *
              rw [hm, okY_ok] at hzz
              rw [hzz] at HKn HG'
              clear hzz
              generalize hrr : actE z ⟨xk, xn, xs⟩ = er at *
              subst hm
              clear hrr
            case neg =>
              go_wp2_with fail
              (refine wp_region_calm [wr.heap.size] [0, 1, 2, 3, 4, 5] 6 (by kernel_rfl) rfl (by kernel_rfl) (by kernel_rfl) (by kernel_rfl) ?_; simp only [pickB, List.filterMap_cons, List.filterMap_nil, List.getElem?_toArray, List.getElem?_cons_zero, List.getElem?_cons_succ]; (repeat (first | ((with_reducible refine quietL_plain rfl (fun K hK => ?_)); (apply Exists.intro; refine ⟨fun wx hx => ?_, ?_⟩; (· (have hcx := ifs_ex hx); simp [go_sem, *, ↓IntWalk.iteOmega] <;> (first | rfl | exact ⟨rfl, rfl⟩ | fail)); (simp only [Act.put, List.setIfInBounds_toArray, List.set_cons_zero, List.set_cons_succ]; refine hK _ ?_; clear hK K))) | ((with_reducible refine quietL_skip (by with_unfolding_all rfl) ?_); simp only [Act.put, List.setIfInBounds_toArray, List.set_cons_zero, List.set_cons_succ]) | ((with_reducible refine quietL_want (by with_unfolding_all rfl) (fun K hK => ?_)); (apply Exists.intro; refine ⟨fun wx hx => ?_, ?_⟩; (· (have hcx := ifs_ex hx); simp [go_sem, *, ↓IntWalk.iteOmega] <;> (first | rfl | exact ⟨rfl, rfl⟩ | fail)); (simp only [Act.put, List.setIfInBounds_toArray, List.set_cons_zero, List.set_cons_succ]; refine hK _ ?_; clear hK K))))); refine quietL_nil ?_)
              (refine anyB_one (i := 6) (by kernel_rfl) rfl rfl ?_; intro w3 hb3 K hK; have hs3 := hb3.size; (try simp at hs3); go_wp2_with fail)
              refine (HM.out _ (HI.out.yd _ xs_)).mono ?_
              rintro e w4 ⟨E0, E1, E2, e0, e1, e2, rfl, hyd, hb4⟩
              have hs4 := hb4.size
              have HE := Lib.hid (hyd [wr.heap.size, w2.heap.size, w.heap.size + 1] (fun x hx => by simp at hx; left; omega))
              clear hyd
              go_wp2
              refine ⟨xs_, ?_⟩
              (refine anyB_quiet_at (by kernel_rfl) calm_panic xs_ 2 [7, 8, 9] _ _ (by kernel_rfl) (by decide +kernel) ?_; simp only [pickB, List.filterMap_cons, List.filterMap_nil, List.getElem?_toArray, List.getElem?_cons_zero, List.getElem?_cons_succ]; (repeat ((with_reducible refine quietL_plain rfl (fun K hK => ?_)); (apply Exists.intro; refine ⟨fun wx hx => ?_, ?_⟩; (· (have hcx := ifs_ex hx); simp [go_sem, *, ↓IntWalk.iteOmega] <;> (first | rfl | exact ⟨rfl, rfl⟩ | fail)); (simp only [Act.put, List.setIfInBounds_toArray, List.set_cons_zero, List.set_cons_succ]; refine hK _ ?_; clear hK K)))); refine quietL_nil ?_)
              refine anyB_one (i := 10) (by kernel_rfl) rfl rfl ?_
              intro w6 hb6 K6 hK6
              have hs6 := hb6.size
              have hbA := Lib.hid (bl_ : Below (wr.alloc (.cells #[.slice none 0 0, .slice none 0 0, .slice none 0 0] 26)).heap.size (wr.alloc (.cells #[.slice none 0 0, .slice none 0 0, .slice none 0 0] 26)) w6)
              have k9 := (Blk.new wr 26 #[.slice none 0 0, .slice none 0 0, .slice none 0 0]).kept hbA.out
              have k8 := (HI.out.blk.alloc (.cells #[.slice none 0 0, .slice none 0 0, .slice none 0 0] 26)).kept hbA.out
              have kZ := (HZk.out.alloc (.cells #[.slice none 0 0, .slice none 0 0, .slice none 0 0] 26)).kept hbA.out
              have hbw6 := Lib.hid ((hb.alloc hsr (.cells #[.slice none 0 0, .slice none 0 0, .slice none 0 0] 26)).trans (hbA.out.mono (by simp; omega)))
              have c9 := k9.cell
              have f9 := k9.frozen
              have l9 := k9.lt
              go_wp2
              refine ⟨xs_, ?_⟩
              have s9 := Lib.hid (k9.set3 (.slice E0 zz.s.length e0) (.slice E1 zz.w.length e1) (.slice E2 zz.p.length e2))
              have s8 := Lib.hid (k8.far3 (show w2.heap.size ≠ wr.heap.size by omega) (.slice E0 zz.s.length e0) (.slice E1 zz.w.length e1) (.slice E2 zz.p.length e2))
              have sZ := Lib.hid (kZ.far3 (show w.heap.size + 1 ≠ wr.heap.size by omega) (.slice E0 zz.s.length e0) (.slice E1 zz.w.length e1) (.slice E2 zz.p.length e2))
              have hbs := Lib.hid (below_set3 hbw6.out hsr (.slice E0 zz.s.length e0) (.slice E1 zz.w.length e1) (.slice E2 zz.p.length e2))
              clear k9 k8 kZ c9 f9 hbw6
              refine anyB_one (i := 11) (by kernel_rfl) rfl rfl ?_
              intro w7 hb7 K7 hK7
              have hs7 := hb7.size
              (try simp at hs7)
              go_wp2
              refine ⟨xs_, ?_⟩
              refine anyB_end (by kernel_rfl) ?_
              intro w8 hb8
              have hs8 := hb8.size
              simp only [Calm]
              have HZ8 := Lib.hid (HE.out.ex (xs_ : Ex [wr.heap.size, w2.heap.size, w.heap.size + 1] w4 w8))
              have t9 := Lib.hid ((s9.out.kept hb7).kept hb8)
              have t8 := Lib.hid ((s8.out.kept hb7).kept hb8)
              have tZ := Lib.hid ((sZ.out.kept hb7).kept hb8)
              have hq := hbs.out.size
              have HB8 := Lib.hid (hbs.out.trans ((hb7.mono hq).trans (hb8.mono (Nat.le_trans hq hb7.size))))
              have hs8r := HB8.out.size
              have l78 : w2.heap.size < wr.heap.size := lZ
              clear hb3 hb4 hb6 hb7 hb8 hbA s9 s8 sZ hbs HE l9 cZ lZ
              have c9 := t9.out.cell
              have f9 := t9.out.frozen
              have l9 := t9.out.lt
              have c8 := t8.out.cell
              have f8 := t8.out.frozen
              have l8 := t8.out.lt
              have cz := tZ.out.cell
              have fz := tZ.out.frozen
              have lz := tZ.out.lt
              go_wp2_with fail
              refine bodyPost_ret (v := .tuple #[zeroY, .int .i64 k, .int .i64 er]) ?_ rfl ?_
              · have ck := (tZ.out.set3 (.slice none 0 0) (.slice none 0 0) (.slice none 0 0)).cell
                simp [results, Tryz.results71, go_sem, zeroY, ck]
              · rw [HKn.out]
                exact ⟨none, none, none, 0, 0, 0, rfl, nil_yd _ _, below_set3 HB8.out (by omega) _ _ _⟩
            case pos =>
              go_wp2_with fail
              (refine wp_region_calm [wr.heap.size] [0, 1, 2, 3, 4, 5] 6 (by kernel_rfl) rfl (by kernel_rfl) (by kernel_rfl) (by kernel_rfl) ?_; simp only [pickB, List.filterMap_cons, List.filterMap_nil, List.getElem?_toArray, List.getElem?_cons_zero, List.getElem?_cons_succ]; (repeat (first | ((with_reducible refine quietL_plain rfl (fun K hK => ?_)); (apply Exists.intro; refine ⟨fun wx hx => ?_, ?_⟩; (· (have hcx := ifs_ex hx); simp [go_sem, *, ↓IntWalk.iteOmega] <;> (first | rfl | exact ⟨rfl, rfl⟩ | fail)); (simp only [Act.put, List.setIfInBounds_toArray, List.set_cons_zero, List.set_cons_succ]; refine hK _ ?_; clear hK K))) | ((with_reducible refine quietL_skip (by with_unfolding_all rfl) ?_); simp only [Act.put, List.setIfInBounds_toArray, List.set_cons_zero, List.set_cons_succ]) | ((with_reducible refine quietL_want (by with_unfolding_all rfl) (fun K hK => ?_)); (apply Exists.intro; refine ⟨fun wx hx => ?_, ?_⟩; (· (have hcx := ifs_ex hx); simp [go_sem, *, ↓IntWalk.iteOmega] <;> (first | rfl | exact ⟨rfl, rfl⟩ | fail)); (simp only [Act.put, List.setIfInBounds_toArray, List.set_cons_zero, List.set_cons_succ]; refine hK _ ?_; clear hK K))))); refine quietL_nil ?_)
              (refine anyB_one (i := 6) (by kernel_rfl) rfl rfl ?_; intro w3 hb3 K hK; have hs3 := hb3.size; (try simp at hs3); go_wp2_with fail)
              refine (HM.out _ (HI.out.yd _ xs_)).mono ?_
              rintro e w4 ⟨E0, E1, E2, e0, e1, e2, rfl, hyd, hb4⟩
              have hs4 := hb4.size
              have HE := Lib.hid (hyd [wr.heap.size, w2.heap.size, w.heap.size + 1] (fun x hx => by simp at hx; left; omega))
              clear hyd
              go_wp2
              refine ⟨xs_, ?_⟩
              (refine anyB_quiet_at (by kernel_rfl) calm_panic xs_ 2 [7, 8, 9] _ _ (by kernel_rfl) (by decide +kernel) ?_; simp only [pickB, List.filterMap_cons, List.filterMap_nil, List.getElem?_toArray, List.getElem?_cons_zero, List.getElem?_cons_succ]; (repeat ((with_reducible refine quietL_plain rfl (fun K hK => ?_)); (apply Exists.intro; refine ⟨fun wx hx => ?_, ?_⟩; (· (have hcx := ifs_ex hx); simp [go_sem, *, ↓IntWalk.iteOmega] <;> (first | rfl | exact ⟨rfl, rfl⟩ | fail)); (simp only [Act.put, List.setIfInBounds_toArray, List.set_cons_zero, List.set_cons_succ]; refine hK _ ?_; clear hK K)))); refine quietL_nil ?_)
              refine anyB_one (i := 10) (by kernel_rfl) rfl rfl ?_
              intro w6 hb6 K6 hK6
              have hs6 := hb6.size
              have hbA := Lib.hid (bl_ : Below (wr.alloc (.cells #[.slice none 0 0, .slice none 0 0, .slice none 0 0] 26)).heap.size (wr.alloc (.cells #[.slice none 0 0, .slice none 0 0, .slice none 0 0] 26)) w6)
              have k9 := (Blk.new wr 26 #[.slice none 0 0, .slice none 0 0, .slice none 0 0]).kept hbA.out
              have k8 := (HI.out.blk.alloc (.cells #[.slice none 0 0, .slice none 0 0, .slice none 0 0] 26)).kept hbA.out
              have kZ := (HZk.out.alloc (.cells #[.slice none 0 0, .slice none 0 0, .slice none 0 0] 26)).kept hbA.out
              have hbw6 := Lib.hid ((hb.alloc hsr (.cells #[.slice none 0 0, .slice none 0 0, .slice none 0 0] 26)).trans (hbA.out.mono (by simp; omega)))
              have c9 := k9.cell
              have f9 := k9.frozen
              have l9 := k9.lt
              go_wp2
              refine ⟨xs_, ?_⟩
              have s9 := Lib.hid (k9.set3 (.slice E0 zz.s.length e0) (.slice E1 zz.w.length e1) (.slice E2 zz.p.length e2))
              have s8 := Lib.hid (k8.far3 (show w2.heap.size ≠ wr.heap.size by omega) (.slice E0 zz.s.length e0) (.slice E1 zz.w.length e1) (.slice E2 zz.p.length e2))
              have sZ := Lib.hid (kZ.far3 (show w.heap.size + 1 ≠ wr.heap.size by omega) (.slice E0 zz.s.length e0) (.slice E1 zz.w.length e1) (.slice E2 zz.p.length e2))
              have hbs := Lib.hid (below_set3 hbw6.out hsr (.slice E0 zz.s.length e0) (.slice E1 zz.w.length e1) (.slice E2 zz.p.length e2))
              clear k9 k8 kZ c9 f9 hbw6
              refine anyB_one (i := 11) (by kernel_rfl) rfl rfl ?_
              intro w7 hb7 K7 hK7
              have hs7 := hb7.size
              (try simp at hs7)
              go_wp2
              refine ⟨xs_, ?_⟩
              refine anyB_end (by kernel_rfl) ?_
              intro w8 hb8
              have hs8 := hb8.size
              simp only [Calm]
              have HZ8 := Lib.hid (HE.out.ex (xs_ : Ex [wr.heap.size, w2.heap.size, w.heap.size + 1] w4 w8))
              have t9 := Lib.hid ((s9.out.kept hb7).kept hb8)
              have t8 := Lib.hid ((s8.out.kept hb7).kept hb8)
              have tZ := Lib.hid ((sZ.out.kept hb7).kept hb8)
              have hq := hbs.out.size
              have HB8 := Lib.hid (hbs.out.trans ((hb7.mono hq).trans (hb8.mono (Nat.le_trans hq hb7.size))))
              have hs8r := HB8.out.size
              have l78 : w2.heap.size < wr.heap.size := lZ
              clear hb3 hb4 hb6 hb7 hb8 hbA s9 s8 sZ hbs HE l9 cZ lZ
              have c9 := t9.out.cell
              have f9 := t9.out.frozen
              have l9 := t9.out.lt
              have c8 := t8.out.cell
              have f8 := t8.out.frozen
              have l8 := t8.out.lt
              have cz := tZ.out.cell
              have fz := tZ.out.frozen
              have lz := tZ.out.lt
              go_wp2_with fail
              refine ⟨⟨k + 1, zz, E0, E1, E2, e0, e1, e2, by simp, by omega, Lib.hid HKn.out, ⟨t8.out.set3 _ _ _, YdR.turn HZ8.out (Ex.set_in (.inl (by simp)) (Ex.set_in (.inl (by simp)) (Ex.set_in (.inl (by simp)) (Ex.refl _ _) _) _) _) (fun x hx => .inl (by simp at hx ⊢; omega)), HG'.out.1, HG'.out.2, below_set3 HB8.out (by omega) _ _ _⟩, tZ.out.far3 (by omega) _ _ _⟩, ?_⟩
              simp only [intOf]
              omega
          | false =>
            have hm : actE z ⟨xk, xn, xs⟩ = 1 := by
              unfold actE; dsimp only
              rw [if_neg (by rw [k1']; decide), if_pos (by rw [show (xk.toList == moveW) = true from k2]; rfl), if_pos (by rw [k4]; rfl)]
            have HKn := Lib.hid (HKno.out (by rw [hm]; decide))
            rw [hm] at HKn
            clear HKok HKno HFx HG HM HR hm k1'
            have cz := HZk.out.cell
            have fz := HZk.out.frozen
            have lz := HZk.out.lt
            go_wp2_with fail
            refine bodyPost_ret (v := .tuple #[zeroY, .int .i64 k, .int .i64 1]) ?_ rfl ?_
            · have ck := ((HZk.out.set3 (.slice none 0 0) (.slice none 0 0) (.slice none 0 0)).alloc (.cells #[.slice none 0 0, .slice none 0 0, .slice none 0 0] 26)).cell
              simp [results, Tryz.results71, go_sem, zeroY, ck]
            · rw [HKn.out]
              exact ⟨none, none, none, 0, 0, 0, rfl, nil_yd _ _, (below_set3 hb (by omega) _ _ _).alloc (by simp; omega) _⟩
        | false =>
          cases k3 : (xk.toList == [114, 101, 116, 117, 114, 110]) with
          | true =>
            cases k4 : (xs.toList == []) with
            | true =>
              have HE : Hid (actE z ⟨xk, xn, xs⟩ = retE z xn ∧ actY z ⟨xk, xn, xs⟩ = retY z xn) := by
                refine ⟨?_, ?_⟩
                · unfold actE; dsimp only
                  rw [if_neg (by rw [k1']; decide), if_pos (by rw [show (xk.toList == returnW) = true from k3, Bool.or_true]), if_neg (by rw [k4]; decide), if_neg (by rw [show (xk.toList == moveW) = false from k2]; decide)]
                · unfold actY; dsimp only
                  rw [if_neg (by rw [k1']; decide), if_neg (by rw [show (xk.toList == moveW) = false from k2]; decide)]
              change Hid (∀ W hz, Calls _ _ _ W (YdU W (retE z xn) (okY (retE z xn) (retY z xn)))) at HR
              rw [← HE.out.1, ← HE.out.2] at HR
              clear HE HG HM k1'
              by_cases hm : actE z ⟨xk, xn, xs⟩ = 0
              case' neg =>
                have HKn := Lib.hid (HKno.out hm)
                clear HKok HKno HFx
                generalize hzz : okY (actE z ⟨xk, xn, xs⟩) (actY z ⟨xk, xn, xs⟩) = zz at *
                rw [okY_no hm] at hzz
                have HZZ := Lib.hid hzz.symm
                clear hzz
                generalize actE z ⟨xk, xn, xs⟩ = er at *
              case' pos =>
                have HKn := Lib.hid (HKok.out hm)
                have HG' := Lib.hid (HFx.out hm)
                clear HKok HKno HFx
                generalize hzz : okY (actE z ⟨xk, xn, xs⟩) (actY z ⟨xk, xn, xs⟩) = zz at *
                rw [hm, okY_ok] at hzz
                rw [hzz] at HKn HG'
                clear hzz
                generalize hrr : actE z ⟨xk, xn, xs⟩ = er at *
                subst hm
                clear hrr
              case neg =>
                go_wp2_with fail
                (refine wp_region_calm [wr.heap.size] [0, 1, 2, 3, 4, 5] 6 (by kernel_rfl) rfl (by kernel_rfl) (by kernel_rfl) (by kernel_rfl) ?_; simp only [pickB, List.filterMap_cons, List.filterMap_nil, List.getElem?_toArray, List.getElem?_cons_zero, List.getElem?_cons_succ]; (repeat (first | ((with_reducible refine quietL_plain rfl (fun K hK => ?_)); (apply Exists.intro; refine ⟨fun wx hx => ?_, ?_⟩; (· (have hcx := ifs_ex hx); simp [go_sem, *, ↓IntWalk.iteOmega] <;> (first | rfl | exact ⟨rfl, rfl⟩ | fail)); (simp only [Act.put, List.setIfInBounds_toArray, List.set_cons_zero, List.set_cons_succ]; refine hK _ ?_; clear hK K))) | ((with_reducible refine quietL_skip (by with_unfolding_all rfl) ?_); simp only [Act.put, List.setIfInBounds_toArray, List.set_cons_zero, List.set_cons_succ]) | ((with_reducible refine quietL_want (by with_unfolding_all rfl) (fun K hK => ?_)); (apply Exists.intro; refine ⟨fun wx hx => ?_, ?_⟩; (· (have hcx := ifs_ex hx); simp [go_sem, *, ↓IntWalk.iteOmega] <;> (first | rfl | exact ⟨rfl, rfl⟩ | fail)); (simp only [Act.put, List.setIfInBounds_toArray, List.set_cons_zero, List.set_cons_succ]; refine hK _ ?_; clear hK K))))); refine quietL_nil ?_)
                (refine anyB_one (i := 6) (by kernel_rfl) rfl rfl ?_; intro w3 hb3 K hK; have hs3 := hb3.size; (try simp at hs3); go_wp2_with fail)
                refine (HR.out _ (HI.out.yd _ xs_)).mono ?_
                rintro e w4 ⟨E0, E1, E2, e0, e1, e2, rfl, hyd, hb4⟩
                have hs4 := hb4.size
                have HE := Lib.hid (hyd [wr.heap.size, w2.heap.size, w.heap.size + 1] (fun x hx => by simp at hx; left; omega))
                clear hyd
                go_wp2
                refine ⟨xs_, ?_⟩
                (refine anyB_quiet_at (by kernel_rfl) calm_panic xs_ 2 [7, 8, 9] _ _ (by kernel_rfl) (by decide +kernel) ?_; simp only [pickB, List.filterMap_cons, List.filterMap_nil, List.getElem?_toArray, List.getElem?_cons_zero, List.getElem?_cons_succ]; (repeat ((with_reducible refine quietL_plain rfl (fun K hK => ?_)); (apply Exists.intro; refine ⟨fun wx hx => ?_, ?_⟩; (· (have hcx := ifs_ex hx); simp [go_sem, *, ↓IntWalk.iteOmega] <;> (first | rfl | exact ⟨rfl, rfl⟩ | fail)); (simp only [Act.put, List.setIfInBounds_toArray, List.set_cons_zero, List.set_cons_succ]; refine hK _ ?_; clear hK K)))); refine quietL_nil ?_)
                refine anyB_one (i := 10) (by kernel_rfl) rfl rfl ?_
                intro w6 hb6 K6 hK6
                have hs6 := hb6.size
                have hbA := Lib.hid (bl_ : Below (wr.alloc (.cells #[.slice none 0 0, .slice none 0 0, .slice none 0 0] 26)).heap.size (wr.alloc (.cells #[.slice none 0 0, .slice none 0 0, .slice none 0 0] 26)) w6)
                have k9 := (Blk.new wr 26 #[.slice none 0 0, .slice none 0 0, .slice none 0 0]).kept hbA.out
                have k8 := (HI.out.blk.alloc (.cells #[.slice none 0 0, .slice none 0 0, .slice none 0 0] 26)).kept hbA.out
                have kZ := (HZk.out.alloc (.cells #[.slice none 0 0, .slice none 0 0, .slice none 0 0] 26)).kept hbA.out
                have hbw6 := Lib.hid ((hb.alloc hsr (.cells #[.slice none 0 0, .slice none 0 0, .slice none 0 0] 26)).trans (hbA.out.mono (by simp; omega)))
                have c9 := k9.cell
                have f9 := k9.frozen
                have l9 := k9.lt
                go_wp2
                refine ⟨xs_, ?_⟩
                have s9 := Lib.hid (k9.set3 (.slice E0 zz.s.length e0) (.slice E1 zz.w.length e1) (.slice E2 zz.p.length e2))
                have s8 := Lib.hid (k8.far3 (show w2.heap.size ≠ wr.heap.size by omega) (.slice E0 zz.s.length e0) (.slice E1 zz.w.length e1) (.slice E2 zz.p.length e2))
                have sZ := Lib.hid (kZ.far3 (show w.heap.size + 1 ≠ wr.heap.size by omega) (.slice E0 zz.s.length e0) (.slice E1 zz.w.length e1) (.slice E2 zz.p.length e2))
                have hbs := Lib.hid (below_set3 hbw6.out hsr (.slice E0 zz.s.length e0) (.slice E1 zz.w.length e1) (.slice E2 zz.p.length e2))
                clear k9 k8 kZ c9 f9 hbw6
                refine anyB_one (i := 11) (by kernel_rfl) rfl rfl ?_
                intro w7 hb7 K7 hK7
                have hs7 := hb7.size
                (try simp at hs7)
                go_wp2
                refine ⟨xs_, ?_⟩
                refine anyB_end (by kernel_rfl) ?_
                intro w8 hb8
                have hs8 := hb8.size
                simp only [Calm]
                have HZ8 := Lib.hid (HE.out.ex (xs_ : Ex [wr.heap.size, w2.heap.size, w.heap.size + 1] w4 w8))
                have t9 := Lib.hid ((s9.out.kept hb7).kept hb8)
                have t8 := Lib.hid ((s8.out.kept hb7).kept hb8)
                have tZ := Lib.hid ((sZ.out.kept hb7).kept hb8)
                have hq := hbs.out.size
                have HB8 := Lib.hid (hbs.out.trans ((hb7.mono hq).trans (hb8.mono (Nat.le_trans hq hb7.size))))
                have hs8r := HB8.out.size
                have l78 : w2.heap.size < wr.heap.size := lZ
                clear hb3 hb4 hb6 hb7 hb8 hbA s9 s8 sZ hbs HE l9 cZ lZ
                have c9 := t9.out.cell
                have f9 := t9.out.frozen
                have l9 := t9.out.lt
                have c8 := t8.out.cell
                have f8 := t8.out.frozen
                have l8 := t8.out.lt
                have cz := tZ.out.cell
                have fz := tZ.out.frozen
                have lz := tZ.out.lt
                go_wp2_with fail
                refine bodyPost_ret (v := .tuple #[zeroY, .int .i64 k, .int .i64 er]) ?_ rfl ?_
                · have ck := (tZ.out.set3 (.slice none 0 0) (.slice none 0 0) (.slice none 0 0)).cell
                  simp [results, Tryz.results71, go_sem, zeroY, ck]
                · rw [HKn.out]
                  exact ⟨none, none, none, 0, 0, 0, rfl, nil_yd _ _, below_set3 HB8.out (by omega) _ _ _⟩
              case pos =>
                go_wp2_with fail
                (refine wp_region_calm [wr.heap.size] [0, 1, 2, 3, 4, 5] 6 (by kernel_rfl) rfl (by kernel_rfl) (by kernel_rfl) (by kernel_rfl) ?_; simp only [pickB, List.filterMap_cons, List.filterMap_nil, List.getElem?_toArray, List.getElem?_cons_zero, List.getElem?_cons_succ]; (repeat (first | ((with_reducible refine quietL_plain rfl (fun K hK => ?_)); (apply Exists.intro; refine ⟨fun wx hx => ?_, ?_⟩; (· (have hcx := ifs_ex hx); simp [go_sem, *, ↓IntWalk.iteOmega] <;> (first | rfl | exact ⟨rfl, rfl⟩ | fail)); (simp only [Act.put, List.setIfInBounds_toArray, List.set_cons_zero, List.set_cons_succ]; refine hK _ ?_; clear hK K))) | ((with_reducible refine quietL_skip (by with_unfolding_all rfl) ?_); simp only [Act.put, List.setIfInBounds_toArray, List.set_cons_zero, List.set_cons_succ]) | ((with_reducible refine quietL_want (by with_unfolding_all rfl) (fun K hK => ?_)); (apply Exists.intro; refine ⟨fun wx hx => ?_, ?_⟩; (· (have hcx := ifs_ex hx); simp [go_sem, *, ↓IntWalk.iteOmega] <;> (first | rfl | exact ⟨rfl, rfl⟩ | fail)); (simp only [Act.put, List.setIfInBounds_toArray, List.set_cons_zero, List.set_cons_succ]; refine hK _ ?_; clear hK K))))); refine quietL_nil ?_)
                (refine anyB_one (i := 6) (by kernel_rfl) rfl rfl ?_; intro w3 hb3 K hK; have hs3 := hb3.size; (try simp at hs3); go_wp2_with fail)
                refine (HR.out _ (HI.out.yd _ xs_)).mono ?_
                rintro e w4 ⟨E0, E1, E2, e0, e1, e2, rfl, hyd, hb4⟩
                have hs4 := hb4.size
                have HE := Lib.hid (hyd [wr.heap.size, w2.heap.size, w.heap.size + 1] (fun x hx => by simp at hx; left; omega))
                clear hyd
                go_wp2
                refine ⟨xs_, ?_⟩
                (refine anyB_quiet_at (by kernel_rfl) calm_panic xs_ 2 [7, 8, 9] _ _ (by kernel_rfl) (by decide +kernel) ?_; simp only [pickB, List.filterMap_cons, List.filterMap_nil, List.getElem?_toArray, List.getElem?_cons_zero, List.getElem?_cons_succ]; (repeat ((with_reducible refine quietL_plain rfl (fun K hK => ?_)); (apply Exists.intro; refine ⟨fun wx hx => ?_, ?_⟩; (· (have hcx := ifs_ex hx); simp [go_sem, *, ↓IntWalk.iteOmega] <;> (first | rfl | exact ⟨rfl, rfl⟩ | fail)); (simp only [Act.put, List.setIfInBounds_toArray, List.set_cons_zero, List.set_cons_succ]; refine hK _ ?_; clear hK K)))); refine quietL_nil ?_)
                refine anyB_one (i := 10) (by kernel_rfl) rfl rfl ?_
                intro w6 hb6 K6 hK6
                have hs6 := hb6.size
                have hbA := Lib.hid (bl_ : Below (wr.alloc (.cells #[.slice none 0 0, .slice none 0 0, .slice none 0 0] 26)).heap.size (wr.alloc (.cells #[.slice none 0 0, .slice none 0 0, .slice none 0 0] 26)) w6)
                have k9 := (Blk.new wr 26 #[.slice none 0 0, .slice none 0 0, .slice none 0 0]).kept hbA.out
                have k8 := (HI.out.blk.alloc (.cells #[.slice none 0 0, .slice none 0 0, .slice none 0 0] 26)).kept hbA.out
                have kZ := (HZk.out.alloc (.cells #[.slice none 0 0, .slice none 0 0, .slice none 0 0] 26)).kept hbA.out
                have hbw6 := Lib.hid ((hb.alloc hsr (.cells #[.slice none 0 0, .slice none 0 0, .slice none 0 0] 26)).trans (hbA.out.mono (by simp; omega)))
                have c9 := k9.cell
                have f9 := k9.frozen
                have l9 := k9.lt
                go_wp2
                refine ⟨xs_, ?_⟩
                have s9 := Lib.hid (k9.set3 (.slice E0 zz.s.length e0) (.slice E1 zz.w.length e1) (.slice E2 zz.p.length e2))
                have s8 := Lib.hid (k8.far3 (show w2.heap.size ≠ wr.heap.size by omega) (.slice E0 zz.s.length e0) (.slice E1 zz.w.length e1) (.slice E2 zz.p.length e2))
                have sZ := Lib.hid (kZ.far3 (show w.heap.size + 1 ≠ wr.heap.size by omega) (.slice E0 zz.s.length e0) (.slice E1 zz.w.length e1) (.slice E2 zz.p.length e2))
                have hbs := Lib.hid (below_set3 hbw6.out hsr (.slice E0 zz.s.length e0) (.slice E1 zz.w.length e1) (.slice E2 zz.p.length e2))
                clear k9 k8 kZ c9 f9 hbw6
                refine anyB_one (i := 11) (by kernel_rfl) rfl rfl ?_
                intro w7 hb7 K7 hK7
                have hs7 := hb7.size
                (try simp at hs7)
                go_wp2
                refine ⟨xs_, ?_⟩
                refine anyB_end (by kernel_rfl) ?_
                intro w8 hb8
                have hs8 := hb8.size
                simp only [Calm]
                have HZ8 := Lib.hid (HE.out.ex (xs_ : Ex [wr.heap.size, w2.heap.size, w.heap.size + 1] w4 w8))
                have t9 := Lib.hid ((s9.out.kept hb7).kept hb8)
                have t8 := Lib.hid ((s8.out.kept hb7).kept hb8)
                have tZ := Lib.hid ((sZ.out.kept hb7).kept hb8)
                have hq := hbs.out.size
                have HB8 := Lib.hid (hbs.out.trans ((hb7.mono hq).trans (hb8.mono (Nat.le_trans hq hb7.size))))
                have hs8r := HB8.out.size
                have l78 : w2.heap.size < wr.heap.size := lZ
                clear hb3 hb4 hb6 hb7 hb8 hbA s9 s8 sZ hbs HE l9 cZ lZ
                have c9 := t9.out.cell
                have f9 := t9.out.frozen
                have l9 := t9.out.lt
                have c8 := t8.out.cell
                have f8 := t8.out.frozen
                have l8 := t8.out.lt
                have cz := tZ.out.cell
                have fz := tZ.out.frozen
                have lz := tZ.out.lt
                go_wp2_with fail
                refine ⟨⟨k + 1, zz, E0, E1, E2, e0, e1, e2, by simp, by omega, Lib.hid HKn.out, ⟨t8.out.set3 _ _ _, YdR.turn HZ8.out (Ex.set_in (.inl (by simp)) (Ex.set_in (.inl (by simp)) (Ex.set_in (.inl (by simp)) (Ex.refl _ _) _) _) _) (fun x hx => .inl (by simp at hx ⊢; omega)), HG'.out.1, HG'.out.2, below_set3 HB8.out (by omega) _ _ _⟩, tZ.out.far3 (by omega) _ _ _⟩, ?_⟩
                simp only [intOf]
                omega
            | false =>
              have hm : actE z ⟨xk, xn, xs⟩ = 1 := by
                unfold actE; dsimp only
                rw [if_neg (by rw [k1']; decide), if_pos (by rw [show (xk.toList == returnW) = true from k3, Bool.or_true]), if_pos (by rw [k4]; rfl)]
              have HKn := Lib.hid (HKno.out (by rw [hm]; decide))
              rw [hm] at HKn
              clear HKok HKno HFx HG HM HR hm k1'
              have cz := HZk.out.cell
              have fz := HZk.out.frozen
              have lz := HZk.out.lt
              go_wp2_with fail
              refine bodyPost_ret (v := .tuple #[zeroY, .int .i64 k, .int .i64 1]) ?_ rfl ?_
              · have ck := ((HZk.out.set3 (.slice none 0 0) (.slice none 0 0) (.slice none 0 0)).alloc (.cells #[.slice none 0 0, .slice none 0 0, .slice none 0 0] 26)).cell
                simp [results, Tryz.results71, go_sem, zeroY, ck]
              · rw [HKn.out]
                exact ⟨none, none, none, 0, 0, 0, rfl, nil_yd _ _, (below_set3 hb (by omega) _ _ _).alloc (by simp; omega) _⟩
          | false =>
            have hm : actE z ⟨xk, xn, xs⟩ = 13 := by
              unfold actE; dsimp only
              rw [if_neg (by rw [k1']; decide), if_neg (by rw [show (xk.toList == moveW) = false from k2, show (xk.toList == returnW) = false from k3]; decide)]
            have HKn := Lib.hid (HKno.out (by rw [hm]; decide))
            rw [hm] at HKn
            clear HKok HKno HFx HG HM HR hm k1'
            have cz := HZk.out.cell
            have fz := HZk.out.frozen
            have lz := HZk.out.lt
            go_wp2_with fail
            refine bodyPost_ret (v := .tuple #[zeroY, .int .i64 k, .int .i64 13]) ?_ rfl ?_
            · have ck := ((HZk.out.set3 (.slice none 0 0) (.slice none 0 0) (.slice none 0 0)).alloc (.cells #[.slice none 0 0, .slice none 0 0, .slice none 0 0] 26)).cell
              simp [results, Tryz.results71, go_sem, zeroY, ck]
            · rw [HKn.out]
              exact ⟨none, none, none, 0, 0, 0, rfl, nil_yd _ _, (below_set3 hb (by omega) _ _ _).alloc (by simp; omega) _⟩
    · have hkn' : k = n := by omega
      subst hkn'
      have HKn := Lib.hid (HK.out.trans (by rw [List.drop_of_length_le (by rw [HLL.out]; exact Nat.le_refl _), playGo_nil]))
      have cz := HZk.out.cell
      have fz := HZk.out.frozen
      have lz := HZk.out.lt
      go_wp2_with fail
      refine bodyPost_ret (v := .tuple #[.agg #[.slice D0 z.s.length d0, .slice D1 z.w.length d1, .slice D2 z.p.length d2], .int .i64 0, .int .i64 0]) ?_ rfl ?_
      · have ck := (HZk.out.set3 (.slice D0 z.s.length d0) (.slice D1 z.w.length d1) (.slice D2 z.p.length d2)).cell
        simp [results, Tryz.results71, go_sem, ck]
      · rw [HKn.out]
        exact ⟨D0, D1, D2, d0, d1, d2, rfl, HI.out.yd _ (Ex.set_in (.inl (by simp)) (Ex.set_in (.inl (by simp)) (Ex.set_in (.inl (by simp)) (Ex.refl _ _) _) _) _), below_set3 hb (by omega) _ _ _⟩
end Go.Proofs.YtphlojgmfkgeiaaGreatDoor
