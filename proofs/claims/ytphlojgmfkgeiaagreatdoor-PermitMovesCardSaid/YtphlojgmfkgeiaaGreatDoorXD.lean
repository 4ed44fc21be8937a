/- Reference: Return. -/
import Derived.Test.YtphlojgmfkgeiaaGreatDoorXC
import Derived.Test.YtphlojgmfkgeiaaGreatDoorEE
namespace Go.Proofs.YtphlojgmfkgeiaaGreatDoor
open Go.RowKit Go.Sort Go.Shelf
set_option linter.unusedSimpArgs false
set_option linter.unusedVariables false
attribute [local go_sem] cell_if frozen_if grow_cell
def retR (y : Yd) (nm : ByteArray) : Int := whenE (decide (pmAt y nm < 0)) 10
theorem retE_R {y : Yd} (h : yardE y = 0) (nm : ByteArray) : retE y nm = retR y nm := by
  unfold retE retR
  rw [or0_pos h]
theorem pm_idx (y : Yd) (nm : ByteArray) {n : Nat} (h : y.p.length = n) : findI ((y.p.map Pm.n).take n) nm = pmAt y nm := by
  rw [List.take_of_length_le (by simp [h])]
  exact find_idx _ _ _ _
set_option maxRecDepth 100000 in
set_option maxHeartbeats 4000000 in
theorem rReturn_any (B : Nat) (A0 A1 A2 : Option Addr) (n0 n1 n2 c0 c1 c2 : Nat) (y : Yd) (w : World) (hY : YdAt w B A0 A1 A2 n0 n1 n2 y) (hB : B ≤ w.heap.size) (hP : Parts y) (nm : ByteArray) : Calls Tryz.prog 66 #[.agg #[.slice A0 n0 c0, .slice A1 n1 c1, .slice A2 n2 c2], .string nm] w (MvR w (retR y nm) (retY y nm)) := by
  have hl0 := (sec_at hY.hs).1
  have hl1 := (sw_at hY.hw).1
  have hl2 := (pm_at hY.hp).1
  have h8 := hP.n8
  have h8' := hP.w8
  have h8'' := hP.p8
  have hbd := pmAt_bd y nm
  have HC := Lib.hid (fun W (hW : Below w.heap.size w W) => FindPermit_any B A0 A1 A2 n0 n1 n2 c0 c1 c2 y nm n2 W (hY.below (hW.mono hB)) (by have := hW.size; omega) (Nat.le_refl _) (by unfold maxLen; omega))
  rw [pm_idx y nm hl2] at HC
  have HOw := Lib.hid (fun W (hW : Below w.heap.size w W) => rOwn_any B A0 A1 A2 n0 n1 n2 c0 c1 c2 y W (hY.below (hW.mono hB)) (by have := hW.size; omega) (by omega) (by omega) (by omega))
  by_cases hi : pmAt y nm < 0
  · have HM : Hid (retR y nm = 10) := by show _ = _; unfold retR; rw [decide_eq_true hi]; rfl
    rw [HM.out]
    clear hY hP hbd HOw HM
    generalize pmAt y nm = si at *
    go_enter Tryz.func66, Tryz.ntmps66
    go_wp2_with fail
    refine (HC.out _ bl_).mono ?_
    (rintro e w1 ⟨rfl, hb1⟩; have hs1 := hb1.size; (try simp at hs1))
    obtain ⟨hc1, hf1⟩ := ifs_of hb1; have hs1 := hb1.size; (try simp at hs1)
    go_wp2_with fail
    refine bodyPost_ret (v := .tuple #[zeroY, .int .i64 10]) ?_ rfl (Or.inr ⟨by decide, rfl, bl_⟩)
    have ck := (bk_ : Blk w1 (w.heap.size + 1) 26 #[.slice none 0 0, .slice none 0 0, .slice none 0 0])
    have ck := (((ck.set_ 0 (.slice none 0 0)).set_ 1 (.slice none 0 0)).set_ 2 (.slice none 0 0)).cell
    simp [results, Tryz.results66, go_sem, zeroY, ck]
  · have HM : Hid (retR y nm = 0) := by show _ = _; unfold retR; rw [decide_eq_false hi]; rfl
    rw [HM.out]
    obtain ⟨i, hie⟩ := Int.eq_ofNat_of_zero_le (show 0 ≤ pmAt y nm by omega)
    have hil : i < y.p.length := by omega
    have HRY : Hid (retY y nm = { y with p := y.p.eraseIdx i }) := by show _ = _; unfold retY; rw [hie]; rfl
    have HEL : Hid ((y.p.eraseIdx i).length = y.p.length - 1) := by show _ = _; rw [List.length_eraseIdx, if_pos hil]
    rw [hie] at HC
    have HIl := Lib.hid hil
    clear hY hP HM hl0 hl1 hl2 hbd hi hie
    go_enter Tryz.func66, Tryz.ntmps66
    go_wp2_with fail
    refine (HC.out _ bl_).mono ?_
    (rintro e w1 ⟨rfl, hb1⟩; have hs1 := hb1.size; (try simp at hs1))
    obtain ⟨hc1, hf1⟩ := ifs_of hb1; have hs1 := hb1.size; (try simp at hs1)
    go_wp2_with fail
    refine (HOw.out _ bl_).mono ?_
    rintro e wf ⟨D0, D1, D2, d0, d1, d2, rfl, hO, hbf⟩
    have hsf := hbf.size
    obtain ⟨hcf, hff⟩ := ifs_of hbf; have hsf := hbf.size; (try simp at hsf)
    obtain ⟨g2, rfl⟩ := own_some hO.r2 (by have := HIl.out; omega)
    have HOf := Lib.hid hO
    clear hO
    have HO0 := Lib.hid (HOf.out.kept (bl_ : Below wf.heap.size wf (wf.alloc (.cells #[.slice D0 y.s.length d0, .slice D1 y.w.length d1, .slice (some ⟨g2, 0, none⟩) y.p.length d2] 26))))
    have HZ0 := Lib.hid (show Blk (wf.alloc (.cells #[.slice D0 y.s.length d0, .slice D1 y.w.length d1, .slice (some ⟨g2, 0, none⟩) y.p.length d2] 26)) (w.heap.size + 1) 26 #[.slice none 0 0, .slice none 0 0, .slice none 0 0] from bk_)
    have HBf := Lib.hid (bl_ : Below w.heap.size w (wf.alloc (.cells #[.slice D0 y.s.length d0, .slice D1 y.w.length d1, .slice (some ⟨g2, 0, none⟩) y.p.length d2] 26)))
    obtain ⟨hcap, hm⟩ := own_cap HO0.out.r2
    obtain ⟨ht, ⟨i0, z0, hi0, hz0, hz1, hz2, hz3⟩, hp⟩ := elemPmR
    generalize hWo : wf.alloc (.cells #[.slice D0 y.s.length d0, .slice D1 y.w.length d1, .slice (some ⟨g2, 0, none⟩) y.p.length d2] 26) = Wo at HO0 HZ0 HBf
    have HB11 := Lib.hid (show Blk Wo wf.heap.size 26 #[.slice D0 y.s.length d0, .slice D1 y.w.length d1, .slice (some ⟨g2, 0, none⟩) y.p.length d2] by rw [← hWo]; exact Blk.new _ _ _)
    have HWo := Lib.hid hWo
    clear hWo
    obtain ⟨A, hA, hnews, hlive⟩ := erase_cells (w := Wo.drew) (Own.drew HO0.out.r2) HIl.out
    have s1 : Hid ((pms (y.p.drop (i + 1))).length = (y.p.length - (i + 1)) * 2) := by show _ = _; rw [pms_len, List.length_drop]
    have s2 : Hid (∀ u ∈ pms (y.p.drop (i + 1)), u.oneCell' = true) := pms_one _
    obtain ⟨W1, hW1⟩ : ∃ W1, W1 = Wo.drew.setCells g2 (0 + i * 2) (pms (y.p.drop (i + 1))) := ⟨_, rfl⟩
    have hE := own_erase (w := Wo.drew) (Own.drew HO0.out.r2) HIl.out
    rw [← Nat.zero_add (i * 2), ← hW1] at hE
    obtain ⟨hE1, hE2⟩ := hE
    have hW := Lib.hid hW1
    clear hW1
    rw [← HEL.out] at hE1
    have hgl := (Own.lt HO0.out.r2).1
    have hk' : ∀ k t c, Blk Wo k t c → (Value.slice (some ⟨g2, 0, none⟩) y.p.length d2).ownBlock ≠ some k → Blk W1 k t c := fun k t c hb hne => Blk.grown (w := Wo.drew) hb hE2 (fun e => hne e.symm)
    have hOn := HO0.out.app hk' (by decide) (by decide) hE1
    have b11 := hk' _ _ _ HB11.out (row_own_neW HO0.out.r2 HB11.out (by decide))
    have bz := hk' _ _ _ HZ0.out (row_own_neW HO0.out.r2 HZ0.out (by decide))
    have hbl : Below w.heap.size w W1 := Below.grown (w := Wo.drew) ⟨HBf.out.os, HBf.out.tape, HBf.out.output, HBf.out.size, HBf.out.block⟩ hE2 HBf.out.size (fun k e => by cases e; omega)
    have hnz : wf.heap.size ≠ w.heap.size + 1 := by omega
    have hO1 := hOn.far (i := 2) b11 (.slice (some ⟨g2, 0, none⟩) (i + (y.p.length - (i + 1))) d2) (by decide) (by decide) (by decide)
    have bz1 := bz.far (p := ⟨wf.heap.size, 2, none⟩) (fun e => hnz e.symm) (.slice (some ⟨g2, 0, none⟩) (i + (y.p.length - (i + 1))) d2)
    have hO6 := ((hO1.far (i := 0) bz1 (.slice D0 y.s.length d0) (by decide) (by decide) (by decide)).far (i := 1) (bz1.set_ 0 _) (.slice D1 y.w.length d1) (by decide) (by decide) (by decide)).far (i := 2) ((bz1.set_ 0 _).set_ 1 _) (.slice (some ⟨g2, 0, none⟩) (i + (y.p.length - (i + 1))) d2) (by decide) (by decide) (by decide)
    have hbl6 := (((hbl.setCell (p := ⟨wf.heap.size, 2, none⟩) (by simp; omega) (.slice (some ⟨g2, 0, none⟩) (i + (y.p.length - (i + 1))) d2)).setCell (p := ⟨w.heap.size + 1, 0, none⟩) (by simp) (.slice D0 y.s.length d0)).setCell (p := ⟨w.heap.size + 1, 1, none⟩) (by simp) (.slice D1 y.w.length d1)).setCell (p := ⟨w.heap.size + 1, 2, none⟩) (by simp) (.slice (some ⟨g2, 0, none⟩) (i + (y.p.length - (i + 1))) d2)
    have ck := (((bz1.set_ 0 (.slice D0 y.s.length d0)).set_ 1 (.slice D1 y.w.length d1)).set_ 2 (.slice (some ⟨g2, 0, none⟩) (i + (y.p.length - (i + 1))) d2)).cell
    have HO6 := Lib.hid (And.intro hO6 hbl6)
    have c11 := b11.cell
    have f11 := b11.frozen
    have l11 := b11.lt
    have cz := bz.cell
    have fz := bz.frozen
    have lz := bz.lt
    have hil2 := HIl.out
    have hcell := HB11.out.cell
    have hwr : IntKind.i64.wrap ((i : Int) + 1) = (i : Int) + 1 := by rw [IntKind.wrap_i64]; unfold maxLen at hm; omega
    have hp0 : (0 : Int) ≤ (i : Int) + 1 := by omega
    have hp1 : (i : Int) + 1 ≤ (y.p.length : Int) := by omega
    have hp2 : ((i : Int) + 1).toNat = i + 1 := by omega
    have hic : i ≤ d2 := by omega
    have hjc : i + 1 ≤ d2 := by omega
    unfold maxLen at hm
    clear hO6 hbl6 hO1 bz1 hOn hbl b11 bz hk' hE1 hE2
    go_wp2_with fail
    rw [HWo.out]
    go_region_law (refine step_append_room rfl (.tmp 22) (.tmp 27) 24 rfl 72 i0 2 ht hi0 hz1 g2 0 i d2 (by simp [Act.eval, Act.put]) A (y.p.length - (i + 1)) (d2 - (i + 1)) (pms (y.p.drop (i + 1))) (by simp [Act.eval, Act.put]) s1.out hnews.out s2.out (by omega) hlive.out ?_; rw [← hW.out])
    all_goals
      go_wp2_with fail
      refine bodyPost_ret (v := .tuple #[.agg #[.slice D0 y.s.length d0, .slice D1 y.w.length d1, .slice (some ⟨g2, 0, none⟩) (i + (y.p.length - (i + 1))) d2], .int .i64 0]) ?_ rfl (YdRRes.mv (Or.inl ⟨rfl, D0, D1, some ⟨g2, 0, none⟩, d0, d1, d2, ?_, ?_, HO6.out.2⟩))
      · simp [results, Tryz.results66, go_sem, ck]
      · rw [HRY.out]
        show Ending.returned (.tuple #[.agg #[_, _, .slice _ (i + (y.p.length - (i + 1))) _], _]) = .returned (.tuple #[.agg #[_, _, .slice _ (y.p.eraseIdx i).length _], _])
        rw [HEL.out, show i + (y.p.length - (i + 1)) = y.p.length - 1 by omega]
      · rw [HRY.out]
        exact HO6.out.1.low (by omega)
end Go.Proofs.YtphlojgmfkgeiaaGreatDoor
