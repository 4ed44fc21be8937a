/- Return. -/
import Derived.Test.YtphlojgmfkgeiaaGreatDoorXA
import Derived.Test.YtphlojgmfkgeiaaGreatDoorEE
namespace Go.Proofs.YtphlojgmfkgeiaaGreatDoor
open Go.RowKit Go.Sort Go.Shelf
set_option linter.unusedSimpArgs false
set_option linter.unusedVariables false
attribute [local go_sem] cell_if frozen_if grow_cell
theorem OwnYd.cut {base : Nat} {y : Yd} {v0 v2 v' : Value} {g : Nat} {w w' : World} {z : List Pm} (h : OwnYd base y v0 v2 g w) (hk : ∀ k t c, Blk w k t c → v2.ownBlock ≠ some k → Blk w' k t c) (hn : w'.ownsRow base 117 2 v' z.length (pms z)) : OwnYd base { y with p := z } v0 v' g w' := by
  refine ⟨row_kept h.1 fun k c hb => ?_, hk _ _ _ h.2.1 (row_own_neW h.2.2.2 h.2.1 (by decide)), h.2.2.1, hn⟩
  exact (hk k _ c hb (row_own_neW h.2.2.2 hb (by decide))).trans hb.symm
theorem retF_any (x : Pm) (nm : ByteArray) (g : Nat) (w : World) (hb : Blk w g 9 #[.string nm]) :
    Calls Tryz.prog 138 #[.agg #[.string x.n, .int .i64 x.s], .pointer (some ⟨g, 0, none⟩)] w fun e w' => e = .returned (.bool (x.n.toList == nm.toList)) ∧ Below w.heap.size w w' := by
  have hc := hb.cell
  have hf := hb.frozen
  have hl := hb.lt
  obtain ⟨xn, xs⟩ := x
  dsimp only
  go_enter Tryz.func138, Tryz.ntmps138
  go_wp2_with fail
  all_goals (go_ret; exact ⟨by simp [*], bl_⟩)
set_option maxRecDepth 100000 in
set_option maxHeartbeats 2000000 in
theorem Return_any (B : Nat) (A0 A1 A2 : Option Addr) (n0 n1 n2 c0 c1 c2 : Nat) (y : Yd) (w : World) (hY : YdAt w B A0 A1 A2 n0 n1 n2 y) (hB : B ≤ w.heap.size) (hT : Tabs w) (hF : Fits y) (nm : ByteArray) : Calls Tryz.prog 60 #[.agg #[.slice A0 n0 c0, .slice A1 n1 c1, .slice A2 n2 c2], .string nm] w (MvR w (retE y nm) (retY y nm)) := by
  have hl0 := (sec_at hY.hs).1
  have hl1 := (sw_at hY.hw).1
  have hl2 := (pm_at hY.hp).1
  have hn2 : n2 ≤ 9 := by have := hF.p9; omega
  have H1 := Lib.hid (fun W (hW : Below w.heap.size w W) => CheckYard_any B A0 A1 A2 n0 n1 n2 c0 c1 c2 y W (hY.below (hW.mono hB)) (by have := hW.size; omega) (hT.kept hW) hF)
  have HI := Lib.hid (fun W (hW : Below w.heap.size w W) (h2 : w.heap.size + 1 < W.heap.size) (hb : Blk W (w.heap.size + 1) 9 #[.string nm]) => IndexFuncPm_any 138 #[.pointer (some ⟨w.heap.size + 1, 0, none⟩)] B A2 n2 c2 y.p (fun x => x.n.toList == nm.toList) W (hY.hp.below (hW.mono hB)) (by have := hW.size; omega) (by omega) (enters_of Tryz.func138 (by kernel_rfl) rfl) (fun W' hW' x _ => by simpa using retF_any x nm (w.heap.size + 1) W' (hb.kept hW')))
  have HOw := Lib.hid (fun W (hW : Below w.heap.size w W) => owned_any B A0 A1 A2 n0 n1 n2 c0 c1 c2 y W (hY.below (hW.mono hB)) (by have := hW.size; omega) (by have := hF.s9; omega) (by have := hF.w9; omega) (by omega))
  change Hid (∀ W hW h2 hb, Calls _ _ _ W fun e w' => e = .returned (.int .i64 (pmAt y nm)) ∧ _) at HI
  have hbd := pmAt_bd y nm
  have HL2 := Lib.hid hl2
  by_cases hee : yardE y = 0
  case neg =>
    have HM : Hid (retE y nm = yardE y) := by show _ = _; unfold retE; rw [or0_neg hee]
    rw [HM.out]
    clear hY hT hF HM HI HOw hl0 hl1 hl2 hbd
    generalize yardE y = ee at *
    go_enter Tryz.func60, Tryz.ntmps60
    go_wp2_with fail
    refine (H1.out _ bl_).mono ?_
    (rintro e w1 ⟨rfl, hb1⟩; have hs1 := hb1.size; (try simp at hs1))
    obtain ⟨hc1, hf1⟩ := ifs_of hb1; have hs1 := hb1.size; (try simp at hs1)
    go_wp2_with fail
    refine bodyPost_ret (v := .tuple #[zeroY, .int .i64 ee]) ?_ rfl (Or.inr ⟨hee, rfl, bl_⟩)
    have ck := (bk_ : Blk w1 (w.heap.size + 2) 41 #[.slice none 0 0, .slice none 0 0, .slice none 0 0])
    have ck := (((ck.set_ 0 (.slice none 0 0)).set_ 1 (.slice none 0 0)).set_ 2 (.slice none 0 0)).cell
    simp [results, Tryz.results60, go_sem, zeroY, ck]
  case pos =>
    rw [hee] at H1
    by_cases hi : pmAt y nm < 0
    · have HM : Hid (retE y nm = 10) := by show _ = _; unfold retE; rw [or0_pos hee, decide_eq_true hi]; rfl
      rw [HM.out]
      clear hY hT hF HM HOw hl0 hl1 hl2 hbd
      generalize pmAt y nm = si at *
      go_enter Tryz.func60, Tryz.ntmps60
      go_wp2_with fail
      refine (H1.out _ bl_).mono ?_
      (rintro e w1 ⟨rfl, hb1⟩; have hs1 := hb1.size; (try simp at hs1))
      obtain ⟨hc1, hf1⟩ := ifs_of hb1; have hs1 := hb1.size; (try simp at hs1)
      go_wp2_with fail
      refine (HI.out _ bl_ (by omega) bk_).mono ?_
      (rintro e w2 ⟨rfl, hb2⟩; have hs2 := hb2.size; (try simp at hs2))
      obtain ⟨hc2, hf2⟩ := ifs_of hb2; have hs2 := hb2.size; (try simp at hs2)
      go_wp2_with fail
      refine bodyPost_ret (v := .tuple #[zeroY, .int .i64 10]) ?_ rfl (Or.inr ⟨by decide, rfl, bl_⟩)
      have ck := (bk_ : Blk w2 (w.heap.size + 2) 41 #[.slice none 0 0, .slice none 0 0, .slice none 0 0])
      have ck := (((ck.set_ 0 (.slice none 0 0)).set_ 1 (.slice none 0 0)).set_ 2 (.slice none 0 0)).cell
      simp [results, Tryz.results60, go_sem, zeroY, ck]
    · have HM : Hid (retE y nm = 0) := by show _ = _; unfold retE; rw [or0_pos hee, decide_eq_false hi]; rfl
      rw [HM.out]
      obtain ⟨i, hie⟩ := Int.eq_ofNat_of_zero_le (show 0 ≤ pmAt y nm by omega)
      have hil : i < y.p.length := by omega
      have HRY : Hid (retY y nm = { y with p := y.p.eraseIdx i }) := by show _ = _; unfold retY; rw [hie]; rfl
      have HEL : Hid ((y.p.eraseIdx i).length = y.p.length - 1) := by show _ = _; rw [List.length_eraseIdx, if_pos hil]
      rw [hie] at HI
      have hp9 := hF.p9
      have HIl := Lib.hid hil
      clear hY hT hF HM hl0 hl1 hl2 hbd hi hie hee
      go_enter Tryz.func60, Tryz.ntmps60
      go_wp2_with fail
      refine (H1.out _ bl_).mono ?_
      (rintro e w1 ⟨rfl, hb1⟩; have hs1 := hb1.size; (try simp at hs1))
      obtain ⟨hc1, hf1⟩ := ifs_of hb1; have hs1 := hb1.size; (try simp at hs1)
      go_wp2_with fail
      refine (HI.out _ bl_ (by omega) bk_).mono ?_
      (rintro e w2 ⟨rfl, hb2⟩; have hs2 := hb2.size; (try simp at hs2))
      obtain ⟨hc2, hf2⟩ := ifs_of hb2; have hs2 := hb2.size; (try simp at hs2)
      go_wp2_with fail
      refine (HOw.out _ bl_).mono ?_
      rintro e wf ⟨D0, D2, d0, d2, g, rfl, hO, hbf⟩
      have hsf := hbf.size
      obtain ⟨hcf, hff⟩ := ifs_of hbf; have hsf := hbf.size; (try simp at hsf)
      obtain ⟨g2, rfl⟩ := own_some hO.2.2.2 (by have := HIl.out; omega)
      have HOf := Lib.hid hO
      clear hO
      have HO0 := Lib.hid (HOf.out.kept (bl_ : Below wf.heap.size wf (wf.alloc (.cells #[.slice D0 y.s.length d0, .slice (some ⟨g, 0, none⟩) y.w.length y.w.length, .slice (some ⟨g2, 0, none⟩) y.p.length d2] 41))))
      have HZ0 := Lib.hid (show Blk (wf.alloc (.cells #[.slice D0 y.s.length d0, .slice (some ⟨g, 0, none⟩) y.w.length y.w.length, .slice (some ⟨g2, 0, none⟩) y.p.length d2] 41)) (w.heap.size + 2) 41 #[.slice none 0 0, .slice none 0 0, .slice none 0 0] from bk_)
      have HBf := Lib.hid (bl_ : Below w.heap.size w (wf.alloc (.cells #[.slice D0 y.s.length d0, .slice (some ⟨g, 0, none⟩) y.w.length y.w.length, .slice (some ⟨g2, 0, none⟩) y.p.length d2] 41)))
      go_wp2_with fail
      refine (Delete_any _ g2 d2 i y.p _ HO0.out.2.2.2 HIl.out).mono ?_
      rintro e w' ⟨rfl, hown', hg'⟩
      have hgl := (Own.lt HO0.out.2.2.2).1
      have hk' : ∀ k t c, Blk (wf.alloc (.cells #[.slice D0 y.s.length d0, .slice (some ⟨g, 0, none⟩) y.w.length y.w.length, .slice (some ⟨g2, 0, none⟩) y.p.length d2] 41)) k t c → (Value.slice (some ⟨g2, 0, none⟩) y.p.length d2).ownBlock ≠ some k → Blk w' k t c := fun k t c hb hne => hb.grown hg' (fun e => hne e.symm)
      rw [← HEL.out] at hown'
      have hOn := HO0.out.cut hk' hown'
      have b11 := hk' _ _ _ (Blk.new wf 41 #[.slice D0 y.s.length d0, .slice (some ⟨g, 0, none⟩) y.w.length y.w.length, .slice (some ⟨g2, 0, none⟩) y.p.length d2]) (row_own_neW HO0.out.2.2.2 (Blk.new wf 41 _) (by decide))
      have bz := hk' _ _ _ HZ0.out (row_own_neW HO0.out.2.2.2 HZ0.out (by decide))
      have hbl := HBf.out.grown hg' (by simp; omega) (fun k e => by cases e; omega)
      have hnz : wf.heap.size ≠ w.heap.size + 2 := by omega
      have hO1 := hOn.far (i := 2) b11 (.slice (some ⟨g2, 0, none⟩) (y.p.length - 1) d2) (by decide) (by decide) (by decide)
      have bz1 := bz.far (p := ⟨wf.heap.size, 2, none⟩) (fun e => hnz e.symm) (.slice (some ⟨g2, 0, none⟩) (y.p.length - 1) d2)
      have hO6 := ((hO1.far (i := 0) bz1 (.slice D0 y.s.length d0) (by decide) (by decide) (by decide)).far (i := 1) (bz1.set_ 0 _) (.slice (some ⟨g, 0, none⟩) y.w.length y.w.length) (by decide) (by decide) (by decide)).far (i := 2) ((bz1.set_ 0 _).set_ 1 _) (.slice (some ⟨g2, 0, none⟩) (y.p.length - 1) d2) (by decide) (by decide) (by decide)
      have hbl6 := (((hbl.setCell (p := ⟨wf.heap.size, 2, none⟩) (by simp; omega) (.slice (some ⟨g2, 0, none⟩) (y.p.length - 1) d2)).setCell (p := ⟨w.heap.size + 2, 0, none⟩) (by simp) (.slice D0 y.s.length d0)).setCell (p := ⟨w.heap.size + 2, 1, none⟩) (by simp) (.slice (some ⟨g, 0, none⟩) y.w.length y.w.length)).setCell (p := ⟨w.heap.size + 2, 2, none⟩) (by simp) (.slice (some ⟨g2, 0, none⟩) (y.p.length - 1) d2)
      have ck := (((bz1.set_ 0 (.slice D0 y.s.length d0)).set_ 1 (.slice (some ⟨g, 0, none⟩) y.w.length y.w.length)).set_ 2 (.slice (some ⟨g2, 0, none⟩) (y.p.length - 1) d2)).cell
      have HO6 := Lib.hid (And.intro hO6 hbl6)
      have c11 := b11.cell
      have f11 := b11.frozen
      have l11 := b11.lt
      have cz := bz.cell
      have fz := bz.frozen
      have lz := bz.lt
      clear hO6 hbl6 hO1 bz1 hOn hbl b11 bz hk' hown' hg'
      go_wp2
      refine bodyPost_ret (v := .tuple #[.agg #[.slice D0 y.s.length d0, .slice (some ⟨g, 0, none⟩) y.w.length y.w.length, .slice (some ⟨g2, 0, none⟩) (y.p.length - 1) d2], .int .i64 0]) ?_ rfl (YdERes.mv (Or.inl ⟨rfl, D0, some ⟨g2, 0, none⟩, d0, d2, g, ?_, ?_, HO6.out.2⟩))
      · simp [results, Tryz.results60, go_sem, ck]
      · rw [HRY.out]
        show Ending.returned (.tuple #[.agg #[_, _, .slice _ (y.p.length - 1) _], _]) = .returned (.tuple #[.agg #[_, _, .slice _ (y.p.eraseIdx i).length _], _])
        rw [HEL.out]
      · rw [HRY.out]
        show OwnYd _ _ _ (.slice _ (y.p.eraseIdx i).length _) _ _
        exact HO6.out.1.base (by omega)
end Go.Proofs.YtphlojgmfkgeiaaGreatDoor
