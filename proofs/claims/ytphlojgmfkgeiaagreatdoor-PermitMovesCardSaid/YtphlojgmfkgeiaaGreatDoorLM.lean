/- The law PermitMoves. -/
import Derived.Test.YtphlojgmfkgeiaaGreatDoorXB
import Derived.Test.YtphlojgmfkgeiaaGreatDoorXD
import Derived.Test.YtphlojgmfkgeiaaGreatDoorXH
import Derived.Test.YtphlojgmfkgeiaaGreatDoorSA
import Derived.Test.YtphlojgmfkgeiaaGreatDoorWL
import Derived.Deep.DeepCutAuto
namespace Go.Proofs.YtphlojgmfkgeiaaGreatDoor
open Go.RowKit Go.Sort Go.Shelf
set_option linter.unusedSimpArgs false
set_option linter.unusedVariables false
attribute [local go_sem] cell_if frozen_if grow_cell
def lens9M (y : Yd) : Prop := y.s.length ≤ 10 ∧ y.w.length ≤ 10 ∧ y.p.length ≤ 10
theorem okY_len {er : Int} {z : Yd} (h : lens9M z) : lens9M (okY er z) := by
  unfold okY
  split
  · exact h
  · exact ⟨Nat.zero_le _, Nat.zero_le _, Nat.zero_le _⟩
theorem mv_len9 {y : Yd} (h : Fits y) (i : Nat) : lens9M (y.mv i) := by
  have h1 := (fits_mv h i).s9
  have h2 := (fits_mv h i).w9
  have h3 := (fits_mv h i).p9
  exact ⟨by omega, by omega, by omega⟩
theorem gr_len9 {y : Yd} (h : Fits y) (nm sc : ByteArray) : lens9M (grantY y nm sc) := by
  have h1 := h.s9
  have h2 := h.w9
  have h3 := h.p9
  refine ⟨by show y.s.length ≤ 10; omega, by show y.w.length ≤ 10; omega, ?_⟩
  show (y.p ++ [_]).length ≤ 10
  simp; omega
theorem ret_len9 {y : Yd} (h : Fits y) (nm : ByteArray) : lens9M (retY y nm) := by
  have h1 := h.s9
  have h2 := h.w9
  have h3 := h.p9
  have h4 : (y.p.eraseIdx (pmAt y nm).toNat).length ≤ y.p.length := (List.eraseIdx_sublist ..).length_le
  exact ⟨by show y.s.length ≤ 10; omega, by show y.w.length ≤ 10; omega, by show (y.p.eraseIdx _).length ≤ 10; omega⟩
/-- What a call leaves in a block of the law: a yard. -/
structure YdB (T : TypeId) (z : Yd) (b : Nat) (E0 E1 E2 : Option Addr) (e0 e1 e2 : Nat) (W : World) : Prop where
  blk : Blk W b T #[.slice E0 z.s.length e0, .slice E1 z.w.length e1, .slice E2 z.p.length e2]
  yd : YdAt W W.heap.size E0 E1 E2 z.s.length z.w.length z.p.length z
theorem YdB.kept {T : TypeId} {z : Yd} {b : Nat} {E0 E1 E2 : Option Addr} {e0 e1 e2 : Nat} {W W' : World} (h : YdB T z b E0 E1 E2 e0 e1 e2 W) (hb : Below W.heap.size W W') : YdB T z b E0 E1 E2 e0 e1 e2 W' := ⟨h.blk.kept hb, yd_kept h.yd hb⟩
theorem YdB.box3 {T : TypeId} {z : Yd} {b : Nat} {E0 E1 E2 : Option Addr} {e0 e1 e2 : Nat} {W : World} {g k0 k1 k2 l0 l1 l2 : Nat} {t : TypeId} {a0 a1 a2 b0 b1 b2 : Option Addr} {d0 d1 d2 c0 c1 c2 : Nat} (h : YdB T z b E0 E1 E2 e0 e1 e2 W) (hb : Blk W g t #[.slice a0 k0 d0, .slice a1 k1 d1, .slice a2 k2 d2]) (hne : b ≠ g) :
    YdB T z b E0 E1 E2 e0 e1 e2 (((W.setCell ⟨g, 0, none⟩ (.slice b0 l0 c0)).setCell ⟨g, 1, none⟩ (.slice b1 l1 c1)).setCell ⟨g, 2, none⟩ (.slice b2 l2 c2)) :=
  ⟨h.blk.far3 hne _ _ _, h.yd.box3 hb⟩
set_option maxRecDepth 1000000 in
set_option maxHeartbeats 20000000 in
theorem moves_law (A0 A1 A2 : Option Addr) (n0 n1 n2 c0 c1 c2 : Nat) (y : Yd) (xw xp xs : ByteArray) (w : World) (hY : YdAt w w.heap.size A0 A1 A2 n0 n1 n2 y) (h0 : n0 ≤ maxLen) (h1 : n1 ≤ maxLen) (h2 : n2 ≤ maxLen) (hW : Wide y) (hT : Tabs w) :
    Calls Tryz.prog 8 #[.agg #[.slice A0 n0 c0, .slice A1 n1 c1, .slice A2 n2 c2], .agg #[.string xw, .string xp, .string xs]] w fun e w' => e = .returned (.bool true) ∧ Below w.heap.size w w' := by
  have HY := Lib.hid hY
  have HT := Lib.hid (fun W (hW : Below w.heap.size w W) => hT.kept hW)
  have HAw := Lib.hid (fun W (hW : Below w.heap.size w W) => awake_any W (hT.kept hW))
  have HSh := Lib.hid (fun W (hW : Below w.heap.size w W) => Short_any w.heap.size A0 A1 A2 n0 n1 n2 c0 c1 c2 y W (hY.below hW) hW.size h0 h1 h2)
  have hl0 := (sec_at hY.hs).1
  have hl1 := (sw_at hY.hw).1
  have hl2 := (pm_at hY.hp).1
  have HF := Lib.hid (fun h => hW.fits (y := y) h)
  have HL0 := Lib.hid hl0
  have HL1 := Lib.hid hl1
  have HL2 := Lib.hid hl2
  clear hY hT h0 h1 h2 hW hl0 hl1 hl2
  cases hS : shortY y with
  | false =>
    rw [hS] at HSh
    clear hS
    go_enter Tryz.func8, Tryz.ntmps8
    go_wp2_with fail
    refine (HAw.out _ bl_).mono ?_
    (rintro e w1 ⟨rfl, hb1⟩; have hs1 := hb1.size; (try simp at hs1))
    have HB1 := Lib.hid (bl_ : Below w.heap.size w w1)
    have BY := Lib.hid (bk_ : Blk w1 w.heap.size 26 #[.slice A0 n0 c0, .slice A1 n1 c1, .slice A2 n2 c2])
    have BG := Lib.hid (bk_ : Blk w1 (w.heap.size + 1) 92 #[.string xw, .string xp, .string xs])
    have cY := BY.out.cell
    have lY := BY.out.lt
    have cG := BG.out.cell
    have lG := BG.out.lt
    clear hb1
    go_wp2_with fail
    refine (HSh.out _ HB1.out).mono ?_
    (rintro e w2 ⟨rfl, hb2⟩; have hs2 := hb2.size; (try simp at hs2))
    have HB2 := Lib.hid (HB1.out.trans (hb2.mono HB1.out.size))
    have hs02 := HB2.out.size
    replace BY := Lib.hid (BY.out.kept hb2)
    replace cY := BY.out.cell
    replace lY := BY.out.lt
    (try replace BG := Lib.hid (BG.out.kept hb2))
    (try replace cG := BG.out.cell)
    (try replace lG := BG.out.lt)
    clear hb2
    go_wp2_with fail
    refine (HAw.out _ HB2.out).mono ?_
    rintro e wz ⟨rfl, hbz⟩
    go_wp2_with fail
    go_ret
    exact ⟨rfl, HB2.out.trans (hbz.mono HB2.out.size)⟩
  | true =>
    rw [hS] at HSh
    by_cases hz1 : xw.size ≤ 40
    case neg =>
      have hz : (40 : Int) < (xw.size : Int) := by omega
      clear hS hz1
      go_enter Tryz.func8, Tryz.ntmps8
      go_wp2_with fail
      refine (HAw.out _ bl_).mono ?_
      (rintro e w1 ⟨rfl, hb1⟩; have hs1 := hb1.size; (try simp at hs1))
      have HB1 := Lib.hid (bl_ : Below w.heap.size w w1)
      have BY := Lib.hid (bk_ : Blk w1 w.heap.size 26 #[.slice A0 n0 c0, .slice A1 n1 c1, .slice A2 n2 c2])
      have BG := Lib.hid (bk_ : Blk w1 (w.heap.size + 1) 92 #[.string xw, .string xp, .string xs])
      have cY := BY.out.cell
      have lY := BY.out.lt
      have cG := BG.out.cell
      have lG := BG.out.lt
      clear hb1
      go_wp2_with fail
      refine (HSh.out _ HB1.out).mono ?_
      (rintro e w2 ⟨rfl, hb2⟩; have hs2 := hb2.size; (try simp at hs2))
      have HB2 := Lib.hid (HB1.out.trans (hb2.mono HB1.out.size))
      have hs02 := HB2.out.size
      replace BY := Lib.hid (BY.out.kept hb2)
      replace cY := BY.out.cell
      replace lY := BY.out.lt
      (try replace BG := Lib.hid (BG.out.kept hb2))
      (try replace cG := BG.out.cell)
      (try replace lG := BG.out.lt)
      clear hb2
      go_wp2_with fail
      refine (HAw.out _ HB2.out).mono ?_
      rintro e wz ⟨rfl, hbz⟩
      go_wp2_with fail
      go_ret
      exact ⟨rfl, HB2.out.trans (hbz.mono HB2.out.size)⟩
    by_cases hz2 : xp.size ≤ 40
    case neg =>
      have hza : ¬ (40 : Int) < (xw.size : Int) := by omega
      have hz : (40 : Int) < (xp.size : Int) := by omega
      clear hS hz1 hz2
      go_enter Tryz.func8, Tryz.ntmps8
      go_wp2_with fail
      refine (HAw.out _ bl_).mono ?_
      (rintro e w1 ⟨rfl, hb1⟩; have hs1 := hb1.size; (try simp at hs1))
      have HB1 := Lib.hid (bl_ : Below w.heap.size w w1)
      have BY := Lib.hid (bk_ : Blk w1 w.heap.size 26 #[.slice A0 n0 c0, .slice A1 n1 c1, .slice A2 n2 c2])
      have BG := Lib.hid (bk_ : Blk w1 (w.heap.size + 1) 92 #[.string xw, .string xp, .string xs])
      have cY := BY.out.cell
      have lY := BY.out.lt
      have cG := BG.out.cell
      have lG := BG.out.lt
      clear hb1
      go_wp2_with fail
      refine (HSh.out _ HB1.out).mono ?_
      (rintro e w2 ⟨rfl, hb2⟩; have hs2 := hb2.size; (try simp at hs2))
      have HB2 := Lib.hid (HB1.out.trans (hb2.mono HB1.out.size))
      have hs02 := HB2.out.size
      replace BY := Lib.hid (BY.out.kept hb2)
      replace cY := BY.out.cell
      replace lY := BY.out.lt
      (try replace BG := Lib.hid (BG.out.kept hb2))
      (try replace cG := BG.out.cell)
      (try replace lG := BG.out.lt)
      clear hb2
      go_wp2_with fail
      refine (HAw.out _ HB2.out).mono ?_
      rintro e wz ⟨rfl, hbz⟩
      go_wp2_with fail
      go_ret
      exact ⟨rfl, HB2.out.trans (hbz.mono HB2.out.size)⟩
    by_cases hz3 : xs.size ≤ 40
    case neg =>
      have hza : ¬ (40 : Int) < (xw.size : Int) := by omega
      have hzb : ¬ (40 : Int) < (xp.size : Int) := by omega
      have hz : (40 : Int) < (xs.size : Int) := by omega
      clear hS hz1 hz2 hz3
      go_enter Tryz.func8, Tryz.ntmps8
      go_wp2_with fail
      refine (HAw.out _ bl_).mono ?_
      (rintro e w1 ⟨rfl, hb1⟩; have hs1 := hb1.size; (try simp at hs1))
      have HB1 := Lib.hid (bl_ : Below w.heap.size w w1)
      have BY := Lib.hid (bk_ : Blk w1 w.heap.size 26 #[.slice A0 n0 c0, .slice A1 n1 c1, .slice A2 n2 c2])
      have BG := Lib.hid (bk_ : Blk w1 (w.heap.size + 1) 92 #[.string xw, .string xp, .string xs])
      have cY := BY.out.cell
      have lY := BY.out.lt
      have cG := BG.out.cell
      have lG := BG.out.lt
      clear hb1
      go_wp2_with fail
      refine (HSh.out _ HB1.out).mono ?_
      (rintro e w2 ⟨rfl, hb2⟩; have hs2 := hb2.size; (try simp at hs2))
      have HB2 := Lib.hid (HB1.out.trans (hb2.mono HB1.out.size))
      have hs02 := HB2.out.size
      replace BY := Lib.hid (BY.out.kept hb2)
      replace cY := BY.out.cell
      replace lY := BY.out.lt
      (try replace BG := Lib.hid (BG.out.kept hb2))
      (try replace cG := BG.out.cell)
      (try replace lG := BG.out.lt)
      clear hb2
      go_wp2_with fail
      refine (HAw.out _ HB2.out).mono ?_
      rintro e wz ⟨rfl, hbz⟩
      go_wp2_with fail
      go_ret
      exact ⟨rfl, HB2.out.trans (hbz.mono HB2.out.size)⟩
    have hza : ¬ (40 : Int) < (xw.size : Int) := by omega
    have hzb : ¬ (40 : Int) < (xp.size : Int) := by omega
    have hzc : ¬ (40 : Int) < (xs.size : Int) := by omega
    have hF := HF.out hS
    have f0 := hF.s9
    have f1 := hF.w9
    have f2 := hF.p9
    have g0 : n0 ≤ 9 := HL0.out ▸ f0
    have g1 : n1 ≤ 9 := HL1.out ▸ f1
    have g2 : n2 ≤ 9 := HL2.out ▸ f2
    have m2 : xp.size ≤ maxLen := by unfold maxLen; omega
    have m3 : xs.size ≤ maxLen := by unfold maxLen; omega
    have HO := Lib.hid (fun W (hW : Below w.heap.size w W) => (own_any w.heap.size A0 A1 A2 n0 n1 n2 c0 c1 c2 y W (HY.out.below hW) hW.size (by omega) (by omega) (by omega)).mono fun _ _ h => h.sh)
    have HCk := Lib.hid (fun W (hW : Below w.heap.size w W) => rCheckYard_any w.heap.size A0 A1 A2 n0 n1 n2 c0 c1 c2 y W (HY.out.below hW) hW.size hF)
    have HWy := Lib.hid (fun W D0 D1 D2 d0 d1 d2 (hy : YdAt W W.heap.size D0 D1 D2 y.s.length y.w.length y.p.length y) (hW : Below w.heap.size w W) => Why_any W.heap.size D0 D1 D2 y.s.length y.w.length y.p.length d0 d1 d2 y W hy (Nat.le_refl _) (HT.out W hW) hF xw)
    have HMv := Lib.hid (fun W D0 D1 D2 d0 d1 d2 (hy : YdAt W W.heap.size D0 D1 D2 y.s.length y.w.length y.p.length y) (hW : Below w.heap.size w W) => (Move_any W.heap.size D0 D1 D2 y.s.length y.w.length y.p.length d0 d1 d2 y W hy (Nat.le_refl _) (HT.out W hW) hF xw).mono fun _ _ h => (YdERes.mv h).u)
    have HGr := Lib.hid (fun W D0 D1 D2 d0 d1 d2 (hy : YdAt W W.heap.size D0 D1 D2 y.s.length y.w.length y.p.length y) (hW : Below w.heap.size w W) => (Grant_any W.heap.size D0 D1 D2 y.s.length y.w.length y.p.length d0 d1 d2 y W hy (Nat.le_refl _) (HT.out W hW) hF xp xs m2 m3).mono fun _ _ h => (YdERes.mv h).u)
    have HRt := Lib.hid (fun W D0 D1 D2 d0 d1 d2 (hy : YdAt W W.heap.size D0 D1 D2 y.s.length y.w.length y.p.length y) (hW : Below w.heap.size w W) => (Return_any W.heap.size D0 D1 D2 y.s.length y.w.length y.p.length d0 d1 d2 y W hy (Nat.le_refl _) (HT.out W hW) hF xp).mono fun _ _ h => MvR.u h)
    have hm1 := okY_len (er := moveE y xw) (mv_len9 hF (atB y xw).toNat)
    have hm2 := okY_len (er := grantE y xp xs) (gr_len9 hF xp xs)
    have hm3 := okY_len (er := retE y xp) (ret_len9 hF xp)
    have HTd := Lib.hid (fun zz (hz : lens9M zz) W A0 A1 A2 c0 c1 c2 (hy : YdAt W W.heap.size A0 A1 A2 zz.s.length zz.w.length zz.p.length zz) => told_any W.heap.size A0 A1 A2 zz.s.length zz.w.length zz.p.length c0 c1 c2 zz W hy (Nat.le_refl _) (by have := hz.1; omega) (by have := hz.2.1; omega) (by have := hz.2.2; omega))
    have HSa := Lib.hid (fun zz (hz : lens9M zz) W A0 A1 A2 D0 D1 D2 c0 c1 c2 d0 d1 d2 (hy : YdAt W W.heap.size A0 A1 A2 zz.s.length zz.w.length zz.p.length zz) (hz' : YdAt W W.heap.size D0 D1 D2 zz.s.length zz.w.length zz.p.length zz) => Same_any W.heap.size A0 A1 A2 zz.s.length zz.w.length zz.p.length c0 c1 c2 D0 D1 D2 zz.s.length zz.w.length zz.p.length d0 d1 d2 zz W hy hz' (Nat.le_refl _) (by have := hz.1; omega) (by have := hz.2.1; omega) (by have := hz.2.2; omega))
    have hbd := atB_bd y xw
    have HFd := Lib.hid (fun W (hW : Below w.heap.size w W) => FindSw_any w.heap.size A0 A1 A2 n0 n1 n2 c0 c1 c2 y xw W (HY.out.below hW) hW.size (by omega))
    have HrMv := Lib.hid (fun (hP : Parts y) W (hW : Below w.heap.size w W) => (rMove_any w.heap.size A0 A1 A2 n0 n1 n2 c0 c1 c2 y W (HY.out.below hW) hW.size hP xw).mono fun _ _ h => MvR.u (YdRRes.mv h))
    have HrGr := Lib.hid (fun (hP : Parts y) W (hW : Below w.heap.size w W) => (rGrant_any w.heap.size A0 A1 A2 n0 n1 n2 c0 c1 c2 y W (HY.out.below hW) hW.size hP xp xs m2).mono fun _ _ h => MvR.u h)
    have HrRt := Lib.hid (fun (hP : Parts y) W (hW : Below w.heap.size w W) => (rReturn_any w.heap.size A0 A1 A2 n0 n1 n2 c0 c1 c2 y W (HY.out.below hW) hW.size hP xp).mono fun _ _ h => MvR.u h)
    have HrWy := Lib.hid (fun (hP : Parts y) W (hW : Below w.heap.size w W) (i : Nat) (hi : i < y.w.length) => rWhy_any w.heap.size A0 A1 A2 n0 n1 n2 c0 c1 c2 y W (HY.out.below hW) hW.size hP i hi)
    generalize hE0 : findE y xw = er0 at *
    generalize hV0 : whyW y xw = v0 at *
    generalize hE1 : moveE y xw = er1 at *
    generalize hE2 : grantE y xp xs = er2 at *
    generalize hE3 : retE y xp = er3 at *
    generalize hZ1 : okY er1 (y.mv (atB y xw).toNat) = z1 at *
    generalize hZ2 : okY er2 (grantY y xp xs) = z2 at *
    generalize hZ3 : okY er3 (retY y xp) = z3 at *
    have HEQ := Lib.hid (And.intro hE0 (And.intro hV0 (And.intro hE1 (And.intro hE2 (And.intro hE3 (And.intro hZ1 (And.intro hZ2 hZ3)))))))
    have HBD := Lib.hid hbd
    clear hS hz1 hz2 hz3 HF hF HT hE0 hV0 hE1 hE2 hE3 hZ1 hZ2 hZ3 m2 m3 hbd
    go_enter Tryz.func8, Tryz.ntmps8
    go_wp2_with fail
    refine (HAw.out _ bl_).mono ?_
    (rintro e w1 ⟨rfl, hb1⟩; have hs1 := hb1.size; (try simp at hs1))
    have HB1 := Lib.hid (bl_ : Below w.heap.size w w1)
    have BY := Lib.hid (bk_ : Blk w1 w.heap.size 26 #[.slice A0 n0 c0, .slice A1 n1 c1, .slice A2 n2 c2])
    have BG := Lib.hid (bk_ : Blk w1 (w.heap.size + 1) 92 #[.string xw, .string xp, .string xs])
    have cY := BY.out.cell
    have lY := BY.out.lt
    have cG := BG.out.cell
    have lG := BG.out.lt
    clear hb1
    go_wp2_with fail
    refine (HSh.out _ HB1.out).mono ?_
    (rintro e w2 ⟨rfl, hb2⟩; have hs2 := hb2.size; (try simp at hs2))
    have HB2 := Lib.hid (HB1.out.trans (hb2.mono HB1.out.size))
    have hs02 := HB2.out.size
    replace BY := Lib.hid (BY.out.kept hb2)
    replace cY := BY.out.cell
    replace lY := BY.out.lt
    (try replace BG := Lib.hid (BG.out.kept hb2))
    (try replace cG := BG.out.cell)
    (try replace lG := BG.out.lt)
    clear hb2
    go_wp2_with fail
    (refine wp_region_calm [] [0, 2, 3] 7 (by kernel_rfl) rfl (by kernel_rfl) (by kernel_rfl) (by kernel_rfl) ?_; simp only [pickB, List.filterMap_cons, List.filterMap_nil, List.getElem?_toArray, List.getElem?_cons_zero, List.getElem?_cons_succ]; (repeat (first | ((with_reducible refine quietL_plain rfl (fun K hK => ?_)); (apply Exists.intro; refine ⟨fun wx hx => ?_, ?_⟩; (· (have hcx := ifs_ex hx); simp [go_sem, *, ↓IntWalk.iteOmega] <;> (first | rfl | exact ⟨rfl, rfl⟩ | fail)); (simp only [Act.put, List.setIfInBounds_toArray, List.set_cons_zero, List.set_cons_succ]; refine hK _ ?_; clear hK K))) | ((with_reducible refine quietL_skip (by with_unfolding_all rfl) ?_); simp only [Act.put, List.setIfInBounds_toArray, List.set_cons_zero, List.set_cons_succ]) | ((with_reducible refine quietL_want (by with_unfolding_all rfl) (fun K hK => ?_)); (apply Exists.intro; refine ⟨fun wx hx => ?_, ?_⟩; (· (have hcx := ifs_ex hx); simp [go_sem, *, ↓IntWalk.iteOmega] <;> (first | rfl | exact ⟨rfl, rfl⟩ | fail)); (simp only [Act.put, List.setIfInBounds_toArray, List.set_cons_zero, List.set_cons_succ]; refine hK _ ?_; clear hK K))))); refine quietL_nil ?_)
    (refine anyB_one (i := 1) (by kernel_rfl) rfl rfl ?_; intro wa hba K hK; have hsa := hba.size; (try simp at hsa); go_wp2_with fail)
    have HBa := Lib.hid (HB2.out.trans (hba.mono HB2.out.size))
    refine (HO.out _ HBa.out).mono ?_
    rintro e wb ⟨D0, D1, D2, d0, d1, d2, rfl, hyd, hbb⟩
    have hsb := hbb.size
    have HYb := Lib.hid hyd
    have HBb := Lib.hid (HBa.out.trans (hbb.mono HBa.out.size))
    clear hyd
    (go_wp2; refine ⟨xs_, ?_⟩)
    (refine anyB_one (i := 4) (by kernel_rfl) rfl rfl ?_; intro wc hbc K hK; have hsc := hbc.size; (try simp at hsc); go_wp2_with fail)
    have HBc := Lib.hid (HBb.out.trans (hbc.mono HBb.out.size))
    refine (HWy.out _ _ _ _ _ _ _ (yd_kept HYb.out hbc) HBc.out).mono ?_
    rintro e wd ⟨rfl, hbd⟩
    have hsd := hbd.size
    have HBd := Lib.hid (HBc.out.trans (hbd.mono HBc.out.size))
    (go_wp2; refine ⟨xs_, ?_⟩)
    (refine anyB_quiet_at (by kernel_rfl) calm_panic xs_ 2 [5, 6, 7] _ _ (by kernel_rfl) (by decide +kernel) ?_; simp only [pickB, List.filterMap_cons, List.filterMap_nil, List.getElem?_toArray, List.getElem?_cons_zero, List.getElem?_cons_succ]; (repeat ((with_reducible refine quietL_plain rfl (fun K hK => ?_)); (apply Exists.intro; refine ⟨fun wx hx => ?_, ?_⟩; (· (have hcx := ifs_ex hx); simp [go_sem, *, ↓IntWalk.iteOmega] <;> (first | rfl | exact ⟨rfl, rfl⟩ | fail)); (simp only [Act.put, List.setIfInBounds_toArray, List.set_cons_zero, List.set_cons_succ]; refine hK _ ?_; clear hK K)))); refine quietL_nil ?_)
    (refine anyB_one (i := 8) (by kernel_rfl) rfl rfl ?_; intro we hbe K hK; have hse := hbe.size; (try simp at hse); go_wp2; refine ⟨xs_, ?_⟩)
    (refine anyB_one (i := 9) (by kernel_rfl) rfl rfl ?_; intro wf hbf K hK; have hsf := hbf.size; (try simp at hsf); go_wp2; refine ⟨xs_, ?_⟩)
    (refine anyB_end (by kernel_rfl) ?_; intro wg hbg; have hsg := hbg.size; (try simp at hsg); simp only [Calm])
    have hbg3 : Below w2.heap.size w2 wg := bl_
    have HBg := Lib.hid (HB2.out.trans (hbg3.mono HB2.out.size))
    have hs0g := HBg.out.size
    replace BY := Lib.hid (BY.out.kept hbg3)
    replace BG := Lib.hid (BG.out.kept hbg3)
    replace cY := BY.out.cell
    replace lY := BY.out.lt
    replace cG := BG.out.cell
    replace lG := BG.out.lt
    clear hba hbb hbc hbd hbe hbf hbg hbg3 HBa HBb HBc HBd HYb
    go_wp2_with fail
    go_cut [7, 8] (fun s7 s8 wx => ∃ (b : Nat) (E0 E1 E2 : Option Addr) (e0 e1 e2 : Nat), s7 = .pointer (some ⟨b, 0, none⟩) ∧ s8 = .int .i64 (er1) ∧ YdB 41 (z1) b E0 E1 E2 e0 e1 e2 wx ∧ Below wg.heap.size wg wx)
    case first =>
      as_aux_lemma =>
        have HP := Lib.hid (Below.refl wg.heap.size wg)
        (refine wp_region_calm [] [0, 2, 3] 8 (by kernel_rfl) rfl (by kernel_rfl) (by kernel_rfl) (by kernel_rfl) ?_; simp only [pickB, List.filterMap_cons, List.filterMap_nil, List.getElem?_toArray, List.getElem?_cons_zero, List.getElem?_cons_succ]; (repeat (first | ((with_reducible refine quietL_plain rfl (fun K hK => ?_)); (apply Exists.intro; refine ⟨fun wx hx => ?_, ?_⟩; (· (have hcx := ifs_ex hx); simp [go_sem, *, ↓IntWalk.iteOmega] <;> (first | rfl | exact ⟨rfl, rfl⟩ | fail)); (simp only [Act.put, List.setIfInBounds_toArray, List.set_cons_zero, List.set_cons_succ]; refine hK _ ?_; clear hK K))) | ((with_reducible refine quietL_skip (by with_unfolding_all rfl) ?_); simp only [Act.put, List.setIfInBounds_toArray, List.set_cons_zero, List.set_cons_succ]) | ((with_reducible refine quietL_want (by with_unfolding_all rfl) (fun K hK => ?_)); (apply Exists.intro; refine ⟨fun wx hx => ?_, ?_⟩; (· (have hcx := ifs_ex hx); simp [go_sem, *, ↓IntWalk.iteOmega] <;> (first | rfl | exact ⟨rfl, rfl⟩ | fail)); (simp only [Act.put, List.setIfInBounds_toArray, List.set_cons_zero, List.set_cons_succ]; refine hK _ ?_; clear hK K))))); refine quietL_nil ?_)
        refine anyB_two (i := 1) (j := 8) (by kernel_rfl) rfl rfl rfl rfl ?_ ?_
        · skip
          intro wa hba K hK
          have hsa := hba.size
          (try simp at hsa)
          replace HP := Lib.hid (HP.out.trans (hba.mono HP.out.size))
          (try replace B9 := Lib.hid (B9.out.kept hba))
          go_wp2_with fail
          refine (HO.out _ (HBg.out.trans (HP.out.mono HBg.out.size))).mono ?_
          rintro e wb ⟨D0, D1, D2, d0, d1, d2, rfl, hyd, hbb⟩
          have hsb := hbb.size
          have HYb := Lib.hid hyd
          replace HP := Lib.hid (HP.out.trans (hbb.mono HP.out.size))
          (try replace B9 := Lib.hid (B9.out.kept hbb))
          clear hyd
          go_wp2
          refine ⟨xs_, ?_⟩
          refine anyB_two (i := 4) (j := 8) (by kernel_rfl) rfl rfl rfl rfl ?_ ?_
          · skip
            intro wc hbc K hK
            have hsc := hbc.size
            (try simp at hsc)
            replace HP := Lib.hid (HP.out.trans (hbc.mono HP.out.size))
            (try replace B9 := Lib.hid (B9.out.kept hbc))
            replace HYb := Lib.hid (yd_kept HYb.out hbc)
            go_wp2_with fail
            refine (HMv.out _ _ _ _ _ _ _ HYb.out (HBg.out.trans (HP.out.mono HBg.out.size))).mono ?_
            rintro e wd ⟨E0, E1, E2, e0, e1, e2, rfl, hyd, hbd⟩
            have hsd := hbd.size
            have HYd := Lib.hid hyd
            replace HP := Lib.hid (HP.out.trans (hbd.mono HP.out.size))
            (try replace B9 := Lib.hid (B9.out.kept hbd))
            clear hyd HYb
            go_wp2
            refine ⟨xs_, ?_⟩
            (refine anyB_quiet_at (by kernel_rfl) calm_panic xs_ 3 [5, 6, 7] _ _ (by kernel_rfl) (by decide +kernel) ?_; simp only [pickB, List.filterMap_cons, List.filterMap_nil, List.getElem?_toArray, List.getElem?_cons_zero, List.getElem?_cons_succ]; (repeat ((with_reducible refine quietL_plain rfl (fun K hK => ?_)); (apply Exists.intro; refine ⟨fun wx hx => ?_, ?_⟩; (· (have hcx := ifs_ex hx); simp [go_sem, *, ↓IntWalk.iteOmega] <;> (first | rfl | exact ⟨rfl, rfl⟩ | fail)); (simp only [Act.put, List.setIfInBounds_toArray, List.set_cons_zero, List.set_cons_succ]; refine hK _ ?_; clear hK K)))); refine quietL_nil ?_)
            refine anyB_one (i := 8) (by kernel_rfl) rfl rfl ?_
            intro wh hbh K hK
            have hsh := hbh.size
            (try simp at hsh)
            replace HP := Lib.hid (HP.out.trans (hbh.mono HP.out.size))
            replace HP := Lib.hid (HP.out.alloc HP.out.size (.cells #[.slice none 0 0, .slice none 0 0, .slice none 0 0] 41))
            have B9 := Lib.hid (Blk.new wh 41 #[.slice none 0 0, .slice none 0 0, .slice none 0 0])
            (try replace HYb := Lib.hid (yd_kept (yd_kept HYb.out hbh) ((Below.refl _ wh).alloc (Nat.le_refl _) (.cells #[.slice none 0 0, .slice none 0 0, .slice none 0 0] 41))))
            go_wp2
            refine ⟨xs_, ?_⟩
            refine anyB_one (i := 9) (by kernel_rfl) rfl rfl ?_
            intro wi hbi K hK
            have hsi := hbi.size
            (try simp at hsi)
            replace HP := Lib.hid (HP.out.trans (hbi.mono HP.out.size))
            replace B9 := Lib.hid (B9.out.kept hbi)
            have HZ := Lib.hid (HYd.out [wh.heap.size] (fun x hx => by simp at hx; subst hx; first | (left; omega) | (right; omega)))
            have c9 := B9.out.cell
            have f9 := B9.out.frozen
            have l9 := B9.out.lt
            go_wp2
            refine ⟨xs_, ?_⟩
            replace B9 := Lib.hid (B9.out.set3 (.slice E0 (z1).s.length e0) (.slice E1 (z1).w.length e1) (.slice E2 (z1).p.length e2))
            replace HP := Lib.hid (below_set3 HP.out (show _ ≤ wh.heap.size by omega) (.slice E0 (z1).s.length e0) (.slice E1 (z1).w.length e1) (.slice E2 (z1).p.length e2))
            clear c9 f9 l9 HYd
            refine anyB_one (i := 10) (by kernel_rfl) rfl rfl ?_
            intro wj hbj K hK
            have hsj := hbj.size
            (try simp at hsj)
            go_wp2
            refine ⟨xs_, ?_⟩
            refine anyB_end (by kernel_rfl) ?_
            intro wk hbk
            have hsk := hbk.size
            simp only [Calm]
            replace HP := Lib.hid (HP.out.trans (hbj.mono HP.out.size))
            replace HP := Lib.hid (HP.out.trans (hbk.mono HP.out.size))
            replace B9 := Lib.hid ((B9.out.kept hbj).kept hbk)
            have HZk := Lib.hid (HZ.out _ (xs_ : Ex [wh.heap.size] wd wk))
            clear HZ
            go_wp2_with fail
            go_meet
            case rel => exact ⟨wh.heap.size, E0, E1, E2, e0, e1, e2, rfl, rfl, ⟨B9.out, HZk.out⟩, HP.out⟩
          · skip
            intro wh hbh K hK
            have hsh := hbh.size
            (try simp at hsh)
            replace HP := Lib.hid (HP.out.trans (hbh.mono HP.out.size))
            replace HP := Lib.hid (HP.out.alloc HP.out.size (.cells #[.slice none 0 0, .slice none 0 0, .slice none 0 0] 41))
            have B9 := Lib.hid (Blk.new wh 41 #[.slice none 0 0, .slice none 0 0, .slice none 0 0])
            (try replace HYb := Lib.hid (yd_kept (yd_kept HYb.out hbh) ((Below.refl _ wh).alloc (Nat.le_refl _) (.cells #[.slice none 0 0, .slice none 0 0, .slice none 0 0] 41))))
            go_wp2
            refine ⟨xs_, ?_⟩
            refine anyB_one (i := 4) (by kernel_rfl) rfl rfl ?_
            intro wc hbc K hK
            have hsc := hbc.size
            (try simp at hsc)
            replace HP := Lib.hid (HP.out.trans (hbc.mono HP.out.size))
            (try replace B9 := Lib.hid (B9.out.kept hbc))
            replace HYb := Lib.hid (yd_kept HYb.out hbc)
            go_wp2_with fail
            refine (HMv.out _ _ _ _ _ _ _ HYb.out (HBg.out.trans (HP.out.mono HBg.out.size))).mono ?_
            rintro e wd ⟨E0, E1, E2, e0, e1, e2, rfl, hyd, hbd⟩
            have hsd := hbd.size
            have HYd := Lib.hid hyd
            replace HP := Lib.hid (HP.out.trans (hbd.mono HP.out.size))
            (try replace B9 := Lib.hid (B9.out.kept hbd))
            clear hyd HYb
            go_wp2
            refine ⟨xs_, ?_⟩
            (refine anyB_quiet_at (by kernel_rfl) calm_panic xs_ 2 [5, 6, 7] _ _ (by kernel_rfl) (by decide +kernel) ?_; simp only [pickB, List.filterMap_cons, List.filterMap_nil, List.getElem?_toArray, List.getElem?_cons_zero, List.getElem?_cons_succ]; (repeat ((with_reducible refine quietL_plain rfl (fun K hK => ?_)); (apply Exists.intro; refine ⟨fun wx hx => ?_, ?_⟩; (· (have hcx := ifs_ex hx); simp [go_sem, *, ↓IntWalk.iteOmega] <;> (first | rfl | exact ⟨rfl, rfl⟩ | fail)); (simp only [Act.put, List.setIfInBounds_toArray, List.set_cons_zero, List.set_cons_succ]; refine hK _ ?_; clear hK K)))); refine quietL_nil ?_)
            refine anyB_one (i := 9) (by kernel_rfl) rfl rfl ?_
            intro wi hbi K hK
            have hsi := hbi.size
            (try simp at hsi)
            replace HP := Lib.hid (HP.out.trans (hbi.mono HP.out.size))
            replace B9 := Lib.hid (B9.out.kept hbi)
            have HZ := Lib.hid (HYd.out [wh.heap.size] (fun x hx => by simp at hx; subst hx; first | (left; omega) | (right; omega)))
            have c9 := B9.out.cell
            have f9 := B9.out.frozen
            have l9 := B9.out.lt
            go_wp2
            refine ⟨xs_, ?_⟩
            replace B9 := Lib.hid (B9.out.set3 (.slice E0 (z1).s.length e0) (.slice E1 (z1).w.length e1) (.slice E2 (z1).p.length e2))
            replace HP := Lib.hid (below_set3 HP.out (show _ ≤ wh.heap.size by omega) (.slice E0 (z1).s.length e0) (.slice E1 (z1).w.length e1) (.slice E2 (z1).p.length e2))
            clear c9 f9 l9 HYd
            refine anyB_one (i := 10) (by kernel_rfl) rfl rfl ?_
            intro wj hbj K hK
            have hsj := hbj.size
            (try simp at hsj)
            go_wp2
            refine ⟨xs_, ?_⟩
            refine anyB_end (by kernel_rfl) ?_
            intro wk hbk
            have hsk := hbk.size
            simp only [Calm]
            replace HP := Lib.hid (HP.out.trans (hbj.mono HP.out.size))
            replace HP := Lib.hid (HP.out.trans (hbk.mono HP.out.size))
            replace B9 := Lib.hid ((B9.out.kept hbj).kept hbk)
            have HZk := Lib.hid (HZ.out _ (xs_ : Ex [wh.heap.size] wd wk))
            clear HZ
            go_wp2_with fail
            go_meet
            case rel => exact ⟨wh.heap.size, E0, E1, E2, e0, e1, e2, rfl, rfl, ⟨B9.out, HZk.out⟩, HP.out⟩
        · skip
          intro wh hbh K hK
          have hsh := hbh.size
          (try simp at hsh)
          replace HP := Lib.hid (HP.out.trans (hbh.mono HP.out.size))
          replace HP := Lib.hid (HP.out.alloc HP.out.size (.cells #[.slice none 0 0, .slice none 0 0, .slice none 0 0] 41))
          have B9 := Lib.hid (Blk.new wh 41 #[.slice none 0 0, .slice none 0 0, .slice none 0 0])
          (try replace HYb := Lib.hid (yd_kept (yd_kept HYb.out hbh) ((Below.refl _ wh).alloc (Nat.le_refl _) (.cells #[.slice none 0 0, .slice none 0 0, .slice none 0 0] 41))))
          go_wp2
          refine ⟨xs_, ?_⟩
          refine anyB_one (i := 1) (by kernel_rfl) rfl rfl ?_
          intro wa hba K hK
          have hsa := hba.size
          (try simp at hsa)
          replace HP := Lib.hid (HP.out.trans (hba.mono HP.out.size))
          (try replace B9 := Lib.hid (B9.out.kept hba))
          go_wp2_with fail
          refine (HO.out _ (HBg.out.trans (HP.out.mono HBg.out.size))).mono ?_
          rintro e wb ⟨D0, D1, D2, d0, d1, d2, rfl, hyd, hbb⟩
          have hsb := hbb.size
          have HYb := Lib.hid hyd
          replace HP := Lib.hid (HP.out.trans (hbb.mono HP.out.size))
          (try replace B9 := Lib.hid (B9.out.kept hbb))
          clear hyd
          go_wp2
          refine ⟨xs_, ?_⟩
          refine anyB_one (i := 4) (by kernel_rfl) rfl rfl ?_
          intro wc hbc K hK
          have hsc := hbc.size
          (try simp at hsc)
          replace HP := Lib.hid (HP.out.trans (hbc.mono HP.out.size))
          (try replace B9 := Lib.hid (B9.out.kept hbc))
          replace HYb := Lib.hid (yd_kept HYb.out hbc)
          go_wp2_with fail
          refine (HMv.out _ _ _ _ _ _ _ HYb.out (HBg.out.trans (HP.out.mono HBg.out.size))).mono ?_
          rintro e wd ⟨E0, E1, E2, e0, e1, e2, rfl, hyd, hbd⟩
          have hsd := hbd.size
          have HYd := Lib.hid hyd
          replace HP := Lib.hid (HP.out.trans (hbd.mono HP.out.size))
          (try replace B9 := Lib.hid (B9.out.kept hbd))
          clear hyd HYb
          go_wp2
          refine ⟨xs_, ?_⟩
          (refine anyB_quiet_at (by kernel_rfl) calm_panic xs_ 2 [5, 6, 7] _ _ (by kernel_rfl) (by decide +kernel) ?_; simp only [pickB, List.filterMap_cons, List.filterMap_nil, List.getElem?_toArray, List.getElem?_cons_zero, List.getElem?_cons_succ]; (repeat ((with_reducible refine quietL_plain rfl (fun K hK => ?_)); (apply Exists.intro; refine ⟨fun wx hx => ?_, ?_⟩; (· (have hcx := ifs_ex hx); simp [go_sem, *, ↓IntWalk.iteOmega] <;> (first | rfl | exact ⟨rfl, rfl⟩ | fail)); (simp only [Act.put, List.setIfInBounds_toArray, List.set_cons_zero, List.set_cons_succ]; refine hK _ ?_; clear hK K)))); refine quietL_nil ?_)
          refine anyB_one (i := 9) (by kernel_rfl) rfl rfl ?_
          intro wi hbi K hK
          have hsi := hbi.size
          (try simp at hsi)
          replace HP := Lib.hid (HP.out.trans (hbi.mono HP.out.size))
          replace B9 := Lib.hid (B9.out.kept hbi)
          have HZ := Lib.hid (HYd.out [wh.heap.size] (fun x hx => by simp at hx; subst hx; first | (left; omega) | (right; omega)))
          have c9 := B9.out.cell
          have f9 := B9.out.frozen
          have l9 := B9.out.lt
          go_wp2
          refine ⟨xs_, ?_⟩
          replace B9 := Lib.hid (B9.out.set3 (.slice E0 (z1).s.length e0) (.slice E1 (z1).w.length e1) (.slice E2 (z1).p.length e2))
          replace HP := Lib.hid (below_set3 HP.out (show _ ≤ wh.heap.size by omega) (.slice E0 (z1).s.length e0) (.slice E1 (z1).w.length e1) (.slice E2 (z1).p.length e2))
          clear c9 f9 l9 HYd
          refine anyB_one (i := 10) (by kernel_rfl) rfl rfl ?_
          intro wj hbj K hK
          have hsj := hbj.size
          (try simp at hsj)
          go_wp2
          refine ⟨xs_, ?_⟩
          refine anyB_end (by kernel_rfl) ?_
          intro wk hbk
          have hsk := hbk.size
          simp only [Calm]
          replace HP := Lib.hid (HP.out.trans (hbj.mono HP.out.size))
          replace HP := Lib.hid (HP.out.trans (hbk.mono HP.out.size))
          replace B9 := Lib.hid ((B9.out.kept hbj).kept hbk)
          have HZk := Lib.hid (HZ.out _ (xs_ : Ex [wh.heap.size] wd wk))
          clear HZ
          go_wp2_with fail
          go_meet
          case rel => exact ⟨wh.heap.size, E0, E1, E2, e0, e1, e2, rfl, rfl, ⟨B9.out, HZk.out⟩, HP.out⟩
    rename World => wm
    obtain ⟨bm, F0m, F1m, F2m, f0m, f1m, f2m, rfl, rfl, hzm, hbm⟩ := hcut
    (try replace HZm := Lib.hid (HZm.out.kept hbm))
    (try replace HZp := Lib.hid (HZp.out.kept hbm))
    have HZm := Lib.hid hzm
    have hsm := hbm.size
    have HBm := Lib.hid (HBg.out.trans (hbm.mono HBg.out.size))
    have hs0m := HBm.out.size
    replace BY := Lib.hid (BY.out.kept hbm)
    replace cY := BY.out.cell
    replace lY := BY.out.lt
    (try replace BG := Lib.hid (BG.out.kept hbm))
    (try replace cG := BG.out.cell)
    (try replace lG := BG.out.lt)
    clear hbm
    go_wp2_with fail
    go_cut [9, 10] (fun s9 s10 wx => ∃ (b : Nat) (E0 E1 E2 : Option Addr) (e0 e1 e2 : Nat), s9 = .pointer (some ⟨b, 0, none⟩) ∧ s10 = .int .i64 (er2) ∧ YdB 41 (z2) b E0 E1 E2 e0 e1 e2 wx ∧ Below wm.heap.size wm wx)
    case first =>
      as_aux_lemma =>
        have HP := Lib.hid (Below.refl wm.heap.size wm)
        (refine wp_region_calm [] [0, 2, 3, 4, 5] 8 (by kernel_rfl) rfl (by kernel_rfl) (by kernel_rfl) (by kernel_rfl) ?_; simp only [pickB, List.filterMap_cons, List.filterMap_nil, List.getElem?_toArray, List.getElem?_cons_zero, List.getElem?_cons_succ]; (repeat (first | ((with_reducible refine quietL_plain rfl (fun K hK => ?_)); (apply Exists.intro; refine ⟨fun wx hx => ?_, ?_⟩; (· (have hcx := ifs_ex hx); simp [go_sem, *, ↓IntWalk.iteOmega] <;> (first | rfl | exact ⟨rfl, rfl⟩ | fail)); (simp only [Act.put, List.setIfInBounds_toArray, List.set_cons_zero, List.set_cons_succ]; refine hK _ ?_; clear hK K))) | ((with_reducible refine quietL_skip (by with_unfolding_all rfl) ?_); simp only [Act.put, List.setIfInBounds_toArray, List.set_cons_zero, List.set_cons_succ]) | ((with_reducible refine quietL_want (by with_unfolding_all rfl) (fun K hK => ?_)); (apply Exists.intro; refine ⟨fun wx hx => ?_, ?_⟩; (· (have hcx := ifs_ex hx); simp [go_sem, *, ↓IntWalk.iteOmega] <;> (first | rfl | exact ⟨rfl, rfl⟩ | fail)); (simp only [Act.put, List.setIfInBounds_toArray, List.set_cons_zero, List.set_cons_succ]; refine hK _ ?_; clear hK K))))); refine quietL_nil ?_)
        refine anyB_two (i := 1) (j := 10) (by kernel_rfl) rfl rfl rfl rfl ?_ ?_
        · skip
          intro wa hba K hK
          have hsa := hba.size
          (try simp at hsa)
          replace HP := Lib.hid (HP.out.trans (hba.mono HP.out.size))
          (try replace B9 := Lib.hid (B9.out.kept hba))
          go_wp2_with fail
          refine (HO.out _ (HBm.out.trans (HP.out.mono HBm.out.size))).mono ?_
          rintro e wb ⟨D0, D1, D2, d0, d1, d2, rfl, hyd, hbb⟩
          have hsb := hbb.size
          have HYb := Lib.hid hyd
          replace HP := Lib.hid (HP.out.trans (hbb.mono HP.out.size))
          (try replace B9 := Lib.hid (B9.out.kept hbb))
          clear hyd
          go_wp2
          refine ⟨xs_, ?_⟩
          refine anyB_two (i := 6) (j := 10) (by kernel_rfl) rfl rfl rfl rfl ?_ ?_
          · skip
            intro wc hbc K hK
            have hsc := hbc.size
            (try simp at hsc)
            replace HP := Lib.hid (HP.out.trans (hbc.mono HP.out.size))
            (try replace B9 := Lib.hid (B9.out.kept hbc))
            replace HYb := Lib.hid (yd_kept HYb.out hbc)
            go_wp2_with fail
            refine (HGr.out _ _ _ _ _ _ _ HYb.out (HBm.out.trans (HP.out.mono HBm.out.size))).mono ?_
            rintro e wd ⟨E0, E1, E2, e0, e1, e2, rfl, hyd, hbd⟩
            have hsd := hbd.size
            have HYd := Lib.hid hyd
            replace HP := Lib.hid (HP.out.trans (hbd.mono HP.out.size))
            (try replace B9 := Lib.hid (B9.out.kept hbd))
            clear hyd HYb
            go_wp2
            refine ⟨xs_, ?_⟩
            (refine anyB_quiet_at (by kernel_rfl) calm_panic xs_ 3 [7, 8, 9] _ _ (by kernel_rfl) (by decide +kernel) ?_; simp only [pickB, List.filterMap_cons, List.filterMap_nil, List.getElem?_toArray, List.getElem?_cons_zero, List.getElem?_cons_succ]; (repeat ((with_reducible refine quietL_plain rfl (fun K hK => ?_)); (apply Exists.intro; refine ⟨fun wx hx => ?_, ?_⟩; (· (have hcx := ifs_ex hx); simp [go_sem, *, ↓IntWalk.iteOmega] <;> (first | rfl | exact ⟨rfl, rfl⟩ | fail)); (simp only [Act.put, List.setIfInBounds_toArray, List.set_cons_zero, List.set_cons_succ]; refine hK _ ?_; clear hK K)))); refine quietL_nil ?_)
            refine anyB_one (i := 10) (by kernel_rfl) rfl rfl ?_
            intro wh hbh K hK
            have hsh := hbh.size
            (try simp at hsh)
            replace HP := Lib.hid (HP.out.trans (hbh.mono HP.out.size))
            replace HP := Lib.hid (HP.out.alloc HP.out.size (.cells #[.slice none 0 0, .slice none 0 0, .slice none 0 0] 41))
            have B9 := Lib.hid (Blk.new wh 41 #[.slice none 0 0, .slice none 0 0, .slice none 0 0])
            (try replace HYb := Lib.hid (yd_kept (yd_kept HYb.out hbh) ((Below.refl _ wh).alloc (Nat.le_refl _) (.cells #[.slice none 0 0, .slice none 0 0, .slice none 0 0] 41))))
            go_wp2
            refine ⟨xs_, ?_⟩
            refine anyB_one (i := 11) (by kernel_rfl) rfl rfl ?_
            intro wi hbi K hK
            have hsi := hbi.size
            (try simp at hsi)
            replace HP := Lib.hid (HP.out.trans (hbi.mono HP.out.size))
            replace B9 := Lib.hid (B9.out.kept hbi)
            have HZ := Lib.hid (HYd.out [wh.heap.size] (fun x hx => by simp at hx; subst hx; first | (left; omega) | (right; omega)))
            have c9 := B9.out.cell
            have f9 := B9.out.frozen
            have l9 := B9.out.lt
            go_wp2
            refine ⟨xs_, ?_⟩
            replace B9 := Lib.hid (B9.out.set3 (.slice E0 (z2).s.length e0) (.slice E1 (z2).w.length e1) (.slice E2 (z2).p.length e2))
            replace HP := Lib.hid (below_set3 HP.out (show _ ≤ wh.heap.size by omega) (.slice E0 (z2).s.length e0) (.slice E1 (z2).w.length e1) (.slice E2 (z2).p.length e2))
            clear c9 f9 l9 HYd
            refine anyB_one (i := 12) (by kernel_rfl) rfl rfl ?_
            intro wj hbj K hK
            have hsj := hbj.size
            (try simp at hsj)
            go_wp2
            refine ⟨xs_, ?_⟩
            refine anyB_end (by kernel_rfl) ?_
            intro wk hbk
            have hsk := hbk.size
            simp only [Calm]
            replace HP := Lib.hid (HP.out.trans (hbj.mono HP.out.size))
            replace HP := Lib.hid (HP.out.trans (hbk.mono HP.out.size))
            replace B9 := Lib.hid ((B9.out.kept hbj).kept hbk)
            have HZk := Lib.hid (HZ.out _ (xs_ : Ex [wh.heap.size] wd wk))
            clear HZ
            go_wp2_with fail
            go_meet
            case rel => exact ⟨wh.heap.size, E0, E1, E2, e0, e1, e2, rfl, rfl, ⟨B9.out, HZk.out⟩, HP.out⟩
          · skip
            intro wh hbh K hK
            have hsh := hbh.size
            (try simp at hsh)
            replace HP := Lib.hid (HP.out.trans (hbh.mono HP.out.size))
            replace HP := Lib.hid (HP.out.alloc HP.out.size (.cells #[.slice none 0 0, .slice none 0 0, .slice none 0 0] 41))
            have B9 := Lib.hid (Blk.new wh 41 #[.slice none 0 0, .slice none 0 0, .slice none 0 0])
            (try replace HYb := Lib.hid (yd_kept (yd_kept HYb.out hbh) ((Below.refl _ wh).alloc (Nat.le_refl _) (.cells #[.slice none 0 0, .slice none 0 0, .slice none 0 0] 41))))
            go_wp2
            refine ⟨xs_, ?_⟩
            refine anyB_one (i := 6) (by kernel_rfl) rfl rfl ?_
            intro wc hbc K hK
            have hsc := hbc.size
            (try simp at hsc)
            replace HP := Lib.hid (HP.out.trans (hbc.mono HP.out.size))
            (try replace B9 := Lib.hid (B9.out.kept hbc))
            replace HYb := Lib.hid (yd_kept HYb.out hbc)
            go_wp2_with fail
            refine (HGr.out _ _ _ _ _ _ _ HYb.out (HBm.out.trans (HP.out.mono HBm.out.size))).mono ?_
            rintro e wd ⟨E0, E1, E2, e0, e1, e2, rfl, hyd, hbd⟩
            have hsd := hbd.size
            have HYd := Lib.hid hyd
            replace HP := Lib.hid (HP.out.trans (hbd.mono HP.out.size))
            (try replace B9 := Lib.hid (B9.out.kept hbd))
            clear hyd HYb
            go_wp2
            refine ⟨xs_, ?_⟩
            (refine anyB_quiet_at (by kernel_rfl) calm_panic xs_ 2 [7, 8, 9] _ _ (by kernel_rfl) (by decide +kernel) ?_; simp only [pickB, List.filterMap_cons, List.filterMap_nil, List.getElem?_toArray, List.getElem?_cons_zero, List.getElem?_cons_succ]; (repeat ((with_reducible refine quietL_plain rfl (fun K hK => ?_)); (apply Exists.intro; refine ⟨fun wx hx => ?_, ?_⟩; (· (have hcx := ifs_ex hx); simp [go_sem, *, ↓IntWalk.iteOmega] <;> (first | rfl | exact ⟨rfl, rfl⟩ | fail)); (simp only [Act.put, List.setIfInBounds_toArray, List.set_cons_zero, List.set_cons_succ]; refine hK _ ?_; clear hK K)))); refine quietL_nil ?_)
            refine anyB_one (i := 11) (by kernel_rfl) rfl rfl ?_
            intro wi hbi K hK
            have hsi := hbi.size
            (try simp at hsi)
            replace HP := Lib.hid (HP.out.trans (hbi.mono HP.out.size))
            replace B9 := Lib.hid (B9.out.kept hbi)
            have HZ := Lib.hid (HYd.out [wh.heap.size] (fun x hx => by simp at hx; subst hx; first | (left; omega) | (right; omega)))
            have c9 := B9.out.cell
            have f9 := B9.out.frozen
            have l9 := B9.out.lt
            go_wp2
            refine ⟨xs_, ?_⟩
            replace B9 := Lib.hid (B9.out.set3 (.slice E0 (z2).s.length e0) (.slice E1 (z2).w.length e1) (.slice E2 (z2).p.length e2))
            replace HP := Lib.hid (below_set3 HP.out (show _ ≤ wh.heap.size by omega) (.slice E0 (z2).s.length e0) (.slice E1 (z2).w.length e1) (.slice E2 (z2).p.length e2))
            clear c9 f9 l9 HYd
            refine anyB_one (i := 12) (by kernel_rfl) rfl rfl ?_
            intro wj hbj K hK
            have hsj := hbj.size
            (try simp at hsj)
            go_wp2
            refine ⟨xs_, ?_⟩
            refine anyB_end (by kernel_rfl) ?_
            intro wk hbk
            have hsk := hbk.size
            simp only [Calm]
            replace HP := Lib.hid (HP.out.trans (hbj.mono HP.out.size))
            replace HP := Lib.hid (HP.out.trans (hbk.mono HP.out.size))
            replace B9 := Lib.hid ((B9.out.kept hbj).kept hbk)
            have HZk := Lib.hid (HZ.out _ (xs_ : Ex [wh.heap.size] wd wk))
            clear HZ
            go_wp2_with fail
            go_meet
            case rel => exact ⟨wh.heap.size, E0, E1, E2, e0, e1, e2, rfl, rfl, ⟨B9.out, HZk.out⟩, HP.out⟩
        · skip
          intro wh hbh K hK
          have hsh := hbh.size
          (try simp at hsh)
          replace HP := Lib.hid (HP.out.trans (hbh.mono HP.out.size))
          replace HP := Lib.hid (HP.out.alloc HP.out.size (.cells #[.slice none 0 0, .slice none 0 0, .slice none 0 0] 41))
          have B9 := Lib.hid (Blk.new wh 41 #[.slice none 0 0, .slice none 0 0, .slice none 0 0])
          (try replace HYb := Lib.hid (yd_kept (yd_kept HYb.out hbh) ((Below.refl _ wh).alloc (Nat.le_refl _) (.cells #[.slice none 0 0, .slice none 0 0, .slice none 0 0] 41))))
          go_wp2
          refine ⟨xs_, ?_⟩
          refine anyB_one (i := 1) (by kernel_rfl) rfl rfl ?_
          intro wa hba K hK
          have hsa := hba.size
          (try simp at hsa)
          replace HP := Lib.hid (HP.out.trans (hba.mono HP.out.size))
          (try replace B9 := Lib.hid (B9.out.kept hba))
          go_wp2_with fail
          refine (HO.out _ (HBm.out.trans (HP.out.mono HBm.out.size))).mono ?_
          rintro e wb ⟨D0, D1, D2, d0, d1, d2, rfl, hyd, hbb⟩
          have hsb := hbb.size
          have HYb := Lib.hid hyd
          replace HP := Lib.hid (HP.out.trans (hbb.mono HP.out.size))
          (try replace B9 := Lib.hid (B9.out.kept hbb))
          clear hyd
          go_wp2
          refine ⟨xs_, ?_⟩
          refine anyB_one (i := 6) (by kernel_rfl) rfl rfl ?_
          intro wc hbc K hK
          have hsc := hbc.size
          (try simp at hsc)
          replace HP := Lib.hid (HP.out.trans (hbc.mono HP.out.size))
          (try replace B9 := Lib.hid (B9.out.kept hbc))
          replace HYb := Lib.hid (yd_kept HYb.out hbc)
          go_wp2_with fail
          refine (HGr.out _ _ _ _ _ _ _ HYb.out (HBm.out.trans (HP.out.mono HBm.out.size))).mono ?_
          rintro e wd ⟨E0, E1, E2, e0, e1, e2, rfl, hyd, hbd⟩
          have hsd := hbd.size
          have HYd := Lib.hid hyd
          replace HP := Lib.hid (HP.out.trans (hbd.mono HP.out.size))
          (try replace B9 := Lib.hid (B9.out.kept hbd))
          clear hyd HYb
          go_wp2
          refine ⟨xs_, ?_⟩
          (refine anyB_quiet_at (by kernel_rfl) calm_panic xs_ 2 [7, 8, 9] _ _ (by kernel_rfl) (by decide +kernel) ?_; simp only [pickB, List.filterMap_cons, List.filterMap_nil, List.getElem?_toArray, List.getElem?_cons_zero, List.getElem?_cons_succ]; (repeat ((with_reducible refine quietL_plain rfl (fun K hK => ?_)); (apply Exists.intro; refine ⟨fun wx hx => ?_, ?_⟩; (· (have hcx := ifs_ex hx); simp [go_sem, *, ↓IntWalk.iteOmega] <;> (first | rfl | exact ⟨rfl, rfl⟩ | fail)); (simp only [Act.put, List.setIfInBounds_toArray, List.set_cons_zero, List.set_cons_succ]; refine hK _ ?_; clear hK K)))); refine quietL_nil ?_)
          refine anyB_one (i := 11) (by kernel_rfl) rfl rfl ?_
          intro wi hbi K hK
          have hsi := hbi.size
          (try simp at hsi)
          replace HP := Lib.hid (HP.out.trans (hbi.mono HP.out.size))
          replace B9 := Lib.hid (B9.out.kept hbi)
          have HZ := Lib.hid (HYd.out [wh.heap.size] (fun x hx => by simp at hx; subst hx; first | (left; omega) | (right; omega)))
          have c9 := B9.out.cell
          have f9 := B9.out.frozen
          have l9 := B9.out.lt
          go_wp2
          refine ⟨xs_, ?_⟩
          replace B9 := Lib.hid (B9.out.set3 (.slice E0 (z2).s.length e0) (.slice E1 (z2).w.length e1) (.slice E2 (z2).p.length e2))
          replace HP := Lib.hid (below_set3 HP.out (show _ ≤ wh.heap.size by omega) (.slice E0 (z2).s.length e0) (.slice E1 (z2).w.length e1) (.slice E2 (z2).p.length e2))
          clear c9 f9 l9 HYd
          refine anyB_one (i := 12) (by kernel_rfl) rfl rfl ?_
          intro wj hbj K hK
          have hsj := hbj.size
          (try simp at hsj)
          go_wp2
          refine ⟨xs_, ?_⟩
          refine anyB_end (by kernel_rfl) ?_
          intro wk hbk
          have hsk := hbk.size
          simp only [Calm]
          replace HP := Lib.hid (HP.out.trans (hbj.mono HP.out.size))
          replace HP := Lib.hid (HP.out.trans (hbk.mono HP.out.size))
          replace B9 := Lib.hid ((B9.out.kept hbj).kept hbk)
          have HZk := Lib.hid (HZ.out _ (xs_ : Ex [wh.heap.size] wd wk))
          clear HZ
          go_wp2_with fail
          go_meet
          case rel => exact ⟨wh.heap.size, E0, E1, E2, e0, e1, e2, rfl, rfl, ⟨B9.out, HZk.out⟩, HP.out⟩
    rename World => wp
    obtain ⟨bp, F0p, F1p, F2p, f0p, f1p, f2p, rfl, rfl, hzp, hbp⟩ := hcut
    (try replace HZm := Lib.hid (HZm.out.kept hbp))
    (try replace HZp := Lib.hid (HZp.out.kept hbp))
    have HZp := Lib.hid hzp
    have hsp := hbp.size
    have HBp := Lib.hid (HBm.out.trans (hbp.mono HBm.out.size))
    have hs0p := HBp.out.size
    replace BY := Lib.hid (BY.out.kept hbp)
    replace cY := BY.out.cell
    replace lY := BY.out.lt
    (try replace BG := Lib.hid (BG.out.kept hbp))
    (try replace cG := BG.out.cell)
    (try replace lG := BG.out.lt)
    clear hbp
    go_wp2_with fail
    go_cut [11, 12] (fun s11 s12 wx => ∃ (b : Nat) (E0 E1 E2 : Option Addr) (e0 e1 e2 : Nat), s11 = .pointer (some ⟨b, 0, none⟩) ∧ s12 = .int .i64 (er3) ∧ YdB 41 (z3) b E0 E1 E2 e0 e1 e2 wx ∧ Below wp.heap.size wp wx)
    case first =>
      as_aux_lemma =>
        have HP := Lib.hid (Below.refl wp.heap.size wp)
        (refine wp_region_calm [] [0, 2, 3] 8 (by kernel_rfl) rfl (by kernel_rfl) (by kernel_rfl) (by kernel_rfl) ?_; simp only [pickB, List.filterMap_cons, List.filterMap_nil, List.getElem?_toArray, List.getElem?_cons_zero, List.getElem?_cons_succ]; (repeat (first | ((with_reducible refine quietL_plain rfl (fun K hK => ?_)); (apply Exists.intro; refine ⟨fun wx hx => ?_, ?_⟩; (· (have hcx := ifs_ex hx); simp [go_sem, *, ↓IntWalk.iteOmega] <;> (first | rfl | exact ⟨rfl, rfl⟩ | fail)); (simp only [Act.put, List.setIfInBounds_toArray, List.set_cons_zero, List.set_cons_succ]; refine hK _ ?_; clear hK K))) | ((with_reducible refine quietL_skip (by with_unfolding_all rfl) ?_); simp only [Act.put, List.setIfInBounds_toArray, List.set_cons_zero, List.set_cons_succ]) | ((with_reducible refine quietL_want (by with_unfolding_all rfl) (fun K hK => ?_)); (apply Exists.intro; refine ⟨fun wx hx => ?_, ?_⟩; (· (have hcx := ifs_ex hx); simp [go_sem, *, ↓IntWalk.iteOmega] <;> (first | rfl | exact ⟨rfl, rfl⟩ | fail)); (simp only [Act.put, List.setIfInBounds_toArray, List.set_cons_zero, List.set_cons_succ]; refine hK _ ?_; clear hK K))))); refine quietL_nil ?_)
        refine anyB_two (i := 1) (j := 8) (by kernel_rfl) rfl rfl rfl rfl ?_ ?_
        · skip
          intro wa hba K hK
          have hsa := hba.size
          (try simp at hsa)
          replace HP := Lib.hid (HP.out.trans (hba.mono HP.out.size))
          (try replace B9 := Lib.hid (B9.out.kept hba))
          go_wp2_with fail
          refine (HO.out _ (HBp.out.trans (HP.out.mono HBp.out.size))).mono ?_
          rintro e wb ⟨D0, D1, D2, d0, d1, d2, rfl, hyd, hbb⟩
          have hsb := hbb.size
          have HYb := Lib.hid hyd
          replace HP := Lib.hid (HP.out.trans (hbb.mono HP.out.size))
          (try replace B9 := Lib.hid (B9.out.kept hbb))
          clear hyd
          go_wp2
          refine ⟨xs_, ?_⟩
          refine anyB_two (i := 4) (j := 8) (by kernel_rfl) rfl rfl rfl rfl ?_ ?_
          · skip
            intro wc hbc K hK
            have hsc := hbc.size
            (try simp at hsc)
            replace HP := Lib.hid (HP.out.trans (hbc.mono HP.out.size))
            (try replace B9 := Lib.hid (B9.out.kept hbc))
            replace HYb := Lib.hid (yd_kept HYb.out hbc)
            go_wp2_with fail
            refine (HRt.out _ _ _ _ _ _ _ HYb.out (HBp.out.trans (HP.out.mono HBp.out.size))).mono ?_
            rintro e wd ⟨E0, E1, E2, e0, e1, e2, rfl, hyd, hbd⟩
            have hsd := hbd.size
            have HYd := Lib.hid hyd
            replace HP := Lib.hid (HP.out.trans (hbd.mono HP.out.size))
            (try replace B9 := Lib.hid (B9.out.kept hbd))
            clear hyd HYb
            go_wp2
            refine ⟨xs_, ?_⟩
            (refine anyB_quiet_at (by kernel_rfl) calm_panic xs_ 3 [5, 6, 7] _ _ (by kernel_rfl) (by decide +kernel) ?_; simp only [pickB, List.filterMap_cons, List.filterMap_nil, List.getElem?_toArray, List.getElem?_cons_zero, List.getElem?_cons_succ]; (repeat ((with_reducible refine quietL_plain rfl (fun K hK => ?_)); (apply Exists.intro; refine ⟨fun wx hx => ?_, ?_⟩; (· (have hcx := ifs_ex hx); simp [go_sem, *, ↓IntWalk.iteOmega] <;> (first | rfl | exact ⟨rfl, rfl⟩ | fail)); (simp only [Act.put, List.setIfInBounds_toArray, List.set_cons_zero, List.set_cons_succ]; refine hK _ ?_; clear hK K)))); refine quietL_nil ?_)
            refine anyB_one (i := 8) (by kernel_rfl) rfl rfl ?_
            intro wh hbh K hK
            have hsh := hbh.size
            (try simp at hsh)
            replace HP := Lib.hid (HP.out.trans (hbh.mono HP.out.size))
            replace HP := Lib.hid (HP.out.alloc HP.out.size (.cells #[.slice none 0 0, .slice none 0 0, .slice none 0 0] 41))
            have B9 := Lib.hid (Blk.new wh 41 #[.slice none 0 0, .slice none 0 0, .slice none 0 0])
            (try replace HYb := Lib.hid (yd_kept (yd_kept HYb.out hbh) ((Below.refl _ wh).alloc (Nat.le_refl _) (.cells #[.slice none 0 0, .slice none 0 0, .slice none 0 0] 41))))
            go_wp2
            refine ⟨xs_, ?_⟩
            refine anyB_one (i := 9) (by kernel_rfl) rfl rfl ?_
            intro wi hbi K hK
            have hsi := hbi.size
            (try simp at hsi)
            replace HP := Lib.hid (HP.out.trans (hbi.mono HP.out.size))
            replace B9 := Lib.hid (B9.out.kept hbi)
            have HZ := Lib.hid (HYd.out [wh.heap.size] (fun x hx => by simp at hx; subst hx; first | (left; omega) | (right; omega)))
            have c9 := B9.out.cell
            have f9 := B9.out.frozen
            have l9 := B9.out.lt
            go_wp2
            refine ⟨xs_, ?_⟩
            replace B9 := Lib.hid (B9.out.set3 (.slice E0 (z3).s.length e0) (.slice E1 (z3).w.length e1) (.slice E2 (z3).p.length e2))
            replace HP := Lib.hid (below_set3 HP.out (show _ ≤ wh.heap.size by omega) (.slice E0 (z3).s.length e0) (.slice E1 (z3).w.length e1) (.slice E2 (z3).p.length e2))
            clear c9 f9 l9 HYd
            refine anyB_one (i := 10) (by kernel_rfl) rfl rfl ?_
            intro wj hbj K hK
            have hsj := hbj.size
            (try simp at hsj)
            go_wp2
            refine ⟨xs_, ?_⟩
            refine anyB_end (by kernel_rfl) ?_
            intro wk hbk
            have hsk := hbk.size
            simp only [Calm]
            replace HP := Lib.hid (HP.out.trans (hbj.mono HP.out.size))
            replace HP := Lib.hid (HP.out.trans (hbk.mono HP.out.size))
            replace B9 := Lib.hid ((B9.out.kept hbj).kept hbk)
            have HZk := Lib.hid (HZ.out _ (xs_ : Ex [wh.heap.size] wd wk))
            clear HZ
            go_wp2_with fail
            go_meet
            case rel => exact ⟨wh.heap.size, E0, E1, E2, e0, e1, e2, rfl, rfl, ⟨B9.out, HZk.out⟩, HP.out⟩
          · skip
            intro wh hbh K hK
            have hsh := hbh.size
            (try simp at hsh)
            replace HP := Lib.hid (HP.out.trans (hbh.mono HP.out.size))
            replace HP := Lib.hid (HP.out.alloc HP.out.size (.cells #[.slice none 0 0, .slice none 0 0, .slice none 0 0] 41))
            have B9 := Lib.hid (Blk.new wh 41 #[.slice none 0 0, .slice none 0 0, .slice none 0 0])
            (try replace HYb := Lib.hid (yd_kept (yd_kept HYb.out hbh) ((Below.refl _ wh).alloc (Nat.le_refl _) (.cells #[.slice none 0 0, .slice none 0 0, .slice none 0 0] 41))))
            go_wp2
            refine ⟨xs_, ?_⟩
            refine anyB_one (i := 4) (by kernel_rfl) rfl rfl ?_
            intro wc hbc K hK
            have hsc := hbc.size
            (try simp at hsc)
            replace HP := Lib.hid (HP.out.trans (hbc.mono HP.out.size))
            (try replace B9 := Lib.hid (B9.out.kept hbc))
            replace HYb := Lib.hid (yd_kept HYb.out hbc)
            go_wp2_with fail
            refine (HRt.out _ _ _ _ _ _ _ HYb.out (HBp.out.trans (HP.out.mono HBp.out.size))).mono ?_
            rintro e wd ⟨E0, E1, E2, e0, e1, e2, rfl, hyd, hbd⟩
            have hsd := hbd.size
            have HYd := Lib.hid hyd
            replace HP := Lib.hid (HP.out.trans (hbd.mono HP.out.size))
            (try replace B9 := Lib.hid (B9.out.kept hbd))
            clear hyd HYb
            go_wp2
            refine ⟨xs_, ?_⟩
            (refine anyB_quiet_at (by kernel_rfl) calm_panic xs_ 2 [5, 6, 7] _ _ (by kernel_rfl) (by decide +kernel) ?_; simp only [pickB, List.filterMap_cons, List.filterMap_nil, List.getElem?_toArray, List.getElem?_cons_zero, List.getElem?_cons_succ]; (repeat ((with_reducible refine quietL_plain rfl (fun K hK => ?_)); (apply Exists.intro; refine ⟨fun wx hx => ?_, ?_⟩; (· (have hcx := ifs_ex hx); simp [go_sem, *, ↓IntWalk.iteOmega] <;> (first | rfl | exact ⟨rfl, rfl⟩ | fail)); (simp only [Act.put, List.setIfInBounds_toArray, List.set_cons_zero, List.set_cons_succ]; refine hK _ ?_; clear hK K)))); refine quietL_nil ?_)
            refine anyB_one (i := 9) (by kernel_rfl) rfl rfl ?_
            intro wi hbi K hK
            have hsi := hbi.size
            (try simp at hsi)
            replace HP := Lib.hid (HP.out.trans (hbi.mono HP.out.size))
            replace B9 := Lib.hid (B9.out.kept hbi)
            have HZ := Lib.hid (HYd.out [wh.heap.size] (fun x hx => by simp at hx; subst hx; first | (left; omega) | (right; omega)))
            have c9 := B9.out.cell
            have f9 := B9.out.frozen
            have l9 := B9.out.lt
            go_wp2
            refine ⟨xs_, ?_⟩
            replace B9 := Lib.hid (B9.out.set3 (.slice E0 (z3).s.length e0) (.slice E1 (z3).w.length e1) (.slice E2 (z3).p.length e2))
            replace HP := Lib.hid (below_set3 HP.out (show _ ≤ wh.heap.size by omega) (.slice E0 (z3).s.length e0) (.slice E1 (z3).w.length e1) (.slice E2 (z3).p.length e2))
            clear c9 f9 l9 HYd
            refine anyB_one (i := 10) (by kernel_rfl) rfl rfl ?_
            intro wj hbj K hK
            have hsj := hbj.size
            (try simp at hsj)
            go_wp2
            refine ⟨xs_, ?_⟩
            refine anyB_end (by kernel_rfl) ?_
            intro wk hbk
            have hsk := hbk.size
            simp only [Calm]
            replace HP := Lib.hid (HP.out.trans (hbj.mono HP.out.size))
            replace HP := Lib.hid (HP.out.trans (hbk.mono HP.out.size))
            replace B9 := Lib.hid ((B9.out.kept hbj).kept hbk)
            have HZk := Lib.hid (HZ.out _ (xs_ : Ex [wh.heap.size] wd wk))
            clear HZ
            go_wp2_with fail
            go_meet
            case rel => exact ⟨wh.heap.size, E0, E1, E2, e0, e1, e2, rfl, rfl, ⟨B9.out, HZk.out⟩, HP.out⟩
        · skip
          intro wh hbh K hK
          have hsh := hbh.size
          (try simp at hsh)
          replace HP := Lib.hid (HP.out.trans (hbh.mono HP.out.size))
          replace HP := Lib.hid (HP.out.alloc HP.out.size (.cells #[.slice none 0 0, .slice none 0 0, .slice none 0 0] 41))
          have B9 := Lib.hid (Blk.new wh 41 #[.slice none 0 0, .slice none 0 0, .slice none 0 0])
          (try replace HYb := Lib.hid (yd_kept (yd_kept HYb.out hbh) ((Below.refl _ wh).alloc (Nat.le_refl _) (.cells #[.slice none 0 0, .slice none 0 0, .slice none 0 0] 41))))
          go_wp2
          refine ⟨xs_, ?_⟩
          refine anyB_one (i := 1) (by kernel_rfl) rfl rfl ?_
          intro wa hba K hK
          have hsa := hba.size
          (try simp at hsa)
          replace HP := Lib.hid (HP.out.trans (hba.mono HP.out.size))
          (try replace B9 := Lib.hid (B9.out.kept hba))
          go_wp2_with fail
          refine (HO.out _ (HBp.out.trans (HP.out.mono HBp.out.size))).mono ?_
          rintro e wb ⟨D0, D1, D2, d0, d1, d2, rfl, hyd, hbb⟩
          have hsb := hbb.size
          have HYb := Lib.hid hyd
          replace HP := Lib.hid (HP.out.trans (hbb.mono HP.out.size))
          (try replace B9 := Lib.hid (B9.out.kept hbb))
          clear hyd
          go_wp2
          refine ⟨xs_, ?_⟩
          refine anyB_one (i := 4) (by kernel_rfl) rfl rfl ?_
          intro wc hbc K hK
          have hsc := hbc.size
          (try simp at hsc)
          replace HP := Lib.hid (HP.out.trans (hbc.mono HP.out.size))
          (try replace B9 := Lib.hid (B9.out.kept hbc))
          replace HYb := Lib.hid (yd_kept HYb.out hbc)
          go_wp2_with fail
          refine (HRt.out _ _ _ _ _ _ _ HYb.out (HBp.out.trans (HP.out.mono HBp.out.size))).mono ?_
          rintro e wd ⟨E0, E1, E2, e0, e1, e2, rfl, hyd, hbd⟩
          have hsd := hbd.size
          have HYd := Lib.hid hyd
          replace HP := Lib.hid (HP.out.trans (hbd.mono HP.out.size))
          (try replace B9 := Lib.hid (B9.out.kept hbd))
          clear hyd HYb
          go_wp2
          refine ⟨xs_, ?_⟩
          (refine anyB_quiet_at (by kernel_rfl) calm_panic xs_ 2 [5, 6, 7] _ _ (by kernel_rfl) (by decide +kernel) ?_; simp only [pickB, List.filterMap_cons, List.filterMap_nil, List.getElem?_toArray, List.getElem?_cons_zero, List.getElem?_cons_succ]; (repeat ((with_reducible refine quietL_plain rfl (fun K hK => ?_)); (apply Exists.intro; refine ⟨fun wx hx => ?_, ?_⟩; (· (have hcx := ifs_ex hx); simp [go_sem, *, ↓IntWalk.iteOmega] <;> (first | rfl | exact ⟨rfl, rfl⟩ | fail)); (simp only [Act.put, List.setIfInBounds_toArray, List.set_cons_zero, List.set_cons_succ]; refine hK _ ?_; clear hK K)))); refine quietL_nil ?_)
          refine anyB_one (i := 9) (by kernel_rfl) rfl rfl ?_
          intro wi hbi K hK
          have hsi := hbi.size
          (try simp at hsi)
          replace HP := Lib.hid (HP.out.trans (hbi.mono HP.out.size))
          replace B9 := Lib.hid (B9.out.kept hbi)
          have HZ := Lib.hid (HYd.out [wh.heap.size] (fun x hx => by simp at hx; subst hx; first | (left; omega) | (right; omega)))
          have c9 := B9.out.cell
          have f9 := B9.out.frozen
          have l9 := B9.out.lt
          go_wp2
          refine ⟨xs_, ?_⟩
          replace B9 := Lib.hid (B9.out.set3 (.slice E0 (z3).s.length e0) (.slice E1 (z3).w.length e1) (.slice E2 (z3).p.length e2))
          replace HP := Lib.hid (below_set3 HP.out (show _ ≤ wh.heap.size by omega) (.slice E0 (z3).s.length e0) (.slice E1 (z3).w.length e1) (.slice E2 (z3).p.length e2))
          clear c9 f9 l9 HYd
          refine anyB_one (i := 10) (by kernel_rfl) rfl rfl ?_
          intro wj hbj K hK
          have hsj := hbj.size
          (try simp at hsj)
          go_wp2
          refine ⟨xs_, ?_⟩
          refine anyB_end (by kernel_rfl) ?_
          intro wk hbk
          have hsk := hbk.size
          simp only [Calm]
          replace HP := Lib.hid (HP.out.trans (hbj.mono HP.out.size))
          replace HP := Lib.hid (HP.out.trans (hbk.mono HP.out.size))
          replace B9 := Lib.hid ((B9.out.kept hbj).kept hbk)
          have HZk := Lib.hid (HZ.out _ (xs_ : Ex [wh.heap.size] wd wk))
          clear HZ
          go_wp2_with fail
          go_meet
          case rel => exact ⟨wh.heap.size, E0, E1, E2, e0, e1, e2, rfl, rfl, ⟨B9.out, HZk.out⟩, HP.out⟩
    rename World => wt
    obtain ⟨bt, F0t, F1t, F2t, f0t, f1t, f2t, rfl, rfl, hzt, hbt⟩ := hcut
    (try replace HZm := Lib.hid (HZm.out.kept hbt))
    (try replace HZp := Lib.hid (HZp.out.kept hbt))
    have HZt := Lib.hid hzt
    have hst := hbt.size
    have HBt := Lib.hid (HBp.out.trans (hbt.mono HBp.out.size))
    have hs0t := HBt.out.size
    replace BY := Lib.hid (BY.out.kept hbt)
    replace cY := BY.out.cell
    replace lY := BY.out.lt
    (try replace BG := Lib.hid (BG.out.kept hbt))
    (try replace cG := BG.out.cell)
    (try replace lG := BG.out.lt)
    clear hbt
    go_wp2_with fail
    obtain ⟨hE0, hV0, hE1, hE2, hE3, hZ1, hZ2, hZ3⟩ := HEQ.out
    by_cases hee : yardE y = 0
    case neg =>
      obtain rfl : er0 = yardE y := by rw [← hE0]; unfold findE; rw [or0_neg hee]
      obtain rfl : er1 = yardE y := by rw [← hE1]; unfold moveE; rw [hE0, or0_neg hee]
      obtain rfl : er2 = yardE y := by
        have h1 : gr1E y xp = yardE y := by unfold gr1E; rw [first2_or, or0_neg hee]
        rw [← hE2]; unfold grantE; rw [h1, or0_neg hee]
      obtain rfl : er3 = yardE y := by rw [← hE3]; unfold retE; rw [or0_neg hee]
      obtain rfl : v0 = ⟨#[]⟩ := by rw [← hV0]; unfold whyW; rw [hE0, if_neg hee]
      obtain rfl : z1 = nilY := by rw [← hZ1, okY_no hee]
      obtain rfl : z2 = nilY := by rw [← hZ2, okY_no hee]
      obtain rfl : z3 = nilY := by rw [← hZ3, okY_no hee]
      clear HEQ hE0 hV0 hE1 hE2 hE3 hZ1 hZ2 hZ3 HFd HrMv HrGr HrRt HrWy hm2 hm3
      generalize yardE y = ee at *
      as_aux_lemma =>
        refine (HCk.out _ HBt.out).mono ?_
        (rintro e wu ⟨rfl, hbu⟩; have hsu := hbu.size; (try simp at hsu))
        replace HZm := Lib.hid (HZm.out.kept hbu)
        replace HZp := Lib.hid (HZp.out.kept hbu)
        replace HZt := Lib.hid (HZt.out.kept hbu)
        have HBu := Lib.hid (HBt.out.trans (hbu.mono HBt.out.size))
        have hs0u := HBu.out.size
        replace BY := Lib.hid (BY.out.kept hbu)
        replace cY := BY.out.cell
        replace lY := BY.out.lt
        (try replace BG := Lib.hid (BG.out.kept hbu))
        (try replace cG := BG.out.cell)
        (try replace lG := BG.out.lt)
        clear hbu
        have hYu := BY.out.lt
        have hGu := BG.out.lt
        have hlm := HZm.out.blk.lt
        have hlp := HZp.out.blk.lt
        have hlt := HZt.out.blk.lt
        go_wp2_with fail
        have BEa := Lib.hid (((Blk.new wu 26 #[.slice none 0 0, .slice none 0 0, .slice none 0 0]).alloc (.cells #[.slice none 0 0, .slice none 0 0, .slice none 0 0] 26)).alloc (.cells #[.slice none 0 0, .slice none 0 0, .slice none 0 0] 26))
        have BEb := Lib.hid ((Blk.new (wu.alloc (.cells #[.slice none 0 0, .slice none 0 0, .slice none 0 0] 26)) 26 #[.slice none 0 0, .slice none 0 0, .slice none 0 0]).alloc (.cells #[.slice none 0 0, .slice none 0 0, .slice none 0 0] 26))
        have BEc := Lib.hid (Blk.new ((wu.alloc (.cells #[.slice none 0 0, .slice none 0 0, .slice none 0 0] 26)).alloc (.cells #[.slice none 0 0, .slice none 0 0, .slice none 0 0] 26)) 26 #[.slice none 0 0, .slice none 0 0, .slice none 0 0])
        have hb9 : Below wu.heap.size wu (((wu.alloc (.cells #[.slice none 0 0, .slice none 0 0, .slice none 0 0] 26)).alloc (.cells #[.slice none 0 0, .slice none 0 0, .slice none 0 0] 26)).alloc (.cells #[.slice none 0 0, .slice none 0 0, .slice none 0 0] 26)) := (((Below.refl _ wu).alloc (Nat.le_refl _) _).alloc (by simp) _).alloc (by simp; omega) _
        have hs9 : (((wu.alloc (.cells #[.slice none 0 0, .slice none 0 0, .slice none 0 0] 26)).alloc (.cells #[.slice none 0 0, .slice none 0 0, .slice none 0 0] 26)).alloc (.cells #[.slice none 0 0, .slice none 0 0, .slice none 0 0] 26)).heap.size = wu.heap.size + 1 + 1 + 1 := by simp
        generalize (((wu.alloc (.cells #[.slice none 0 0, .slice none 0 0, .slice none 0 0] 26)).alloc (.cells #[.slice none 0 0, .slice none 0 0, .slice none 0 0] 26)).alloc (.cells #[.slice none 0 0, .slice none 0 0, .slice none 0 0] 26)) = w9 at *
        simp at BEb BEc
        replace HZm := Lib.hid (HZm.out.kept hb9)
        replace HZp := Lib.hid (HZp.out.kept hb9)
        replace HZt := Lib.hid (HZt.out.kept hb9)
        have HB9 := Lib.hid (HBu.out.trans (hb9.mono HBu.out.size))
        have hs09 := HB9.out.size
        replace BY := Lib.hid (BY.out.kept hb9)
        replace cY := BY.out.cell
        replace lY := BY.out.lt
        (try replace BG := Lib.hid (BG.out.kept hb9))
        (try replace cG := BG.out.cell)
        (try replace lG := BG.out.lt)
        clear hb9
        have HQa := Lib.hid (⟨BEa.out, nil_yd _ _⟩ : YdB 26 nilY wu.heap.size none none none 0 0 0 w9)
        have HQb := Lib.hid (⟨BEb.out, nil_yd _ _⟩ : YdB 26 nilY (wu.heap.size + 1) none none none 0 0 0 w9)
        have HQc := Lib.hid (⟨BEc.out, nil_yd _ _⟩ : YdB 26 nilY (wu.heap.size + 1 + 1) none none none 0 0 0 w9)
        have HP := Lib.hid (Below.refl w9.heap.size w9)
        have cM := HZm.out.blk.cell
        have lM := HZm.out.blk.lt
        have cP := HZp.out.blk.cell
        have lP := HZp.out.blk.lt
        have cT := HZt.out.blk.cell
        have lT := HZt.out.blk.lt
        have ca := HQa.out.blk.cell
        have la := HQa.out.blk.lt
        have cb := HQb.out.blk.cell
        have lb := HQb.out.blk.lt
        have cc := HQc.out.blk.cell
        have lc := HQc.out.blk.lt
        (refine wp_region_calm [] [0, 1, 2, 3, 4, 5, 6, 7, 8, 9, 11] 31 (by kernel_rfl) rfl (by kernel_rfl) (by kernel_rfl) (by kernel_rfl) ?_; simp only [pickB, List.filterMap_cons, List.filterMap_nil, List.getElem?_toArray, List.getElem?_cons_zero, List.getElem?_cons_succ]; (repeat (first | ((with_reducible refine quietL_plain rfl (fun K hK => ?_)); (apply Exists.intro; refine ⟨fun wx hx => ?_, ?_⟩; (· (have hcx := ifs_ex hx); simp [go_sem, *, ↓IntWalk.iteOmega] <;> (first | rfl | exact ⟨rfl, rfl⟩ | fail)); (simp only [Act.put, List.setIfInBounds_toArray, List.set_cons_zero, List.set_cons_succ]; refine hK _ ?_; clear hK K))) | ((with_reducible refine quietL_skip (by with_unfolding_all rfl) ?_); simp only [Act.put, List.setIfInBounds_toArray, List.set_cons_zero, List.set_cons_succ]) | ((with_reducible refine quietL_want (by with_unfolding_all rfl) (fun K hK => ?_)); (apply Exists.intro; refine ⟨fun wx hx => ?_, ?_⟩; (· (have hcx := ifs_ex hx); simp [go_sem, *, ↓IntWalk.iteOmega] <;> (first | rfl | exact ⟨rfl, rfl⟩ | fail)); (simp only [Act.put, List.setIfInBounds_toArray, List.set_cons_zero, List.set_cons_succ]; refine hK _ ?_; clear hK K))))); refine quietL_nil ?_)
        (refine anyB_one_want (i := 10) (by kernel_rfl) rfl (by kernel_rfl) ?_; intro wA hbA K hK; have hsA := hbA.size; (try simp at hsA); go_wp2_with fail)
        replace HP := Lib.hid (HP.out.trans (hbA.mono HP.out.size))
        refine (HTd.out _ hm1 _ _ _ _ _ _ _ (yd_kept HZm.out.yd HP.out)).mono ?_
        rintro e wB ⟨F0, F1, F2, f0, f1, f2, rfl, hOB, hbB⟩
        have hsB := hbB.size
        have HFB := Lib.hid hOB.yd
        clear hOB
        replace HP := Lib.hid (HP.out.trans (hbB.mono HP.out.size))
        (go_wp2; refine ⟨xs_, ?_⟩)
        (refine anyB_one_want (i := 12) (by kernel_rfl) rfl (by kernel_rfl) ?_; intro wC hbC K hK; have hsC := hbC.size; (try simp at hsC); go_wp2_with fail)
        replace HP := Lib.hid (HP.out.trans (hbC.mono HP.out.size))
        refine (HSa.out _ hm1 _ _ _ _ _ _ _ _ _ _ _ _ _ (yd_kept HFB.out hbC) (yd_kept HQa.out.yd HP.out)).mono ?_
        rintro e wD ⟨rfl, hbD⟩
        have hsD := hbD.size
        replace HP := Lib.hid (HP.out.trans (hbD.mono HP.out.size))
        clear HFB
        (go_wp2; refine ⟨xs_, ?_⟩)
        (refine anyB_quiet_at (by kernel_rfl) calm_panic xs_ 20 [13, 14, 15, 16, 17, 18, 19, 20, 22] _ _ (by kernel_rfl) (by decide +kernel) ?_; simp only [pickB, List.filterMap_cons, List.filterMap_nil, List.getElem?_toArray, List.getElem?_cons_zero, List.getElem?_cons_succ]; (repeat (first | ((with_reducible refine quietL_plain rfl (fun K hK => ?_)); (apply Exists.intro; refine ⟨fun wx hx => ?_, ?_⟩; (· (have hcx := ifs_ex hx); simp [go_sem, *, ↓IntWalk.iteOmega] <;> (first | rfl | exact ⟨rfl, rfl⟩ | fail)); (simp only [Act.put, List.setIfInBounds_toArray, List.set_cons_zero, List.set_cons_succ]; refine hK _ ?_; clear hK K))) | ((with_reducible refine quietL_skip (by with_unfolding_all rfl) ?_); simp only [Act.put, List.setIfInBounds_toArray, List.set_cons_zero, List.set_cons_succ]) | ((with_reducible refine quietL_want (by with_unfolding_all rfl) (fun K hK => ?_)); (apply Exists.intro; refine ⟨fun wx hx => ?_, ?_⟩; (· (have hcx := ifs_ex hx); simp [go_sem, *, ↓IntWalk.iteOmega] <;> (first | rfl | exact ⟨rfl, rfl⟩ | fail)); (simp only [Act.put, List.setIfInBounds_toArray, List.set_cons_zero, List.set_cons_succ]; refine hK _ ?_; clear hK K))))); refine quietL_nil ?_)
        (refine anyB_one_want (i := 21) (by kernel_rfl) rfl (by kernel_rfl) ?_; intro wE hbE K hK; have hsE := hbE.size; (try simp at hsE); go_wp2_with fail)
        replace HP := Lib.hid (HP.out.trans (hbE.mono HP.out.size))
        refine (HTd.out _ hm1 _ _ _ _ _ _ _ (yd_kept HZp.out.yd HP.out)).mono ?_
        rintro e wF ⟨F0, F1, F2, f0, f1, f2, rfl, hOB, hbF⟩
        have hsF := hbF.size
        have HFB := Lib.hid hOB.yd
        clear hOB
        replace HP := Lib.hid (HP.out.trans (hbF.mono HP.out.size))
        (go_wp2; refine ⟨xs_, ?_⟩)
        (refine anyB_one_want (i := 23) (by kernel_rfl) rfl (by kernel_rfl) ?_; intro wG hbG K hK; have hsG := hbG.size; (try simp at hsG); go_wp2_with fail)
        replace HP := Lib.hid (HP.out.trans (hbG.mono HP.out.size))
        refine (HSa.out _ hm1 _ _ _ _ _ _ _ _ _ _ _ _ _ (yd_kept HFB.out hbG) (yd_kept HQb.out.yd HP.out)).mono ?_
        rintro e wH ⟨rfl, hbH⟩
        have hsH := hbH.size
        replace HP := Lib.hid (HP.out.trans (hbH.mono HP.out.size))
        clear HFB
        (go_wp2; refine ⟨xs_, ?_⟩)
        (refine anyB_quiet_at (by kernel_rfl) calm_panic xs_ 9 [24, 25, 26, 27, 28, 29, 30, 31, 33] _ _ (by kernel_rfl) (by decide +kernel) ?_; simp only [pickB, List.filterMap_cons, List.filterMap_nil, List.getElem?_toArray, List.getElem?_cons_zero, List.getElem?_cons_succ]; (repeat (first | ((with_reducible refine quietL_plain rfl (fun K hK => ?_)); (apply Exists.intro; refine ⟨fun wx hx => ?_, ?_⟩; (· (have hcx := ifs_ex hx); simp [go_sem, *, ↓IntWalk.iteOmega] <;> (first | rfl | exact ⟨rfl, rfl⟩ | fail)); (simp only [Act.put, List.setIfInBounds_toArray, List.set_cons_zero, List.set_cons_succ]; refine hK _ ?_; clear hK K))) | ((with_reducible refine quietL_skip (by with_unfolding_all rfl) ?_); simp only [Act.put, List.setIfInBounds_toArray, List.set_cons_zero, List.set_cons_succ]) | ((with_reducible refine quietL_want (by with_unfolding_all rfl) (fun K hK => ?_)); (apply Exists.intro; refine ⟨fun wx hx => ?_, ?_⟩; (· (have hcx := ifs_ex hx); simp [go_sem, *, ↓IntWalk.iteOmega] <;> (first | rfl | exact ⟨rfl, rfl⟩ | fail)); (simp only [Act.put, List.setIfInBounds_toArray, List.set_cons_zero, List.set_cons_succ]; refine hK _ ?_; clear hK K))))); refine quietL_nil ?_)
        (refine anyB_one_want (i := 32) (by kernel_rfl) rfl (by kernel_rfl) ?_; intro wI hbI K hK; have hsI := hbI.size; (try simp at hsI); go_wp2_with fail)
        replace HP := Lib.hid (HP.out.trans (hbI.mono HP.out.size))
        refine (HTd.out _ hm1 _ _ _ _ _ _ _ (yd_kept HZt.out.yd HP.out)).mono ?_
        rintro e wJ ⟨F0, F1, F2, f0, f1, f2, rfl, hOB, hbJ⟩
        have hsJ := hbJ.size
        have HFB := Lib.hid hOB.yd
        clear hOB
        replace HP := Lib.hid (HP.out.trans (hbJ.mono HP.out.size))
        (go_wp2; refine ⟨xs_, ?_⟩)
        (refine anyB_one_want (i := 34) (by kernel_rfl) rfl (by kernel_rfl) ?_; intro wL hbL K hK; have hsL := hbL.size; (try simp at hsL); go_wp2_with fail)
        replace HP := Lib.hid (HP.out.trans (hbL.mono HP.out.size))
        refine (HSa.out _ hm1 _ _ _ _ _ _ _ _ _ _ _ _ _ (yd_kept HFB.out hbL) (yd_kept HQc.out.yd HP.out)).mono ?_
        rintro e wM ⟨rfl, hbM⟩
        have hsM := hbM.size
        replace HP := Lib.hid (HP.out.trans (hbM.mono HP.out.size))
        clear HFB
        (go_wp2; refine ⟨xs_, ?_⟩)
        (refine anyB_quiet_at (by kernel_rfl) calm_panic xs_ 1 [35, 36, 37, 38, 39, 40] _ _ (by kernel_rfl) (by decide +kernel) ?_; simp only [pickB, List.filterMap_cons, List.filterMap_nil, List.getElem?_toArray, List.getElem?_cons_zero, List.getElem?_cons_succ]; (repeat (first | ((with_reducible refine quietL_plain rfl (fun K hK => ?_)); (apply Exists.intro; refine ⟨fun wx hx => ?_, ?_⟩; (· (have hcx := ifs_ex hx); simp [go_sem, *, ↓IntWalk.iteOmega] <;> (first | rfl | exact ⟨rfl, rfl⟩ | fail)); (simp only [Act.put, List.setIfInBounds_toArray, List.set_cons_zero, List.set_cons_succ]; refine hK _ ?_; clear hK K))) | ((with_reducible refine quietL_skip (by with_unfolding_all rfl) ?_); simp only [Act.put, List.setIfInBounds_toArray, List.set_cons_zero, List.set_cons_succ]) | ((with_reducible refine quietL_want (by with_unfolding_all rfl) (fun K hK => ?_)); (apply Exists.intro; refine ⟨fun wx hx => ?_, ?_⟩; (· (have hcx := ifs_ex hx); simp [go_sem, *, ↓IntWalk.iteOmega] <;> (first | rfl | exact ⟨rfl, rfl⟩ | fail)); (simp only [Act.put, List.setIfInBounds_toArray, List.set_cons_zero, List.set_cons_succ]; refine hK _ ?_; clear hK K))))); refine quietL_nil ?_)
        (refine anyB_one (i := 41) (by kernel_rfl) rfl rfl ?_; intro wN hbN K hK; have hsN := hbN.size; (try simp at hsN); go_wp2; refine ⟨xs_, ?_⟩)
        (refine anyB_end (by kernel_rfl) ?_; intro wO hbO; have hsO := hbO.size; (try simp at hsO); simp only [Calm])
        have hFin : Below w.heap.size w wO := HB9.out.trans ((HP.out.trans ((hbN.trans (hbO.mono hbN.size)).mono HP.out.size)).mono HB9.out.size)
        clear hbA hbB hbC hbD hbE hbF hbG hbH hbI hbJ hbL hbM hbN hbO
        go_wp2_with fail
        go_ret
        exact ⟨by first | rfl | (simp; done), hFin⟩
    case pos =>
      have hP := (yard_ok hee).1
      have e1 : er0 = whenE (decide (atB y xw < 0)) 10 := by rw [← hE0]; unfold findE; rw [or0_pos hee]
      replace HrMv := Lib.hid (HrMv.out hP)
      replace HrGr := Lib.hid (HrGr.out hP)
      replace HrRt := Lib.hid (HrRt.out hP)
      rw [← moveE_R hee xw, hE1, hZ1] at HrMv
      rw [← grantE_R hee xp xs, hE2, hZ2] at HrGr
      rw [← retE_R hee xp, hE3, hZ3] at HrRt
      rw [hee] at HCk
      have hbd := HBD.out
      by_cases hi : atB y xw < 0
      · have f3 : whenE (decide (atB y xw < 0)) 10 = 10 := by rw [decide_eq_true hi]; rfl
        have HWh := Lib.hid (fun W => rWhen_any true 10 W)
        rw [show whenE true 10 = 10 from rfl] at HWh
        obtain rfl : er0 = 10 := e1.trans f3
        obtain rfl : v0 = ⟨#[]⟩ := by rw [← hV0]; unfold whyW; rw [hE0, if_neg (by decide)]
        generalize atB y xw = ai at *
        clear HEQ hE0 hV0 hE1 hE2 hE3 hZ1 hZ2 hZ3 e1 f3 hee hP HrWy hbd HBD
        as_aux_lemma =>
          refine (HCk.out _ HBt.out).mono ?_
          (rintro e wu ⟨rfl, hbu⟩; have hsu := hbu.size; (try simp at hsu))
          replace HZm := Lib.hid (HZm.out.kept hbu)
          replace HZp := Lib.hid (HZp.out.kept hbu)
          replace HZt := Lib.hid (HZt.out.kept hbu)
          have HBu := Lib.hid (HBt.out.trans (hbu.mono HBt.out.size))
          have hs0u := HBu.out.size
          replace BY := Lib.hid (BY.out.kept hbu)
          replace cY := BY.out.cell
          replace lY := BY.out.lt
          (try replace BG := Lib.hid (BG.out.kept hbu))
          (try replace cG := BG.out.cell)
          (try replace lG := BG.out.lt)
          clear hbu
          have hYu := BY.out.lt
          have hGu := BG.out.lt
          have hlm := HZm.out.blk.lt
          have hlp := HZp.out.blk.lt
          have hlt := HZt.out.blk.lt
          go_wp2_with fail
          have BEa := Lib.hid (((Blk.new wu 26 #[.slice none 0 0, .slice none 0 0, .slice none 0 0]).alloc (.cells #[.slice none 0 0, .slice none 0 0, .slice none 0 0] 26)).alloc (.cells #[.slice none 0 0, .slice none 0 0, .slice none 0 0] 26))
          have BEb := Lib.hid ((Blk.new (wu.alloc (.cells #[.slice none 0 0, .slice none 0 0, .slice none 0 0] 26)) 26 #[.slice none 0 0, .slice none 0 0, .slice none 0 0]).alloc (.cells #[.slice none 0 0, .slice none 0 0, .slice none 0 0] 26))
          have BEc := Lib.hid (Blk.new ((wu.alloc (.cells #[.slice none 0 0, .slice none 0 0, .slice none 0 0] 26)).alloc (.cells #[.slice none 0 0, .slice none 0 0, .slice none 0 0] 26)) 26 #[.slice none 0 0, .slice none 0 0, .slice none 0 0])
          have hb9 : Below wu.heap.size wu (((wu.alloc (.cells #[.slice none 0 0, .slice none 0 0, .slice none 0 0] 26)).alloc (.cells #[.slice none 0 0, .slice none 0 0, .slice none 0 0] 26)).alloc (.cells #[.slice none 0 0, .slice none 0 0, .slice none 0 0] 26)) := (((Below.refl _ wu).alloc (Nat.le_refl _) _).alloc (by simp) _).alloc (by simp; omega) _
          have hs9 : (((wu.alloc (.cells #[.slice none 0 0, .slice none 0 0, .slice none 0 0] 26)).alloc (.cells #[.slice none 0 0, .slice none 0 0, .slice none 0 0] 26)).alloc (.cells #[.slice none 0 0, .slice none 0 0, .slice none 0 0] 26)).heap.size = wu.heap.size + 1 + 1 + 1 := by simp
          generalize (((wu.alloc (.cells #[.slice none 0 0, .slice none 0 0, .slice none 0 0] 26)).alloc (.cells #[.slice none 0 0, .slice none 0 0, .slice none 0 0] 26)).alloc (.cells #[.slice none 0 0, .slice none 0 0, .slice none 0 0] 26)) = w9 at *
          simp at BEb BEc
          replace HZm := Lib.hid (HZm.out.kept hb9)
          replace HZp := Lib.hid (HZp.out.kept hb9)
          replace HZt := Lib.hid (HZt.out.kept hb9)
          have HB9 := Lib.hid (HBu.out.trans (hb9.mono HBu.out.size))
          have hs09 := HB9.out.size
          replace BY := Lib.hid (BY.out.kept hb9)
          replace cY := BY.out.cell
          replace lY := BY.out.lt
          (try replace BG := Lib.hid (BG.out.kept hb9))
          (try replace cG := BG.out.cell)
          (try replace lG := BG.out.lt)
          clear hb9
          refine (HFd.out _ HB9.out).mono ?_
          (rintro e wx ⟨rfl, hbx⟩; have hsx := hbx.size; (try simp at hsx))
          replace HZm := Lib.hid (HZm.out.kept hbx)
          replace HZp := Lib.hid (HZp.out.kept hbx)
          replace HZt := Lib.hid (HZt.out.kept hbx)
          replace BEa := Lib.hid (BEa.out.kept hbx)
          replace BEb := Lib.hid (BEb.out.kept hbx)
          replace BEc := Lib.hid (BEc.out.kept hbx)
          have HBx := Lib.hid (HB9.out.trans (hbx.mono HB9.out.size))
          have hs0x := HBx.out.size
          replace BY := Lib.hid (BY.out.kept hbx)
          replace cY := BY.out.cell
          replace lY := BY.out.lt
          (try replace BG := Lib.hid (BG.out.kept hbx))
          (try replace cG := BG.out.cell)
          (try replace lG := BG.out.lt)
          clear hbx
          go_wp2_with fail
          refine (HWh.out _).mono ?_
          rintro e wq ⟨rfl, rfl⟩
          go_wp2_with fail
          refine (HrMv.out _ HBx.out).mono ?_
          rintro e wv ⟨G0, G1, G2, h0', h1', h2', rfl, hyd, hbv⟩
          have hsv := hbv.size
          have hyz := hyd [] (fun x hx => by cases hx) _ (Ex.refl _ _)
          replace HZm := Lib.hid (HZm.out.kept hbv)
          replace HZp := Lib.hid (HZp.out.kept hbv)
          replace HZt := Lib.hid (HZt.out.kept hbv)
          (try replace BEa := Lib.hid (BEa.out.kept hbv))
          (try replace BEb := Lib.hid (BEb.out.kept hbv))
          replace BEc := Lib.hid (BEc.out.kept hbv)
          (try replace HQa := Lib.hid (HQa.out.kept hbv))
          (try replace HQb := Lib.hid (HQb.out.kept hbv))
          clear hyd
          have HBv := Lib.hid (HBx.out.trans (hbv.mono HBx.out.size))
          have hs0v := HBv.out.size
          replace BY := Lib.hid (BY.out.kept hbv)
          replace cY := BY.out.cell
          replace lY := BY.out.lt
          (try replace BG := Lib.hid (BG.out.kept hbv))
          (try replace cG := BG.out.cell)
          (try replace lG := BG.out.lt)
          clear hbv
          have cE := BEa.out.cell
          have fE := BEa.out.frozen
          have lE := BEa.out.lt
          go_wp2_with fail
          have kz := hyz.box3 (b0 := G0) (b1 := G1) (b2 := G2) (l0 := (z1).s.length) (l1 := (z1).w.length) (l2 := (z1).p.length) (c0 := h0') (c1 := h1') (c2 := h2') BEa.out
          have kq := BEa.out.set3 (.slice G0 (z1).s.length h0') (.slice G1 (z1).w.length h1') (.slice G2 (z1).p.length h2')
          have km := HZm.out.box3 (b0 := G0) (b1 := G1) (b2 := G2) (l0 := (z1).s.length) (l1 := (z1).w.length) (l2 := (z1).p.length) (c0 := h0') (c1 := h1') (c2 := h2') BEa.out (by omega)
          have kp := HZp.out.box3 (b0 := G0) (b1 := G1) (b2 := G2) (l0 := (z1).s.length) (l1 := (z1).w.length) (l2 := (z1).p.length) (c0 := h0') (c1 := h1') (c2 := h2') BEa.out (by omega)
          have kt := HZt.out.box3 (b0 := G0) (b1 := G1) (b2 := G2) (l0 := (z1).s.length) (l1 := (z1).w.length) (l2 := (z1).p.length) (c0 := h0') (c1 := h1') (c2 := h2') BEa.out (by omega)
          have kY := BY.out.far3 (show w.heap.size ≠ wu.heap.size by omega) (.slice G0 (z1).s.length h0') (.slice G1 (z1).w.length h1') (.slice G2 (z1).p.length h2')
          have kG := BG.out.far3 (show w.heap.size + 1 ≠ wu.heap.size by omega) (.slice G0 (z1).s.length h0') (.slice G1 (z1).w.length h1') (.slice G2 (z1).p.length h2')
          have kB := below_set3 HBv.out (show w.heap.size ≤ wu.heap.size by omega) (.slice G0 (z1).s.length h0') (.slice G1 (z1).w.length h1') (.slice G2 (z1).p.length h2')
          have kb := BEb.out.far3 (show wu.heap.size + 1 ≠ wu.heap.size by omega) (.slice G0 (z1).s.length h0') (.slice G1 (z1).w.length h1') (.slice G2 (z1).p.length h2')
          have kc := BEc.out.far3 (show wu.heap.size + 1 + 1 ≠ wu.heap.size by omega) (.slice G0 (z1).s.length h0') (.slice G1 (z1).w.length h1') (.slice G2 (z1).p.length h2')
          clear BEa BEb BEc
          clear HZm HZp HZt BY BG cY lY cG lG cE fE lE hyz
          generalize (((wv.setCell ⟨wu.heap.size, 0, none⟩ (.slice G0 (z1).s.length h0')).setCell ⟨wu.heap.size, 1, none⟩ (.slice G1 (z1).w.length h1')).setCell ⟨wu.heap.size, 2, none⟩ (.slice G2 (z1).p.length h2')) = w1 at *
          have HZm := Lib.hid km
          have HZp := Lib.hid kp
          have HZt := Lib.hid kt
          have HQa := Lib.hid (⟨kq, kz⟩ : YdB 26 (z1) (wu.heap.size) G0 G1 G2 h0' h1' h2' w1)
          have BY := Lib.hid kY
          have BG := Lib.hid kG
          have HB1 := Lib.hid kB
          have hs01 := HB1.out.size
          have cY := BY.out.cell
          have lY := BY.out.lt
          have cG := BG.out.cell
          have lG := BG.out.lt
          clear km kp kt kq kz kY kG kB
          have BEb := Lib.hid kb
          have BEc := Lib.hid kc
          clear kb kc
          refine (HrGr.out _ HB1.out).mono ?_
          rintro e wy ⟨G0, G1, G2, h0', h1', h2', rfl, hyd, hby⟩
          have hsy := hby.size
          have hyz := hyd [] (fun x hx => by cases hx) _ (Ex.refl _ _)
          replace HZm := Lib.hid (HZm.out.kept hby)
          replace HZp := Lib.hid (HZp.out.kept hby)
          replace HZt := Lib.hid (HZt.out.kept hby)
          (try replace BEa := Lib.hid (BEa.out.kept hby))
          (try replace BEb := Lib.hid (BEb.out.kept hby))
          replace BEc := Lib.hid (BEc.out.kept hby)
          (try replace HQa := Lib.hid (HQa.out.kept hby))
          (try replace HQb := Lib.hid (HQb.out.kept hby))
          clear hyd
          have HBy := Lib.hid (HB1.out.trans (hby.mono HB1.out.size))
          have hs0y := HBy.out.size
          replace BY := Lib.hid (BY.out.kept hby)
          replace cY := BY.out.cell
          replace lY := BY.out.lt
          (try replace BG := Lib.hid (BG.out.kept hby))
          (try replace cG := BG.out.cell)
          (try replace lG := BG.out.lt)
          clear hby
          have cE := BEb.out.cell
          have fE := BEb.out.frozen
          have lE := BEb.out.lt
          go_wp2_with fail
          have kz := hyz.box3 (b0 := G0) (b1 := G1) (b2 := G2) (l0 := (z2).s.length) (l1 := (z2).w.length) (l2 := (z2).p.length) (c0 := h0') (c1 := h1') (c2 := h2') BEb.out
          have kq := BEb.out.set3 (.slice G0 (z2).s.length h0') (.slice G1 (z2).w.length h1') (.slice G2 (z2).p.length h2')
          have km := HZm.out.box3 (b0 := G0) (b1 := G1) (b2 := G2) (l0 := (z2).s.length) (l1 := (z2).w.length) (l2 := (z2).p.length) (c0 := h0') (c1 := h1') (c2 := h2') BEb.out (by omega)
          have kp := HZp.out.box3 (b0 := G0) (b1 := G1) (b2 := G2) (l0 := (z2).s.length) (l1 := (z2).w.length) (l2 := (z2).p.length) (c0 := h0') (c1 := h1') (c2 := h2') BEb.out (by omega)
          have kt := HZt.out.box3 (b0 := G0) (b1 := G1) (b2 := G2) (l0 := (z2).s.length) (l1 := (z2).w.length) (l2 := (z2).p.length) (c0 := h0') (c1 := h1') (c2 := h2') BEb.out (by omega)
          have kY := BY.out.far3 (show w.heap.size ≠ wu.heap.size + 1 by omega) (.slice G0 (z2).s.length h0') (.slice G1 (z2).w.length h1') (.slice G2 (z2).p.length h2')
          have kG := BG.out.far3 (show w.heap.size + 1 ≠ wu.heap.size + 1 by omega) (.slice G0 (z2).s.length h0') (.slice G1 (z2).w.length h1') (.slice G2 (z2).p.length h2')
          have kB := below_set3 HBy.out (show w.heap.size ≤ wu.heap.size + 1 by omega) (.slice G0 (z2).s.length h0') (.slice G1 (z2).w.length h1') (.slice G2 (z2).p.length h2')
          have ka := HQa.out.box3 (b0 := G0) (b1 := G1) (b2 := G2) (l0 := (z2).s.length) (l1 := (z2).w.length) (l2 := (z2).p.length) (c0 := h0') (c1 := h1') (c2 := h2') BEb.out (by omega)
          have kc := BEc.out.far3 (show wu.heap.size + 1 + 1 ≠ wu.heap.size + 1 by omega) (.slice G0 (z2).s.length h0') (.slice G1 (z2).w.length h1') (.slice G2 (z2).p.length h2')
          clear HQa BEb BEc
          clear HZm HZp HZt BY BG cY lY cG lG cE fE lE hyz
          generalize (((wy.setCell ⟨wu.heap.size + 1, 0, none⟩ (.slice G0 (z2).s.length h0')).setCell ⟨wu.heap.size + 1, 1, none⟩ (.slice G1 (z2).w.length h1')).setCell ⟨wu.heap.size + 1, 2, none⟩ (.slice G2 (z2).p.length h2')) = w3 at *
          have HZm := Lib.hid km
          have HZp := Lib.hid kp
          have HZt := Lib.hid kt
          have HQb := Lib.hid (⟨kq, kz⟩ : YdB 26 (z2) (wu.heap.size + 1) G0 G1 G2 h0' h1' h2' w3)
          have BY := Lib.hid kY
          have BG := Lib.hid kG
          have HB3 := Lib.hid kB
          have hs03 := HB3.out.size
          have cY := BY.out.cell
          have lY := BY.out.lt
          have cG := BG.out.cell
          have lG := BG.out.lt
          clear km kp kt kq kz kY kG kB
          have HQa := Lib.hid ka
          have BEc := Lib.hid kc
          clear ka kc
          refine (HrRt.out _ HB3.out).mono ?_
          rintro e wz ⟨G0, G1, G2, h0', h1', h2', rfl, hyd, hbz⟩
          have hsz := hbz.size
          have hyz := hyd [] (fun x hx => by cases hx) _ (Ex.refl _ _)
          replace HZm := Lib.hid (HZm.out.kept hbz)
          replace HZp := Lib.hid (HZp.out.kept hbz)
          replace HZt := Lib.hid (HZt.out.kept hbz)
          (try replace BEa := Lib.hid (BEa.out.kept hbz))
          (try replace BEb := Lib.hid (BEb.out.kept hbz))
          replace BEc := Lib.hid (BEc.out.kept hbz)
          (try replace HQa := Lib.hid (HQa.out.kept hbz))
          (try replace HQb := Lib.hid (HQb.out.kept hbz))
          clear hyd
          have HBz := Lib.hid (HB3.out.trans (hbz.mono HB3.out.size))
          have hs0z := HBz.out.size
          replace BY := Lib.hid (BY.out.kept hbz)
          replace cY := BY.out.cell
          replace lY := BY.out.lt
          (try replace BG := Lib.hid (BG.out.kept hbz))
          (try replace cG := BG.out.cell)
          (try replace lG := BG.out.lt)
          clear hbz
          have cE := BEc.out.cell
          have fE := BEc.out.frozen
          have lE := BEc.out.lt
          go_wp2_with fail
          have kz := hyz.box3 (b0 := G0) (b1 := G1) (b2 := G2) (l0 := (z3).s.length) (l1 := (z3).w.length) (l2 := (z3).p.length) (c0 := h0') (c1 := h1') (c2 := h2') BEc.out
          have kq := BEc.out.set3 (.slice G0 (z3).s.length h0') (.slice G1 (z3).w.length h1') (.slice G2 (z3).p.length h2')
          have km := HZm.out.box3 (b0 := G0) (b1 := G1) (b2 := G2) (l0 := (z3).s.length) (l1 := (z3).w.length) (l2 := (z3).p.length) (c0 := h0') (c1 := h1') (c2 := h2') BEc.out (by omega)
          have kp := HZp.out.box3 (b0 := G0) (b1 := G1) (b2 := G2) (l0 := (z3).s.length) (l1 := (z3).w.length) (l2 := (z3).p.length) (c0 := h0') (c1 := h1') (c2 := h2') BEc.out (by omega)
          have kt := HZt.out.box3 (b0 := G0) (b1 := G1) (b2 := G2) (l0 := (z3).s.length) (l1 := (z3).w.length) (l2 := (z3).p.length) (c0 := h0') (c1 := h1') (c2 := h2') BEc.out (by omega)
          have kY := BY.out.far3 (show w.heap.size ≠ wu.heap.size + 1 + 1 by omega) (.slice G0 (z3).s.length h0') (.slice G1 (z3).w.length h1') (.slice G2 (z3).p.length h2')
          have kG := BG.out.far3 (show w.heap.size + 1 ≠ wu.heap.size + 1 + 1 by omega) (.slice G0 (z3).s.length h0') (.slice G1 (z3).w.length h1') (.slice G2 (z3).p.length h2')
          have kB := below_set3 HBz.out (show w.heap.size ≤ wu.heap.size + 1 + 1 by omega) (.slice G0 (z3).s.length h0') (.slice G1 (z3).w.length h1') (.slice G2 (z3).p.length h2')
          have ka := HQa.out.box3 (b0 := G0) (b1 := G1) (b2 := G2) (l0 := (z3).s.length) (l1 := (z3).w.length) (l2 := (z3).p.length) (c0 := h0') (c1 := h1') (c2 := h2') BEc.out (by omega)
          have kb := HQb.out.box3 (b0 := G0) (b1 := G1) (b2 := G2) (l0 := (z3).s.length) (l1 := (z3).w.length) (l2 := (z3).p.length) (c0 := h0') (c1 := h1') (c2 := h2') BEc.out (by omega)
          clear HQa HQb BEc
          clear HZm HZp HZt BY BG cY lY cG lG cE fE lE hyz
          generalize (((wz.setCell ⟨wu.heap.size + 1 + 1, 0, none⟩ (.slice G0 (z3).s.length h0')).setCell ⟨wu.heap.size + 1 + 1, 1, none⟩ (.slice G1 (z3).w.length h1')).setCell ⟨wu.heap.size + 1 + 1, 2, none⟩ (.slice G2 (z3).p.length h2')) = w5 at *
          have HZm := Lib.hid km
          have HZp := Lib.hid kp
          have HZt := Lib.hid kt
          have HQc := Lib.hid (⟨kq, kz⟩ : YdB 26 (z3) (wu.heap.size + 1 + 1) G0 G1 G2 h0' h1' h2' w5)
          have BY := Lib.hid kY
          have BG := Lib.hid kG
          have HB5 := Lib.hid kB
          have hs05 := HB5.out.size
          have cY := BY.out.cell
          have lY := BY.out.lt
          have cG := BG.out.cell
          have lG := BG.out.lt
          clear km kp kt kq kz kY kG kB
          have HQa := Lib.hid ka
          have HQb := Lib.hid kb
          clear ka kb
          have HP := Lib.hid (Below.refl w5.heap.size w5)
          have cM := HZm.out.blk.cell
          have lM := HZm.out.blk.lt
          have cP := HZp.out.blk.cell
          have lP := HZp.out.blk.lt
          have cT := HZt.out.blk.cell
          have lT := HZt.out.blk.lt
          have ca := HQa.out.blk.cell
          have la := HQa.out.blk.lt
          have cb := HQb.out.blk.cell
          have lb := HQb.out.blk.lt
          have cc := HQc.out.blk.cell
          have lc := HQc.out.blk.lt
          (refine wp_region_calm [] [0, 1, 2, 3, 4, 5, 6, 7, 8, 9, 11] 31 (by kernel_rfl) rfl (by kernel_rfl) (by kernel_rfl) (by kernel_rfl) ?_; simp only [pickB, List.filterMap_cons, List.filterMap_nil, List.getElem?_toArray, List.getElem?_cons_zero, List.getElem?_cons_succ]; (repeat (first | ((with_reducible refine quietL_plain rfl (fun K hK => ?_)); (apply Exists.intro; refine ⟨fun wx hx => ?_, ?_⟩; (· (have hcx := ifs_ex hx); simp [go_sem, *, ↓IntWalk.iteOmega] <;> (first | rfl | exact ⟨rfl, rfl⟩ | fail)); (simp only [Act.put, List.setIfInBounds_toArray, List.set_cons_zero, List.set_cons_succ]; refine hK _ ?_; clear hK K))) | ((with_reducible refine quietL_skip (by with_unfolding_all rfl) ?_); simp only [Act.put, List.setIfInBounds_toArray, List.set_cons_zero, List.set_cons_succ]) | ((with_reducible refine quietL_want (by with_unfolding_all rfl) (fun K hK => ?_)); (apply Exists.intro; refine ⟨fun wx hx => ?_, ?_⟩; (· (have hcx := ifs_ex hx); simp [go_sem, *, ↓IntWalk.iteOmega] <;> (first | rfl | exact ⟨rfl, rfl⟩ | fail)); (simp only [Act.put, List.setIfInBounds_toArray, List.set_cons_zero, List.set_cons_succ]; refine hK _ ?_; clear hK K))))); refine quietL_nil ?_)
          (refine anyB_one_want (i := 10) (by kernel_rfl) rfl (by kernel_rfl) ?_; intro wA hbA K hK; have hsA := hbA.size; (try simp at hsA); go_wp2_with fail)
          replace HP := Lib.hid (HP.out.trans (hbA.mono HP.out.size))
          refine (HTd.out _ hm1 _ _ _ _ _ _ _ (yd_kept HZm.out.yd HP.out)).mono ?_
          rintro e wB ⟨F0, F1, F2, f0, f1, f2, rfl, hOB, hbB⟩
          have hsB := hbB.size
          have HFB := Lib.hid hOB.yd
          clear hOB
          replace HP := Lib.hid (HP.out.trans (hbB.mono HP.out.size))
          (go_wp2; refine ⟨xs_, ?_⟩)
          (refine anyB_one_want (i := 12) (by kernel_rfl) rfl (by kernel_rfl) ?_; intro wC hbC K hK; have hsC := hbC.size; (try simp at hsC); go_wp2_with fail)
          replace HP := Lib.hid (HP.out.trans (hbC.mono HP.out.size))
          refine (HSa.out _ hm1 _ _ _ _ _ _ _ _ _ _ _ _ _ (yd_kept HFB.out hbC) (yd_kept HQa.out.yd HP.out)).mono ?_
          rintro e wD ⟨rfl, hbD⟩
          have hsD := hbD.size
          replace HP := Lib.hid (HP.out.trans (hbD.mono HP.out.size))
          clear HFB
          (go_wp2; refine ⟨xs_, ?_⟩)
          (refine anyB_quiet_at (by kernel_rfl) calm_panic xs_ 20 [13, 14, 15, 16, 17, 18, 19, 20, 22] _ _ (by kernel_rfl) (by decide +kernel) ?_; simp only [pickB, List.filterMap_cons, List.filterMap_nil, List.getElem?_toArray, List.getElem?_cons_zero, List.getElem?_cons_succ]; (repeat (first | ((with_reducible refine quietL_plain rfl (fun K hK => ?_)); (apply Exists.intro; refine ⟨fun wx hx => ?_, ?_⟩; (· (have hcx := ifs_ex hx); simp [go_sem, *, ↓IntWalk.iteOmega] <;> (first | rfl | exact ⟨rfl, rfl⟩ | fail)); (simp only [Act.put, List.setIfInBounds_toArray, List.set_cons_zero, List.set_cons_succ]; refine hK _ ?_; clear hK K))) | ((with_reducible refine quietL_skip (by with_unfolding_all rfl) ?_); simp only [Act.put, List.setIfInBounds_toArray, List.set_cons_zero, List.set_cons_succ]) | ((with_reducible refine quietL_want (by with_unfolding_all rfl) (fun K hK => ?_)); (apply Exists.intro; refine ⟨fun wx hx => ?_, ?_⟩; (· (have hcx := ifs_ex hx); simp [go_sem, *, ↓IntWalk.iteOmega] <;> (first | rfl | exact ⟨rfl, rfl⟩ | fail)); (simp only [Act.put, List.setIfInBounds_toArray, List.set_cons_zero, List.set_cons_succ]; refine hK _ ?_; clear hK K))))); refine quietL_nil ?_)
          (refine anyB_one_want (i := 21) (by kernel_rfl) rfl (by kernel_rfl) ?_; intro wE hbE K hK; have hsE := hbE.size; (try simp at hsE); go_wp2_with fail)
          replace HP := Lib.hid (HP.out.trans (hbE.mono HP.out.size))
          refine (HTd.out _ hm2 _ _ _ _ _ _ _ (yd_kept HZp.out.yd HP.out)).mono ?_
          rintro e wF ⟨F0, F1, F2, f0, f1, f2, rfl, hOB, hbF⟩
          have hsF := hbF.size
          have HFB := Lib.hid hOB.yd
          clear hOB
          replace HP := Lib.hid (HP.out.trans (hbF.mono HP.out.size))
          (go_wp2; refine ⟨xs_, ?_⟩)
          (refine anyB_one_want (i := 23) (by kernel_rfl) rfl (by kernel_rfl) ?_; intro wG hbG K hK; have hsG := hbG.size; (try simp at hsG); go_wp2_with fail)
          replace HP := Lib.hid (HP.out.trans (hbG.mono HP.out.size))
          refine (HSa.out _ hm2 _ _ _ _ _ _ _ _ _ _ _ _ _ (yd_kept HFB.out hbG) (yd_kept HQb.out.yd HP.out)).mono ?_
          rintro e wH ⟨rfl, hbH⟩
          have hsH := hbH.size
          replace HP := Lib.hid (HP.out.trans (hbH.mono HP.out.size))
          clear HFB
          (go_wp2; refine ⟨xs_, ?_⟩)
          (refine anyB_quiet_at (by kernel_rfl) calm_panic xs_ 9 [24, 25, 26, 27, 28, 29, 30, 31, 33] _ _ (by kernel_rfl) (by decide +kernel) ?_; simp only [pickB, List.filterMap_cons, List.filterMap_nil, List.getElem?_toArray, List.getElem?_cons_zero, List.getElem?_cons_succ]; (repeat (first | ((with_reducible refine quietL_plain rfl (fun K hK => ?_)); (apply Exists.intro; refine ⟨fun wx hx => ?_, ?_⟩; (· (have hcx := ifs_ex hx); simp [go_sem, *, ↓IntWalk.iteOmega] <;> (first | rfl | exact ⟨rfl, rfl⟩ | fail)); (simp only [Act.put, List.setIfInBounds_toArray, List.set_cons_zero, List.set_cons_succ]; refine hK _ ?_; clear hK K))) | ((with_reducible refine quietL_skip (by with_unfolding_all rfl) ?_); simp only [Act.put, List.setIfInBounds_toArray, List.set_cons_zero, List.set_cons_succ]) | ((with_reducible refine quietL_want (by with_unfolding_all rfl) (fun K hK => ?_)); (apply Exists.intro; refine ⟨fun wx hx => ?_, ?_⟩; (· (have hcx := ifs_ex hx); simp [go_sem, *, ↓IntWalk.iteOmega] <;> (first | rfl | exact ⟨rfl, rfl⟩ | fail)); (simp only [Act.put, List.setIfInBounds_toArray, List.set_cons_zero, List.set_cons_succ]; refine hK _ ?_; clear hK K))))); refine quietL_nil ?_)
          (refine anyB_one_want (i := 32) (by kernel_rfl) rfl (by kernel_rfl) ?_; intro wI hbI K hK; have hsI := hbI.size; (try simp at hsI); go_wp2_with fail)
          replace HP := Lib.hid (HP.out.trans (hbI.mono HP.out.size))
          refine (HTd.out _ hm3 _ _ _ _ _ _ _ (yd_kept HZt.out.yd HP.out)).mono ?_
          rintro e wJ ⟨F0, F1, F2, f0, f1, f2, rfl, hOB, hbJ⟩
          have hsJ := hbJ.size
          have HFB := Lib.hid hOB.yd
          clear hOB
          replace HP := Lib.hid (HP.out.trans (hbJ.mono HP.out.size))
          (go_wp2; refine ⟨xs_, ?_⟩)
          (refine anyB_one_want (i := 34) (by kernel_rfl) rfl (by kernel_rfl) ?_; intro wL hbL K hK; have hsL := hbL.size; (try simp at hsL); go_wp2_with fail)
          replace HP := Lib.hid (HP.out.trans (hbL.mono HP.out.size))
          refine (HSa.out _ hm3 _ _ _ _ _ _ _ _ _ _ _ _ _ (yd_kept HFB.out hbL) (yd_kept HQc.out.yd HP.out)).mono ?_
          rintro e wM ⟨rfl, hbM⟩
          have hsM := hbM.size
          replace HP := Lib.hid (HP.out.trans (hbM.mono HP.out.size))
          clear HFB
          (go_wp2; refine ⟨xs_, ?_⟩)
          (refine anyB_quiet_at (by kernel_rfl) calm_panic xs_ 1 [35, 36, 37, 38, 39, 40] _ _ (by kernel_rfl) (by decide +kernel) ?_; simp only [pickB, List.filterMap_cons, List.filterMap_nil, List.getElem?_toArray, List.getElem?_cons_zero, List.getElem?_cons_succ]; (repeat (first | ((with_reducible refine quietL_plain rfl (fun K hK => ?_)); (apply Exists.intro; refine ⟨fun wx hx => ?_, ?_⟩; (· (have hcx := ifs_ex hx); simp [go_sem, *, ↓IntWalk.iteOmega] <;> (first | rfl | exact ⟨rfl, rfl⟩ | fail)); (simp only [Act.put, List.setIfInBounds_toArray, List.set_cons_zero, List.set_cons_succ]; refine hK _ ?_; clear hK K))) | ((with_reducible refine quietL_skip (by with_unfolding_all rfl) ?_); simp only [Act.put, List.setIfInBounds_toArray, List.set_cons_zero, List.set_cons_succ]) | ((with_reducible refine quietL_want (by with_unfolding_all rfl) (fun K hK => ?_)); (apply Exists.intro; refine ⟨fun wx hx => ?_, ?_⟩; (· (have hcx := ifs_ex hx); simp [go_sem, *, ↓IntWalk.iteOmega] <;> (first | rfl | exact ⟨rfl, rfl⟩ | fail)); (simp only [Act.put, List.setIfInBounds_toArray, List.set_cons_zero, List.set_cons_succ]; refine hK _ ?_; clear hK K))))); refine quietL_nil ?_)
          (refine anyB_one (i := 41) (by kernel_rfl) rfl rfl ?_; intro wN hbN K hK; have hsN := hbN.size; (try simp at hsN); go_wp2; refine ⟨xs_, ?_⟩)
          (refine anyB_end (by kernel_rfl) ?_; intro wO hbO; have hsO := hbO.size; (try simp at hsO); simp only [Calm])
          have hFin : Below w.heap.size w wO := HB5.out.trans ((HP.out.trans ((hbN.trans (hbO.mono hbN.size)).mono HP.out.size)).mono HB5.out.size)
          clear hbA hbB hbC hbD hbE hbF hbG hbH hbI hbJ hbL hbM hbN hbO
          go_wp2_with fail
          go_ret
          exact ⟨by first | rfl | (simp; done), hFin⟩
      · obtain ⟨i, hie⟩ := Int.eq_ofNat_of_zero_le (show 0 ≤ atB y xw by omega)
        have hil : i < y.w.length := by omega
        have f3 : whenE (decide (atB y xw < 0)) 10 = 0 := by rw [decide_eq_false hi]; rfl
        have HWh := Lib.hid (fun W => rWhen_any (decide (atB y xw < 0)) 10 W)
        rw [f3] at HWh
        obtain rfl : er0 = 0 := e1.trans f3
        have HrW := Lib.hid (fun W hW => HrWy.out hP W hW i hil)
        obtain rfl : v0 = nmL (whyN y i) := by rw [← hV0]; unfold whyW; rw [hE0, if_pos rfl, hie]; rfl
        generalize nmL (whyN y i) = vw at *
        rw [hie] at HFd HWh
        clear HEQ hE0 hV0 hE1 hE2 hE3 hZ1 hZ2 hZ3 e1 f3 hee hP HrWy hbd HBD hi hie hil
        as_aux_lemma =>
          refine (HCk.out _ HBt.out).mono ?_
          (rintro e wu ⟨rfl, hbu⟩; have hsu := hbu.size; (try simp at hsu))
          replace HZm := Lib.hid (HZm.out.kept hbu)
          replace HZp := Lib.hid (HZp.out.kept hbu)
          replace HZt := Lib.hid (HZt.out.kept hbu)
          have HBu := Lib.hid (HBt.out.trans (hbu.mono HBt.out.size))
          have hs0u := HBu.out.size
          replace BY := Lib.hid (BY.out.kept hbu)
          replace cY := BY.out.cell
          replace lY := BY.out.lt
          (try replace BG := Lib.hid (BG.out.kept hbu))
          (try replace cG := BG.out.cell)
          (try replace lG := BG.out.lt)
          clear hbu
          have hYu := BY.out.lt
          have hGu := BG.out.lt
          have hlm := HZm.out.blk.lt
          have hlp := HZp.out.blk.lt
          have hlt := HZt.out.blk.lt
          go_wp2_with fail
          have BEa := Lib.hid (((Blk.new wu 26 #[.slice none 0 0, .slice none 0 0, .slice none 0 0]).alloc (.cells #[.slice none 0 0, .slice none 0 0, .slice none 0 0] 26)).alloc (.cells #[.slice none 0 0, .slice none 0 0, .slice none 0 0] 26))
          have BEb := Lib.hid ((Blk.new (wu.alloc (.cells #[.slice none 0 0, .slice none 0 0, .slice none 0 0] 26)) 26 #[.slice none 0 0, .slice none 0 0, .slice none 0 0]).alloc (.cells #[.slice none 0 0, .slice none 0 0, .slice none 0 0] 26))
          have BEc := Lib.hid (Blk.new ((wu.alloc (.cells #[.slice none 0 0, .slice none 0 0, .slice none 0 0] 26)).alloc (.cells #[.slice none 0 0, .slice none 0 0, .slice none 0 0] 26)) 26 #[.slice none 0 0, .slice none 0 0, .slice none 0 0])
          have hb9 : Below wu.heap.size wu (((wu.alloc (.cells #[.slice none 0 0, .slice none 0 0, .slice none 0 0] 26)).alloc (.cells #[.slice none 0 0, .slice none 0 0, .slice none 0 0] 26)).alloc (.cells #[.slice none 0 0, .slice none 0 0, .slice none 0 0] 26)) := (((Below.refl _ wu).alloc (Nat.le_refl _) _).alloc (by simp) _).alloc (by simp; omega) _
          have hs9 : (((wu.alloc (.cells #[.slice none 0 0, .slice none 0 0, .slice none 0 0] 26)).alloc (.cells #[.slice none 0 0, .slice none 0 0, .slice none 0 0] 26)).alloc (.cells #[.slice none 0 0, .slice none 0 0, .slice none 0 0] 26)).heap.size = wu.heap.size + 1 + 1 + 1 := by simp
          generalize (((wu.alloc (.cells #[.slice none 0 0, .slice none 0 0, .slice none 0 0] 26)).alloc (.cells #[.slice none 0 0, .slice none 0 0, .slice none 0 0] 26)).alloc (.cells #[.slice none 0 0, .slice none 0 0, .slice none 0 0] 26)) = w9 at *
          simp at BEb BEc
          replace HZm := Lib.hid (HZm.out.kept hb9)
          replace HZp := Lib.hid (HZp.out.kept hb9)
          replace HZt := Lib.hid (HZt.out.kept hb9)
          have HB9 := Lib.hid (HBu.out.trans (hb9.mono HBu.out.size))
          have hs09 := HB9.out.size
          replace BY := Lib.hid (BY.out.kept hb9)
          replace cY := BY.out.cell
          replace lY := BY.out.lt
          (try replace BG := Lib.hid (BG.out.kept hb9))
          (try replace cG := BG.out.cell)
          (try replace lG := BG.out.lt)
          clear hb9
          refine (HFd.out _ HB9.out).mono ?_
          (rintro e wx ⟨rfl, hbx⟩; have hsx := hbx.size; (try simp at hsx))
          replace HZm := Lib.hid (HZm.out.kept hbx)
          replace HZp := Lib.hid (HZp.out.kept hbx)
          replace HZt := Lib.hid (HZt.out.kept hbx)
          replace BEa := Lib.hid (BEa.out.kept hbx)
          replace BEb := Lib.hid (BEb.out.kept hbx)
          replace BEc := Lib.hid (BEc.out.kept hbx)
          have HBx := Lib.hid (HB9.out.trans (hbx.mono HB9.out.size))
          have hs0x := HBx.out.size
          replace BY := Lib.hid (BY.out.kept hbx)
          replace cY := BY.out.cell
          replace lY := BY.out.lt
          (try replace BG := Lib.hid (BG.out.kept hbx))
          (try replace cG := BG.out.cell)
          (try replace lG := BG.out.lt)
          clear hbx
          go_wp2_with fail
          refine (HWh.out _).mono ?_
          rintro e wq ⟨rfl, rfl⟩
          go_wp2_with fail
          refine (HrW.out _ HBx.out).mono ?_
          (rintro e wxa ⟨rfl, hbxa⟩; have hsxa := hbxa.size; (try simp at hsxa))
          replace HZm := Lib.hid (HZm.out.kept hbxa)
          replace HZp := Lib.hid (HZp.out.kept hbxa)
          replace HZt := Lib.hid (HZt.out.kept hbxa)
          replace BEa := Lib.hid (BEa.out.kept hbxa)
          replace BEb := Lib.hid (BEb.out.kept hbxa)
          replace BEc := Lib.hid (BEc.out.kept hbxa)
          have HBxa := Lib.hid (HBx.out.trans (hbxa.mono HBx.out.size))
          have hs0xa := HBxa.out.size
          replace BY := Lib.hid (BY.out.kept hbxa)
          replace cY := BY.out.cell
          replace lY := BY.out.lt
          (try replace BG := Lib.hid (BG.out.kept hbxa))
          (try replace cG := BG.out.cell)
          (try replace lG := BG.out.lt)
          clear hbxa
          go_wp2_with fail
          refine (HrMv.out _ HBxa.out).mono ?_
          rintro e wv ⟨G0, G1, G2, h0', h1', h2', rfl, hyd, hbv⟩
          have hsv := hbv.size
          have hyz := hyd [] (fun x hx => by cases hx) _ (Ex.refl _ _)
          replace HZm := Lib.hid (HZm.out.kept hbv)
          replace HZp := Lib.hid (HZp.out.kept hbv)
          replace HZt := Lib.hid (HZt.out.kept hbv)
          (try replace BEa := Lib.hid (BEa.out.kept hbv))
          (try replace BEb := Lib.hid (BEb.out.kept hbv))
          replace BEc := Lib.hid (BEc.out.kept hbv)
          (try replace HQa := Lib.hid (HQa.out.kept hbv))
          (try replace HQb := Lib.hid (HQb.out.kept hbv))
          clear hyd
          have HBv := Lib.hid (HBxa.out.trans (hbv.mono HBxa.out.size))
          have hs0v := HBv.out.size
          replace BY := Lib.hid (BY.out.kept hbv)
          replace cY := BY.out.cell
          replace lY := BY.out.lt
          (try replace BG := Lib.hid (BG.out.kept hbv))
          (try replace cG := BG.out.cell)
          (try replace lG := BG.out.lt)
          clear hbv
          have cE := BEa.out.cell
          have fE := BEa.out.frozen
          have lE := BEa.out.lt
          go_wp2_with fail
          have kz := hyz.box3 (b0 := G0) (b1 := G1) (b2 := G2) (l0 := (z1).s.length) (l1 := (z1).w.length) (l2 := (z1).p.length) (c0 := h0') (c1 := h1') (c2 := h2') BEa.out
          have kq := BEa.out.set3 (.slice G0 (z1).s.length h0') (.slice G1 (z1).w.length h1') (.slice G2 (z1).p.length h2')
          have km := HZm.out.box3 (b0 := G0) (b1 := G1) (b2 := G2) (l0 := (z1).s.length) (l1 := (z1).w.length) (l2 := (z1).p.length) (c0 := h0') (c1 := h1') (c2 := h2') BEa.out (by omega)
          have kp := HZp.out.box3 (b0 := G0) (b1 := G1) (b2 := G2) (l0 := (z1).s.length) (l1 := (z1).w.length) (l2 := (z1).p.length) (c0 := h0') (c1 := h1') (c2 := h2') BEa.out (by omega)
          have kt := HZt.out.box3 (b0 := G0) (b1 := G1) (b2 := G2) (l0 := (z1).s.length) (l1 := (z1).w.length) (l2 := (z1).p.length) (c0 := h0') (c1 := h1') (c2 := h2') BEa.out (by omega)
          have kY := BY.out.far3 (show w.heap.size ≠ wu.heap.size by omega) (.slice G0 (z1).s.length h0') (.slice G1 (z1).w.length h1') (.slice G2 (z1).p.length h2')
          have kG := BG.out.far3 (show w.heap.size + 1 ≠ wu.heap.size by omega) (.slice G0 (z1).s.length h0') (.slice G1 (z1).w.length h1') (.slice G2 (z1).p.length h2')
          have kB := below_set3 HBv.out (show w.heap.size ≤ wu.heap.size by omega) (.slice G0 (z1).s.length h0') (.slice G1 (z1).w.length h1') (.slice G2 (z1).p.length h2')
          have kb := BEb.out.far3 (show wu.heap.size + 1 ≠ wu.heap.size by omega) (.slice G0 (z1).s.length h0') (.slice G1 (z1).w.length h1') (.slice G2 (z1).p.length h2')
          have kc := BEc.out.far3 (show wu.heap.size + 1 + 1 ≠ wu.heap.size by omega) (.slice G0 (z1).s.length h0') (.slice G1 (z1).w.length h1') (.slice G2 (z1).p.length h2')
          clear BEa BEb BEc
          clear HZm HZp HZt BY BG cY lY cG lG cE fE lE hyz
          generalize (((wv.setCell ⟨wu.heap.size, 0, none⟩ (.slice G0 (z1).s.length h0')).setCell ⟨wu.heap.size, 1, none⟩ (.slice G1 (z1).w.length h1')).setCell ⟨wu.heap.size, 2, none⟩ (.slice G2 (z1).p.length h2')) = w1 at *
          have HZm := Lib.hid km
          have HZp := Lib.hid kp
          have HZt := Lib.hid kt
          have HQa := Lib.hid (⟨kq, kz⟩ : YdB 26 (z1) (wu.heap.size) G0 G1 G2 h0' h1' h2' w1)
          have BY := Lib.hid kY
          have BG := Lib.hid kG
          have HB1 := Lib.hid kB
          have hs01 := HB1.out.size
          have cY := BY.out.cell
          have lY := BY.out.lt
          have cG := BG.out.cell
          have lG := BG.out.lt
          clear km kp kt kq kz kY kG kB
          have BEb := Lib.hid kb
          have BEc := Lib.hid kc
          clear kb kc
          refine (HrGr.out _ HB1.out).mono ?_
          rintro e wy ⟨G0, G1, G2, h0', h1', h2', rfl, hyd, hby⟩
          have hsy := hby.size
          have hyz := hyd [] (fun x hx => by cases hx) _ (Ex.refl _ _)
          replace HZm := Lib.hid (HZm.out.kept hby)
          replace HZp := Lib.hid (HZp.out.kept hby)
          replace HZt := Lib.hid (HZt.out.kept hby)
          (try replace BEa := Lib.hid (BEa.out.kept hby))
          (try replace BEb := Lib.hid (BEb.out.kept hby))
          replace BEc := Lib.hid (BEc.out.kept hby)
          (try replace HQa := Lib.hid (HQa.out.kept hby))
          (try replace HQb := Lib.hid (HQb.out.kept hby))
          clear hyd
          have HBy := Lib.hid (HB1.out.trans (hby.mono HB1.out.size))
          have hs0y := HBy.out.size
          replace BY := Lib.hid (BY.out.kept hby)
          replace cY := BY.out.cell
          replace lY := BY.out.lt
          (try replace BG := Lib.hid (BG.out.kept hby))
          (try replace cG := BG.out.cell)
          (try replace lG := BG.out.lt)
          clear hby
          have cE := BEb.out.cell
          have fE := BEb.out.frozen
          have lE := BEb.out.lt
          go_wp2_with fail
          have kz := hyz.box3 (b0 := G0) (b1 := G1) (b2 := G2) (l0 := (z2).s.length) (l1 := (z2).w.length) (l2 := (z2).p.length) (c0 := h0') (c1 := h1') (c2 := h2') BEb.out
          have kq := BEb.out.set3 (.slice G0 (z2).s.length h0') (.slice G1 (z2).w.length h1') (.slice G2 (z2).p.length h2')
          have km := HZm.out.box3 (b0 := G0) (b1 := G1) (b2 := G2) (l0 := (z2).s.length) (l1 := (z2).w.length) (l2 := (z2).p.length) (c0 := h0') (c1 := h1') (c2 := h2') BEb.out (by omega)
          have kp := HZp.out.box3 (b0 := G0) (b1 := G1) (b2 := G2) (l0 := (z2).s.length) (l1 := (z2).w.length) (l2 := (z2).p.length) (c0 := h0') (c1 := h1') (c2 := h2') BEb.out (by omega)
          have kt := HZt.out.box3 (b0 := G0) (b1 := G1) (b2 := G2) (l0 := (z2).s.length) (l1 := (z2).w.length) (l2 := (z2).p.length) (c0 := h0') (c1 := h1') (c2 := h2') BEb.out (by omega)
          have kY := BY.out.far3 (show w.heap.size ≠ wu.heap.size + 1 by omega) (.slice G0 (z2).s.length h0') (.slice G1 (z2).w.length h1') (.slice G2 (z2).p.length h2')
          have kG := BG.out.far3 (show w.heap.size + 1 ≠ wu.heap.size + 1 by omega) (.slice G0 (z2).s.length h0') (.slice G1 (z2).w.length h1') (.slice G2 (z2).p.length h2')
          have kB := below_set3 HBy.out (show w.heap.size ≤ wu.heap.size + 1 by omega) (.slice G0 (z2).s.length h0') (.slice G1 (z2).w.length h1') (.slice G2 (z2).p.length h2')
          have ka := HQa.out.box3 (b0 := G0) (b1 := G1) (b2 := G2) (l0 := (z2).s.length) (l1 := (z2).w.length) (l2 := (z2).p.length) (c0 := h0') (c1 := h1') (c2 := h2') BEb.out (by omega)
          have kc := BEc.out.far3 (show wu.heap.size + 1 + 1 ≠ wu.heap.size + 1 by omega) (.slice G0 (z2).s.length h0') (.slice G1 (z2).w.length h1') (.slice G2 (z2).p.length h2')
          clear HQa BEb BEc
          clear HZm HZp HZt BY BG cY lY cG lG cE fE lE hyz
          generalize (((wy.setCell ⟨wu.heap.size + 1, 0, none⟩ (.slice G0 (z2).s.length h0')).setCell ⟨wu.heap.size + 1, 1, none⟩ (.slice G1 (z2).w.length h1')).setCell ⟨wu.heap.size + 1, 2, none⟩ (.slice G2 (z2).p.length h2')) = w3 at *
          have HZm := Lib.hid km
          have HZp := Lib.hid kp
          have HZt := Lib.hid kt
          have HQb := Lib.hid (⟨kq, kz⟩ : YdB 26 (z2) (wu.heap.size + 1) G0 G1 G2 h0' h1' h2' w3)
          have BY := Lib.hid kY
          have BG := Lib.hid kG
          have HB3 := Lib.hid kB
          have hs03 := HB3.out.size
          have cY := BY.out.cell
          have lY := BY.out.lt
          have cG := BG.out.cell
          have lG := BG.out.lt
          clear km kp kt kq kz kY kG kB
          have HQa := Lib.hid ka
          have BEc := Lib.hid kc
          clear ka kc
          refine (HrRt.out _ HB3.out).mono ?_
          rintro e wz ⟨G0, G1, G2, h0', h1', h2', rfl, hyd, hbz⟩
          have hsz := hbz.size
          have hyz := hyd [] (fun x hx => by cases hx) _ (Ex.refl _ _)
          replace HZm := Lib.hid (HZm.out.kept hbz)
          replace HZp := Lib.hid (HZp.out.kept hbz)
          replace HZt := Lib.hid (HZt.out.kept hbz)
          (try replace BEa := Lib.hid (BEa.out.kept hbz))
          (try replace BEb := Lib.hid (BEb.out.kept hbz))
          replace BEc := Lib.hid (BEc.out.kept hbz)
          (try replace HQa := Lib.hid (HQa.out.kept hbz))
          (try replace HQb := Lib.hid (HQb.out.kept hbz))
          clear hyd
          have HBz := Lib.hid (HB3.out.trans (hbz.mono HB3.out.size))
          have hs0z := HBz.out.size
          replace BY := Lib.hid (BY.out.kept hbz)
          replace cY := BY.out.cell
          replace lY := BY.out.lt
          (try replace BG := Lib.hid (BG.out.kept hbz))
          (try replace cG := BG.out.cell)
          (try replace lG := BG.out.lt)
          clear hbz
          have cE := BEc.out.cell
          have fE := BEc.out.frozen
          have lE := BEc.out.lt
          go_wp2_with fail
          have kz := hyz.box3 (b0 := G0) (b1 := G1) (b2 := G2) (l0 := (z3).s.length) (l1 := (z3).w.length) (l2 := (z3).p.length) (c0 := h0') (c1 := h1') (c2 := h2') BEc.out
          have kq := BEc.out.set3 (.slice G0 (z3).s.length h0') (.slice G1 (z3).w.length h1') (.slice G2 (z3).p.length h2')
          have km := HZm.out.box3 (b0 := G0) (b1 := G1) (b2 := G2) (l0 := (z3).s.length) (l1 := (z3).w.length) (l2 := (z3).p.length) (c0 := h0') (c1 := h1') (c2 := h2') BEc.out (by omega)
          have kp := HZp.out.box3 (b0 := G0) (b1 := G1) (b2 := G2) (l0 := (z3).s.length) (l1 := (z3).w.length) (l2 := (z3).p.length) (c0 := h0') (c1 := h1') (c2 := h2') BEc.out (by omega)
          have kt := HZt.out.box3 (b0 := G0) (b1 := G1) (b2 := G2) (l0 := (z3).s.length) (l1 := (z3).w.length) (l2 := (z3).p.length) (c0 := h0') (c1 := h1') (c2 := h2') BEc.out (by omega)
          have kY := BY.out.far3 (show w.heap.size ≠ wu.heap.size + 1 + 1 by omega) (.slice G0 (z3).s.length h0') (.slice G1 (z3).w.length h1') (.slice G2 (z3).p.length h2')
          have kG := BG.out.far3 (show w.heap.size + 1 ≠ wu.heap.size + 1 + 1 by omega) (.slice G0 (z3).s.length h0') (.slice G1 (z3).w.length h1') (.slice G2 (z3).p.length h2')
          have kB := below_set3 HBz.out (show w.heap.size ≤ wu.heap.size + 1 + 1 by omega) (.slice G0 (z3).s.length h0') (.slice G1 (z3).w.length h1') (.slice G2 (z3).p.length h2')
          have ka := HQa.out.box3 (b0 := G0) (b1 := G1) (b2 := G2) (l0 := (z3).s.length) (l1 := (z3).w.length) (l2 := (z3).p.length) (c0 := h0') (c1 := h1') (c2 := h2') BEc.out (by omega)
          have kb := HQb.out.box3 (b0 := G0) (b1 := G1) (b2 := G2) (l0 := (z3).s.length) (l1 := (z3).w.length) (l2 := (z3).p.length) (c0 := h0') (c1 := h1') (c2 := h2') BEc.out (by omega)
          clear HQa HQb BEc
          clear HZm HZp HZt BY BG cY lY cG lG cE fE lE hyz
          generalize (((wz.setCell ⟨wu.heap.size + 1 + 1, 0, none⟩ (.slice G0 (z3).s.length h0')).setCell ⟨wu.heap.size + 1 + 1, 1, none⟩ (.slice G1 (z3).w.length h1')).setCell ⟨wu.heap.size + 1 + 1, 2, none⟩ (.slice G2 (z3).p.length h2')) = w5 at *
          have HZm := Lib.hid km
          have HZp := Lib.hid kp
          have HZt := Lib.hid kt
          have HQc := Lib.hid (⟨kq, kz⟩ : YdB 26 (z3) (wu.heap.size + 1 + 1) G0 G1 G2 h0' h1' h2' w5)
          have BY := Lib.hid kY
          have BG := Lib.hid kG
          have HB5 := Lib.hid kB
          have hs05 := HB5.out.size
          have cY := BY.out.cell
          have lY := BY.out.lt
          have cG := BG.out.cell
          have lG := BG.out.lt
          clear km kp kt kq kz kY kG kB
          have HQa := Lib.hid ka
          have HQb := Lib.hid kb
          clear ka kb
          have HP := Lib.hid (Below.refl w5.heap.size w5)
          have cM := HZm.out.blk.cell
          have lM := HZm.out.blk.lt
          have cP := HZp.out.blk.cell
          have lP := HZp.out.blk.lt
          have cT := HZt.out.blk.cell
          have lT := HZt.out.blk.lt
          have ca := HQa.out.blk.cell
          have la := HQa.out.blk.lt
          have cb := HQb.out.blk.cell
          have lb := HQb.out.blk.lt
          have cc := HQc.out.blk.cell
          have lc := HQc.out.blk.lt
          (refine wp_region_calm [] [0, 1, 2, 3, 4, 5, 6, 7, 8, 9, 11] 31 (by kernel_rfl) rfl (by kernel_rfl) (by kernel_rfl) (by kernel_rfl) ?_; simp only [pickB, List.filterMap_cons, List.filterMap_nil, List.getElem?_toArray, List.getElem?_cons_zero, List.getElem?_cons_succ]; (repeat (first | ((with_reducible refine quietL_plain rfl (fun K hK => ?_)); (apply Exists.intro; refine ⟨fun wx hx => ?_, ?_⟩; (· (have hcx := ifs_ex hx); simp [go_sem, *, ↓IntWalk.iteOmega] <;> (first | rfl | exact ⟨rfl, rfl⟩ | fail)); (simp only [Act.put, List.setIfInBounds_toArray, List.set_cons_zero, List.set_cons_succ]; refine hK _ ?_; clear hK K))) | ((with_reducible refine quietL_skip (by with_unfolding_all rfl) ?_); simp only [Act.put, List.setIfInBounds_toArray, List.set_cons_zero, List.set_cons_succ]) | ((with_reducible refine quietL_want (by with_unfolding_all rfl) (fun K hK => ?_)); (apply Exists.intro; refine ⟨fun wx hx => ?_, ?_⟩; (· (have hcx := ifs_ex hx); simp [go_sem, *, ↓IntWalk.iteOmega] <;> (first | rfl | exact ⟨rfl, rfl⟩ | fail)); (simp only [Act.put, List.setIfInBounds_toArray, List.set_cons_zero, List.set_cons_succ]; refine hK _ ?_; clear hK K))))); refine quietL_nil ?_)
          (refine anyB_one_want (i := 10) (by kernel_rfl) rfl (by kernel_rfl) ?_; intro wA hbA K hK; have hsA := hbA.size; (try simp at hsA); go_wp2_with fail)
          replace HP := Lib.hid (HP.out.trans (hbA.mono HP.out.size))
          refine (HTd.out _ hm1 _ _ _ _ _ _ _ (yd_kept HZm.out.yd HP.out)).mono ?_
          rintro e wB ⟨F0, F1, F2, f0, f1, f2, rfl, hOB, hbB⟩
          have hsB := hbB.size
          have HFB := Lib.hid hOB.yd
          clear hOB
          replace HP := Lib.hid (HP.out.trans (hbB.mono HP.out.size))
          (go_wp2; refine ⟨xs_, ?_⟩)
          (refine anyB_one_want (i := 12) (by kernel_rfl) rfl (by kernel_rfl) ?_; intro wC hbC K hK; have hsC := hbC.size; (try simp at hsC); go_wp2_with fail)
          replace HP := Lib.hid (HP.out.trans (hbC.mono HP.out.size))
          refine (HSa.out _ hm1 _ _ _ _ _ _ _ _ _ _ _ _ _ (yd_kept HFB.out hbC) (yd_kept HQa.out.yd HP.out)).mono ?_
          rintro e wD ⟨rfl, hbD⟩
          have hsD := hbD.size
          replace HP := Lib.hid (HP.out.trans (hbD.mono HP.out.size))
          clear HFB
          (go_wp2; refine ⟨xs_, ?_⟩)
          (refine anyB_quiet_at (by kernel_rfl) calm_panic xs_ 20 [13, 14, 15, 16, 17, 18, 19, 20, 22] _ _ (by kernel_rfl) (by decide +kernel) ?_; simp only [pickB, List.filterMap_cons, List.filterMap_nil, List.getElem?_toArray, List.getElem?_cons_zero, List.getElem?_cons_succ]; (repeat (first | ((with_reducible refine quietL_plain rfl (fun K hK => ?_)); (apply Exists.intro; refine ⟨fun wx hx => ?_, ?_⟩; (· (have hcx := ifs_ex hx); simp [go_sem, *, ↓IntWalk.iteOmega] <;> (first | rfl | exact ⟨rfl, rfl⟩ | fail)); (simp only [Act.put, List.setIfInBounds_toArray, List.set_cons_zero, List.set_cons_succ]; refine hK _ ?_; clear hK K))) | ((with_reducible refine quietL_skip (by with_unfolding_all rfl) ?_); simp only [Act.put, List.setIfInBounds_toArray, List.set_cons_zero, List.set_cons_succ]) | ((with_reducible refine quietL_want (by with_unfolding_all rfl) (fun K hK => ?_)); (apply Exists.intro; refine ⟨fun wx hx => ?_, ?_⟩; (· (have hcx := ifs_ex hx); simp [go_sem, *, ↓IntWalk.iteOmega] <;> (first | rfl | exact ⟨rfl, rfl⟩ | fail)); (simp only [Act.put, List.setIfInBounds_toArray, List.set_cons_zero, List.set_cons_succ]; refine hK _ ?_; clear hK K))))); refine quietL_nil ?_)
          (refine anyB_one_want (i := 21) (by kernel_rfl) rfl (by kernel_rfl) ?_; intro wE hbE K hK; have hsE := hbE.size; (try simp at hsE); go_wp2_with fail)
          replace HP := Lib.hid (HP.out.trans (hbE.mono HP.out.size))
          refine (HTd.out _ hm2 _ _ _ _ _ _ _ (yd_kept HZp.out.yd HP.out)).mono ?_
          rintro e wF ⟨F0, F1, F2, f0, f1, f2, rfl, hOB, hbF⟩
          have hsF := hbF.size
          have HFB := Lib.hid hOB.yd
          clear hOB
          replace HP := Lib.hid (HP.out.trans (hbF.mono HP.out.size))
          (go_wp2; refine ⟨xs_, ?_⟩)
          (refine anyB_one_want (i := 23) (by kernel_rfl) rfl (by kernel_rfl) ?_; intro wG hbG K hK; have hsG := hbG.size; (try simp at hsG); go_wp2_with fail)
          replace HP := Lib.hid (HP.out.trans (hbG.mono HP.out.size))
          refine (HSa.out _ hm2 _ _ _ _ _ _ _ _ _ _ _ _ _ (yd_kept HFB.out hbG) (yd_kept HQb.out.yd HP.out)).mono ?_
          rintro e wH ⟨rfl, hbH⟩
          have hsH := hbH.size
          replace HP := Lib.hid (HP.out.trans (hbH.mono HP.out.size))
          clear HFB
          (go_wp2; refine ⟨xs_, ?_⟩)
          (refine anyB_quiet_at (by kernel_rfl) calm_panic xs_ 9 [24, 25, 26, 27, 28, 29, 30, 31, 33] _ _ (by kernel_rfl) (by decide +kernel) ?_; simp only [pickB, List.filterMap_cons, List.filterMap_nil, List.getElem?_toArray, List.getElem?_cons_zero, List.getElem?_cons_succ]; (repeat (first | ((with_reducible refine quietL_plain rfl (fun K hK => ?_)); (apply Exists.intro; refine ⟨fun wx hx => ?_, ?_⟩; (· (have hcx := ifs_ex hx); simp [go_sem, *, ↓IntWalk.iteOmega] <;> (first | rfl | exact ⟨rfl, rfl⟩ | fail)); (simp only [Act.put, List.setIfInBounds_toArray, List.set_cons_zero, List.set_cons_succ]; refine hK _ ?_; clear hK K))) | ((with_reducible refine quietL_skip (by with_unfolding_all rfl) ?_); simp only [Act.put, List.setIfInBounds_toArray, List.set_cons_zero, List.set_cons_succ]) | ((with_reducible refine quietL_want (by with_unfolding_all rfl) (fun K hK => ?_)); (apply Exists.intro; refine ⟨fun wx hx => ?_, ?_⟩; (· (have hcx := ifs_ex hx); simp [go_sem, *, ↓IntWalk.iteOmega] <;> (first | rfl | exact ⟨rfl, rfl⟩ | fail)); (simp only [Act.put, List.setIfInBounds_toArray, List.set_cons_zero, List.set_cons_succ]; refine hK _ ?_; clear hK K))))); refine quietL_nil ?_)
          (refine anyB_one_want (i := 32) (by kernel_rfl) rfl (by kernel_rfl) ?_; intro wI hbI K hK; have hsI := hbI.size; (try simp at hsI); go_wp2_with fail)
          replace HP := Lib.hid (HP.out.trans (hbI.mono HP.out.size))
          refine (HTd.out _ hm3 _ _ _ _ _ _ _ (yd_kept HZt.out.yd HP.out)).mono ?_
          rintro e wJ ⟨F0, F1, F2, f0, f1, f2, rfl, hOB, hbJ⟩
          have hsJ := hbJ.size
          have HFB := Lib.hid hOB.yd
          clear hOB
          replace HP := Lib.hid (HP.out.trans (hbJ.mono HP.out.size))
          (go_wp2; refine ⟨xs_, ?_⟩)
          (refine anyB_one_want (i := 34) (by kernel_rfl) rfl (by kernel_rfl) ?_; intro wL hbL K hK; have hsL := hbL.size; (try simp at hsL); go_wp2_with fail)
          replace HP := Lib.hid (HP.out.trans (hbL.mono HP.out.size))
          refine (HSa.out _ hm3 _ _ _ _ _ _ _ _ _ _ _ _ _ (yd_kept HFB.out hbL) (yd_kept HQc.out.yd HP.out)).mono ?_
          rintro e wM ⟨rfl, hbM⟩
          have hsM := hbM.size
          replace HP := Lib.hid (HP.out.trans (hbM.mono HP.out.size))
          clear HFB
          (go_wp2; refine ⟨xs_, ?_⟩)
          (refine anyB_quiet_at (by kernel_rfl) calm_panic xs_ 1 [35, 36, 37, 38, 39, 40] _ _ (by kernel_rfl) (by decide +kernel) ?_; simp only [pickB, List.filterMap_cons, List.filterMap_nil, List.getElem?_toArray, List.getElem?_cons_zero, List.getElem?_cons_succ]; (repeat (first | ((with_reducible refine quietL_plain rfl (fun K hK => ?_)); (apply Exists.intro; refine ⟨fun wx hx => ?_, ?_⟩; (· (have hcx := ifs_ex hx); simp [go_sem, *, ↓IntWalk.iteOmega] <;> (first | rfl | exact ⟨rfl, rfl⟩ | fail)); (simp only [Act.put, List.setIfInBounds_toArray, List.set_cons_zero, List.set_cons_succ]; refine hK _ ?_; clear hK K))) | ((with_reducible refine quietL_skip (by with_unfolding_all rfl) ?_); simp only [Act.put, List.setIfInBounds_toArray, List.set_cons_zero, List.set_cons_succ]) | ((with_reducible refine quietL_want (by with_unfolding_all rfl) (fun K hK => ?_)); (apply Exists.intro; refine ⟨fun wx hx => ?_, ?_⟩; (· (have hcx := ifs_ex hx); simp [go_sem, *, ↓IntWalk.iteOmega] <;> (first | rfl | exact ⟨rfl, rfl⟩ | fail)); (simp only [Act.put, List.setIfInBounds_toArray, List.set_cons_zero, List.set_cons_succ]; refine hK _ ?_; clear hK K))))); refine quietL_nil ?_)
          (refine anyB_one (i := 41) (by kernel_rfl) rfl rfl ?_; intro wN hbN K hK; have hsN := hbN.size; (try simp at hsN); go_wp2; refine ⟨xs_, ?_⟩)
          (refine anyB_end (by kernel_rfl) ?_; intro wO hbO; have hsO := hbO.size; (try simp at hsO); simp only [Calm])
          have hFin : Below w.heap.size w wO := HB5.out.trans ((HP.out.trans ((hbN.trans (hbO.mono hbN.size)).mono HP.out.size)).mono HB5.out.size)
          clear hbA hbB hbC hbD hbE hbF hbG hbH hbI hbJ hbL hbM hbN hbO
          go_wp2_with fail
          go_ret
          exact ⟨by first | rfl | (simp; done), hFin⟩
end Go.Proofs.YtphlojgmfkgeiaaGreatDoor
