/- The law PermitOrders. -/
import Derived.Test.YtphlojgmfkgeiaaGreatDoorZU
import Derived.Test.YtphlojgmfkgeiaaGreatDoorZS
import Derived.Test.YtphlojgmfkgeiaaGreatDoorGE
import Derived.Test.YtphlojgmfkgeiaaGreatDoorLC
import Derived.Test.YtphlojgmfkgeiaaGreatDoorLS
import Derived.Test.YtphlojgmfkgeiaaGreatDoorWL
namespace Go.Proofs.YtphlojgmfkgeiaaGreatDoor
open Go.RowKit Go.Sort Go.Shelf
set_option linter.unusedSimpArgs false
set_option linter.unusedVariables false
attribute [local go_sem] cell_if frozen_if grow_cell
theorem ord_no {y : Yd} {gk gs : ByteArray} (h : goalE y gk gs ≠ 0) (l : List ByteArray) : orderE y gk gs = goalE y gk gs ∧ or0 (goalE y gk gs) (ordCE y gk gs l) = goalE y gk gs := by
  constructor
  · unfold orderE; rw [or0_neg h]
  · rw [or0_neg h]
theorem ord_yes {y : Yd} {gk gs : ByteArray} (h : goalE y gk gs = 0) (l : List ByteArray) : orderE y gk gs = ordRE y gk gs ∧ or0 (goalE y gk gs) (ordCE y gk gs l) = ordCE y gk gs l := by
  constructor
  · unfold orderE ordRE; rw [or0_pos h]
  · rw [or0_pos h]
theorem orderL_len (y : Yd) (gk gs : ByteArray) : (orderL y gk gs).length ≤ (reachL y).length := by
  unfold orderL
  cases h : (searchL y (holdsF y gk gs)).2 with
  | none => simp
  | some p =>
    have := way_short h
    simp only [List.length_map]
    omega
set_option maxRecDepth 1000000 in
set_option maxHeartbeats 20000000 in
theorem orders_any (A0 A1 A2 : Option Addr) (n0 n1 n2 c0 c1 c2 : Nat) (y : Yd) (gk gs : ByteArray) (A : Option Addr) (n c : Nat) (l : List ByteArray) (w : World) (hY : YdAt w w.heap.size A0 A1 A2 n0 n1 n2 y) (h0 : n0 ≤ maxLen) (h1 : n1 ≤ maxLen) (h2 : n2 ≤ maxLen) (hW : Wide y) (hgs : gs.size ≤ maxLen) (hr : Reads w w.heap.size 1 A n (l.map .string)) (hn : n ≤ maxLen) (hT : Tabs w) :
    Calls Tryz.prog 7 #[.agg #[.slice A0 n0 c0, .slice A1 n1 c1, .slice A2 n2 c2], .agg #[.string gk, .string gs], .slice A n c] w fun e w' => e = .returned (.bool true) ∧ Below w.heap.size w w' := by
  have HY := Lib.hid hY
  have HT := Lib.hid (fun W (hW : Below w.heap.size w W) => hT.kept hW)
  have HAw := Lib.hid (fun W (hW : Below w.heap.size w W) => awake_any W (hT.kept hW))
  have HSh := Lib.hid (fun W (hW : Below w.heap.size w W) => Short_any w.heap.size A0 A1 A2 n0 n1 n2 c0 c1 c2 y W (hY.below hW) hW.size h0 h1 h2)
  have HSm := Lib.hid (fun W => Small_any A0 A1 A2 n0 n1 n2 c0 c1 c2 y W (sec_at hY.hs).1 (sw_at hY.hw).1)
  have HSg := Lib.hid (fun W => ShortGoal_any gk gs W)
  have hl0 := (sec_at hY.hs).1
  have hl1 := (sw_at hY.hw).1
  have hl2 := (pm_at hY.hp).1
  have HL0 := Lib.hid hl0
  have HL1 := Lib.hid hl1
  have HL2 := Lib.hid hl2
  have HF := Lib.hid (fun h => hW.fits (y := y) h)
  have HR := Lib.hid hr
  have hll : l.length = n := by simpa using hr.1
  clear hY hT h0 h1 h2 hW hl0 hl1 hl2 hr
  cases hS : shortY y with
  | false =>
    rw [hS] at HSh
    clear hS
    go_enter Tryz.func7, Tryz.ntmps7
    go_wp2_with fail
    refine (HAw.out _ bl_).mono ?_
    (rintro e w1 ⟨rfl, hb1⟩; have hs1 := hb1.size; (try simp at hs1))
    have HB1 := Lib.hid (bl_ : Below w.heap.size w w1)
    have BY := Lib.hid (bk_ : Blk w1 w.heap.size 26 #[.slice A0 n0 c0, .slice A1 n1 c1, .slice A2 n2 c2])
    have BG := Lib.hid (bk_ : Blk w1 (w.heap.size + 1) 28 #[.string gk, .string gs])
    have cY := BY.out.cell
    have lY := BY.out.lt
    have cG := BG.out.cell
    have lG := BG.out.lt
    clear hb1
    go_wp2_with fail
    refine (HSh.out _ HB1.out).mono ?_
    (rintro e w2 ⟨rfl, hb2⟩; have hs2 := hb2.size; (try simp at hs2))
    have HB2 := Lib.hid (HB1.out.trans (hb2.mono HB1.out.size))
    have hs02 := HB2.out.size
    replace BY := Lib.hid (BY.out.kept hb2)
    replace cY := BY.out.cell
    replace lY := BY.out.lt
    (try replace BG := Lib.hid (BG.out.kept hb2))
    (try replace cG := BG.out.cell)
    (try replace lG := BG.out.lt)
    clear hb2
    go_wp2_with fail
    refine (HAw.out _ HB2.out).mono ?_
    rintro e wz ⟨rfl, hbz⟩
    go_wp2_with fail
    go_ret
    exact ⟨rfl, HB2.out.trans (hbz.mono HB2.out.size)⟩
  | true =>
    rw [hS] at HSh
    have hF := HF.out hS
    have f0 := hF.s9
    have f1 := hF.w9
    have f2 := hF.p9
    have g0 : n0 ≤ 9 := HL0.out ▸ f0
    have g1 : n1 ≤ 9 := HL1.out ▸ f1
    have g2 : n2 ≤ 9 := HL2.out ▸ f2
    have HFt := Lib.hid hF
    have HO := Lib.hid (fun W (hW : Below w.heap.size w W) => (own_any w.heap.size A0 A1 A2 n0 n1 n2 c0 c1 c2 y W (HY.out.below hW) hW.size (by omega) (by omega) (by omega)).mono fun _ _ h => h.sh)
    have HCk := Lib.hid (fun W (hW : Below w.heap.size w W) => rCheckYard_any w.heap.size A0 A1 A2 n0 n1 n2 c0 c1 c2 y W (HY.out.below hW) hW.size hF)
    have HBa := Lib.hid (fun W D0 D1 D2 d0 d1 d2 (hy : YdAt W W.heap.size D0 D1 D2 y.s.length y.w.length y.p.length y) (hW : Below w.heap.size w W) => Order_any W.heap.size D0 D1 D2 y.s.length y.w.length y.p.length d0 d1 d2 y W hy (Nat.le_refl _) (HT.out W hW) hF gk gs hgs)
    have HCB := Lib.hid (fun W D0 D1 D2 d0 d1 d2 A' c' (hy : YdAt W W.heap.size D0 D1 D2 y.s.length y.w.length y.p.length y) (hr' : Reads W W.heap.size 1 A' n (l.map .string)) (hW : Below w.heap.size w W) (hn5 : n ≤ 100000) => CheckOrder_any W.heap.size D0 D1 D2 y.s.length y.w.length y.p.length d0 d1 d2 y W hy (Nat.le_refl _) (HT.out W hW) hF gk gs hgs A' n c' l hr' hn5)
    have HCG := Lib.hid (fun W (hW : Below w.heap.size w W) => rCheckGoal_any w.heap.size A0 A1 A2 n0 n1 n2 c0 c1 c2 y W (HY.out.below hW) hW.size g0 gk gs)
    change Hid (∀ W, Below w.heap.size w W → Calls _ _ _ W fun e w' => e = .returned (.int .i64 (goal2 y gk gs)) ∧ _) at HCG
    clear hS hF HF
    cases hq : smallY y with
    | false =>
      rw [hq] at HSm
      clear hq
      cases he : (yardE y == 0) with
      | true =>
        have hee : yardE y = 0 := by simpa using he
        rw [hee] at HCk
        clear he hee
        go_enter Tryz.func7, Tryz.ntmps7
        go_wp2_with fail
        refine (HAw.out _ bl_).mono ?_
        (rintro e w1 ⟨rfl, hb1⟩; have hs1 := hb1.size; (try simp at hs1))
        have HB1 := Lib.hid (bl_ : Below w.heap.size w w1)
        have BY := Lib.hid (bk_ : Blk w1 w.heap.size 26 #[.slice A0 n0 c0, .slice A1 n1 c1, .slice A2 n2 c2])
        have BG := Lib.hid (bk_ : Blk w1 (w.heap.size + 1) 28 #[.string gk, .string gs])
        have cY := BY.out.cell
        have lY := BY.out.lt
        have cG := BG.out.cell
        have lG := BG.out.lt
        clear hb1
        go_wp2_with fail
        refine (HSh.out _ HB1.out).mono ?_
        (rintro e w2 ⟨rfl, hb2⟩; have hs2 := hb2.size; (try simp at hs2))
        have HB2 := Lib.hid (HB1.out.trans (hb2.mono HB1.out.size))
        have hs02 := HB2.out.size
        replace BY := Lib.hid (BY.out.kept hb2)
        replace cY := BY.out.cell
        replace lY := BY.out.lt
        (try replace BG := Lib.hid (BG.out.kept hb2))
        (try replace cG := BG.out.cell)
        (try replace lG := BG.out.lt)
        clear hb2
        go_wp2_with fail
        refine (HSm.out _).mono ?_
        (rintro e w3 ⟨rfl, hb3⟩; have hs3 := hb3.size; (try simp at hs3))
        have HB3 := Lib.hid (HB2.out.trans (hb3.mono HB2.out.size))
        have hs03 := HB3.out.size
        replace BY := Lib.hid (BY.out.kept hb3)
        replace cY := BY.out.cell
        replace lY := BY.out.lt
        (try replace BG := Lib.hid (BG.out.kept hb3))
        (try replace cG := BG.out.cell)
        (try replace lG := BG.out.lt)
        clear hb3
        go_wp2_with fail
        refine (HCk.out _ HB3.out).mono ?_
        (rintro e w4 ⟨rfl, hb4⟩; have hs4 := hb4.size; (try simp at hs4))
        have HB4 := Lib.hid (HB3.out.trans (hb4.mono HB3.out.size))
        have hs04 := HB4.out.size
        replace BY := Lib.hid (BY.out.kept hb4)
        replace cY := BY.out.cell
        replace lY := BY.out.lt
        (try replace BG := Lib.hid (BG.out.kept hb4))
        (try replace cG := BG.out.cell)
        (try replace lG := BG.out.lt)
        clear hb4
        go_wp2_with fail
        refine (HAw.out _ HB4.out).mono ?_
        rintro e wz ⟨rfl, hbz⟩
        go_wp2_with fail
        go_ret
        exact ⟨rfl, HB4.out.trans (hbz.mono HB4.out.size)⟩
      | false =>
        have hee : yardE y ≠ 0 := by simpa using he
        have hge : goalE y gk gs = yardE y := by rw [goalE_or, or0_neg hee]
        obtain ⟨e1, e2⟩ := ord_no (y := y) (gk := gk) (gs := gs) (by rw [hge]; exact hee) l
        simp only [e2] at HCB
        simp only [e1, hge, resW_no hee] at HBa HCB
        generalize yardE y = ee at *
        have HBa3 := HBa
        clear HBa e1 e2 hge HCG HFt HT
        cases hg : shortG gk gs with
        | false =>
          rw [hg] at HSg
          go_enter Tryz.func7, Tryz.ntmps7
          go_wp2_with fail
          refine (HAw.out _ bl_).mono ?_
          (rintro e w1 ⟨rfl, hb1⟩; have hs1 := hb1.size; (try simp at hs1))
          have HB1 := Lib.hid (bl_ : Below w.heap.size w w1)
          have BY := Lib.hid (bk_ : Blk w1 w.heap.size 26 #[.slice A0 n0 c0, .slice A1 n1 c1, .slice A2 n2 c2])
          have BG := Lib.hid (bk_ : Blk w1 (w.heap.size + 1) 28 #[.string gk, .string gs])
          have cY := BY.out.cell
          have lY := BY.out.lt
          have cG := BG.out.cell
          have lG := BG.out.lt
          clear hb1
          go_wp2_with fail
          refine (HSh.out _ HB1.out).mono ?_
          (rintro e w2 ⟨rfl, hb2⟩; have hs2 := hb2.size; (try simp at hs2))
          have HB2 := Lib.hid (HB1.out.trans (hb2.mono HB1.out.size))
          have hs02 := HB2.out.size
          replace BY := Lib.hid (BY.out.kept hb2)
          replace cY := BY.out.cell
          replace lY := BY.out.lt
          (try replace BG := Lib.hid (BG.out.kept hb2))
          (try replace cG := BG.out.cell)
          (try replace lG := BG.out.lt)
          clear hb2
          go_wp2_with fail
          refine (HSm.out _).mono ?_
          (rintro e w3 ⟨rfl, hb3⟩; have hs3 := hb3.size; (try simp at hs3))
          have HB3 := Lib.hid (HB2.out.trans (hb3.mono HB2.out.size))
          have hs03 := HB3.out.size
          replace BY := Lib.hid (BY.out.kept hb3)
          replace cY := BY.out.cell
          replace lY := BY.out.lt
          (try replace BG := Lib.hid (BG.out.kept hb3))
          (try replace cG := BG.out.cell)
          (try replace lG := BG.out.lt)
          clear hb3
          go_wp2_with fail
          refine (HCk.out _ HB3.out).mono ?_
          (rintro e w4 ⟨rfl, hb4⟩; have hs4 := hb4.size; (try simp at hs4))
          have HB4 := Lib.hid (HB3.out.trans (hb4.mono HB3.out.size))
          have hs04 := HB4.out.size
          replace BY := Lib.hid (BY.out.kept hb4)
          replace cY := BY.out.cell
          replace lY := BY.out.lt
          (try replace BG := Lib.hid (BG.out.kept hb4))
          (try replace cG := BG.out.cell)
          (try replace lG := BG.out.lt)
          clear hb4
          go_wp2_with fail
          refine (HSg.out _).mono ?_
          (rintro e w5 ⟨rfl, hb5⟩; have hs5 := hb5.size; (try simp at hs5))
          have HB5 := Lib.hid (HB4.out.trans (hb5.mono HB4.out.size))
          have hs05 := HB5.out.size
          replace BY := Lib.hid (BY.out.kept hb5)
          replace cY := BY.out.cell
          replace lY := BY.out.lt
          (try replace BG := Lib.hid (BG.out.kept hb5))
          (try replace cG := BG.out.cell)
          (try replace lG := BG.out.lt)
          clear hb5
          go_wp2_with fail
          refine (HAw.out _ HB5.out).mono ?_
          rintro e wz ⟨rfl, hbz⟩
          go_wp2_with fail
          go_ret
          exact ⟨rfl, HB5.out.trans (hbz.mono HB5.out.size)⟩
        | true =>
          rw [hg] at HSg
          rcases (show (n : Int) ≤ 12 ∨ n = 257 ∨ (12 < (n : Int) ∧ (n : Int) ≠ 257) from by omega) with hn1 | rfl | ⟨hn1, hn2⟩
          case inr.inr =>
            go_enter Tryz.func7, Tryz.ntmps7
            go_wp2_with fail
            refine (HAw.out _ bl_).mono ?_
            (rintro e w1 ⟨rfl, hb1⟩; have hs1 := hb1.size; (try simp at hs1))
            have HB1 := Lib.hid (bl_ : Below w.heap.size w w1)
            have BY := Lib.hid (bk_ : Blk w1 w.heap.size 26 #[.slice A0 n0 c0, .slice A1 n1 c1, .slice A2 n2 c2])
            have BG := Lib.hid (bk_ : Blk w1 (w.heap.size + 1) 28 #[.string gk, .string gs])
            have cY := BY.out.cell
            have lY := BY.out.lt
            have cG := BG.out.cell
            have lG := BG.out.lt
            clear hb1
            go_wp2_with fail
            refine (HSh.out _ HB1.out).mono ?_
            (rintro e w2 ⟨rfl, hb2⟩; have hs2 := hb2.size; (try simp at hs2))
            have HB2 := Lib.hid (HB1.out.trans (hb2.mono HB1.out.size))
            have hs02 := HB2.out.size
            replace BY := Lib.hid (BY.out.kept hb2)
            replace cY := BY.out.cell
            replace lY := BY.out.lt
            (try replace BG := Lib.hid (BG.out.kept hb2))
            (try replace cG := BG.out.cell)
            (try replace lG := BG.out.lt)
            clear hb2
            go_wp2_with fail
            refine (HSm.out _).mono ?_
            (rintro e w3 ⟨rfl, hb3⟩; have hs3 := hb3.size; (try simp at hs3))
            have HB3 := Lib.hid (HB2.out.trans (hb3.mono HB2.out.size))
            have hs03 := HB3.out.size
            replace BY := Lib.hid (BY.out.kept hb3)
            replace cY := BY.out.cell
            replace lY := BY.out.lt
            (try replace BG := Lib.hid (BG.out.kept hb3))
            (try replace cG := BG.out.cell)
            (try replace lG := BG.out.lt)
            clear hb3
            go_wp2_with fail
            refine (HCk.out _ HB3.out).mono ?_
            (rintro e w4 ⟨rfl, hb4⟩; have hs4 := hb4.size; (try simp at hs4))
            have HB4 := Lib.hid (HB3.out.trans (hb4.mono HB3.out.size))
            have hs04 := HB4.out.size
            replace BY := Lib.hid (BY.out.kept hb4)
            replace cY := BY.out.cell
            replace lY := BY.out.lt
            (try replace BG := Lib.hid (BG.out.kept hb4))
            (try replace cG := BG.out.cell)
            (try replace lG := BG.out.lt)
            clear hb4
            go_wp2_with fail
            refine (HSg.out _).mono ?_
            (rintro e w5 ⟨rfl, hb5⟩; have hs5 := hb5.size; (try simp at hs5))
            have HB5 := Lib.hid (HB4.out.trans (hb5.mono HB4.out.size))
            have hs05 := HB5.out.size
            replace BY := Lib.hid (BY.out.kept hb5)
            replace cY := BY.out.cell
            replace lY := BY.out.lt
            (try replace BG := Lib.hid (BG.out.kept hb5))
            (try replace cG := BG.out.cell)
            (try replace lG := BG.out.lt)
            clear hb5
            go_wp2_with fail
            refine (HAw.out _ HB5.out).mono ?_
            rintro e wz ⟨rfl, hbz⟩
            go_wp2_with fail
            go_ret
            exact ⟨rfl, HB5.out.trans (hbz.mono HB5.out.size)⟩
          all_goals
            have HIt := Lib.hid (fun W (hW : Below w.heap.size w W) => words_any w.heap.size A _ c l W (HR.out.below hW) hW.size (by omega))
            go_enter Tryz.func7, Tryz.ntmps7
            go_wp2_with fail
            refine (HAw.out _ bl_).mono ?_
            (rintro e w1 ⟨rfl, hb1⟩; have hs1 := hb1.size; (try simp at hs1))
            have HB1 := Lib.hid (bl_ : Below w.heap.size w w1)
            have BY := Lib.hid (bk_ : Blk w1 w.heap.size 26 #[.slice A0 n0 c0, .slice A1 n1 c1, .slice A2 n2 c2])
            have BG := Lib.hid (bk_ : Blk w1 (w.heap.size + 1) 28 #[.string gk, .string gs])
            have cY := BY.out.cell
            have lY := BY.out.lt
            have cG := BG.out.cell
            have lG := BG.out.lt
            clear hb1
            go_wp2_with fail
            refine (HSh.out _ HB1.out).mono ?_
            (rintro e w2 ⟨rfl, hb2⟩; have hs2 := hb2.size; (try simp at hs2))
            have HB2 := Lib.hid (HB1.out.trans (hb2.mono HB1.out.size))
            have hs02 := HB2.out.size
            replace BY := Lib.hid (BY.out.kept hb2)
            replace cY := BY.out.cell
            replace lY := BY.out.lt
            (try replace BG := Lib.hid (BG.out.kept hb2))
            (try replace cG := BG.out.cell)
            (try replace lG := BG.out.lt)
            clear hb2
            go_wp2_with fail
            refine (HSm.out _).mono ?_
            (rintro e w3 ⟨rfl, hb3⟩; have hs3 := hb3.size; (try simp at hs3))
            have HB3 := Lib.hid (HB2.out.trans (hb3.mono HB2.out.size))
            have hs03 := HB3.out.size
            replace BY := Lib.hid (BY.out.kept hb3)
            replace cY := BY.out.cell
            replace lY := BY.out.lt
            (try replace BG := Lib.hid (BG.out.kept hb3))
            (try replace cG := BG.out.cell)
            (try replace lG := BG.out.lt)
            clear hb3
            go_wp2_with fail
            refine (HCk.out _ HB3.out).mono ?_
            (rintro e w4 ⟨rfl, hb4⟩; have hs4 := hb4.size; (try simp at hs4))
            have HB4 := Lib.hid (HB3.out.trans (hb4.mono HB3.out.size))
            have hs04 := HB4.out.size
            replace BY := Lib.hid (BY.out.kept hb4)
            replace cY := BY.out.cell
            replace lY := BY.out.lt
            (try replace BG := Lib.hid (BG.out.kept hb4))
            (try replace cG := BG.out.cell)
            (try replace lG := BG.out.lt)
            clear hb4
            go_wp2_with fail
            refine (HSg.out _).mono ?_
            (rintro e w5 ⟨rfl, hb5⟩; have hs5 := hb5.size; (try simp at hs5))
            have HB5 := Lib.hid (HB4.out.trans (hb5.mono HB4.out.size))
            have hs05 := HB5.out.size
            replace BY := Lib.hid (BY.out.kept hb5)
            replace cY := BY.out.cell
            replace lY := BY.out.lt
            (try replace BG := Lib.hid (BG.out.kept hb5))
            (try replace cG := BG.out.cell)
            (try replace lG := BG.out.lt)
            clear hb5
            go_wp2_with fail
            go_loopw [50] (fun i wx => ∃ k : Nat, k ≤ l.length ∧ i = .int .i64 (k : Int) ∧ Below w5.heap.size w5 wx) (fun i _ => l.length - (intOf i).toNat)
            case atStart => exact ⟨0, by omega, rfl, Below.refl _ _⟩
            obtain ⟨k, hk, rfl, hbr⟩ := hrel
            have hsr := hbr.size
            have HBl := Lib.hid hbr
            have HBr := Lib.hid (HB5.out.trans (hbr.mono HB5.out.size))
            have hs0r := HBr.out.size
            replace BY := Lib.hid (BY.out.kept hbr)
            replace cY := BY.out.cell
            replace lY := BY.out.lt
            (try replace BG := Lib.hid (BG.out.kept hbr))
            (try replace cG := BG.out.cell)
            (try replace lG := BG.out.lt)
            clear hbr
            by_cases hlt : k < l.length
            case pos =>
              obtain ⟨b, o, u, eA, hbb, hu, hcell⟩ := HR.out.at_ (k := k) (by omega)
              obtain rfl : u = .string l[k] := by
                rw [List.getElem?_map, List.getElem?_eq_getElem hlt] at hu
                exact (Option.some.inj hu).symm
              have zb := (HBr.out.cell (p := ⟨b, o + k, none⟩) hbb).trans hcell
              have hbw : b < wr.heap.size := by omega
              subst eA
              clear hu hcell
              generalize l[k] = x at *
              by_cases hx : (40 : Int) < (x.size : Int)
              · go_wp2_with fail
                go_ret
                exact ⟨rfl, HBr.out⟩
              · go_wp2_with fail
                refine ⟨⟨k + 1, by omega, by simp, HBl.out⟩, ?_⟩
                simp only [intOf]
                omega
            clear HBl
            go_wp2_with fail
            (refine wp_region_calm [] [0, 2] 7 (by kernel_rfl) rfl (by kernel_rfl) (by kernel_rfl) (by kernel_rfl) ?_; simp only [pickB, List.filterMap_cons, List.filterMap_nil, List.getElem?_toArray, List.getElem?_cons_zero, List.getElem?_cons_succ]; (repeat (first | ((with_reducible refine quietL_plain rfl (fun K hK => ?_)); (apply Exists.intro; refine ⟨fun wx hx => ?_, ?_⟩; (· (have hcx := ifs_ex hx); simp [go_sem, *, ↓IntWalk.iteOmega] <;> (first | rfl | exact ⟨rfl, rfl⟩ | fail)); (simp only [Act.put, List.setIfInBounds_toArray, List.set_cons_zero, List.set_cons_succ]; refine hK _ ?_; clear hK K))) | ((with_reducible refine quietL_skip (by with_unfolding_all rfl) ?_); simp only [Act.put, List.setIfInBounds_toArray, List.set_cons_zero, List.set_cons_succ]) | ((with_reducible refine quietL_want (by with_unfolding_all rfl) (fun K hK => ?_)); (apply Exists.intro; refine ⟨fun wx hx => ?_, ?_⟩; (· (have hcx := ifs_ex hx); simp [go_sem, *, ↓IntWalk.iteOmega] <;> (first | rfl | exact ⟨rfl, rfl⟩ | fail)); (simp only [Act.put, List.setIfInBounds_toArray, List.set_cons_zero, List.set_cons_succ]; refine hK _ ?_; clear hK K))))); refine quietL_nil ?_)
            (refine anyB_one (i := 1) (by kernel_rfl) rfl rfl ?_; intro wa hba K hK; have hsa := hba.size; (try simp at hsa); go_wp2_with fail)
            have HBa := Lib.hid (HBr.out.trans (hba.mono HBr.out.size))
            refine (HO.out _ HBa.out).mono ?_
            rintro e wb ⟨D0, D1, D2, d0, d1, d2, rfl, hyd, hbb⟩
            have hsb := hbb.size
            have HYb := Lib.hid hyd
            have HBb := Lib.hid (HBa.out.trans (hbb.mono HBa.out.size))
            clear hyd
            (go_wp2; refine ⟨xs_, ?_⟩)
            (refine anyB_one (i := 3) (by kernel_rfl) rfl rfl ?_; intro wc hbc K hK; have hsc := hbc.size; (try simp at hsc); go_wp2_with fail)
            have HBc := Lib.hid (HBb.out.trans (hbc.mono HBb.out.size))
            refine (HBa3.out _ _ _ _ _ _ _ ((HYb.out.below hbc).more hbc.size) HBc.out).mono ?_
            rintro e wd ⟨A3, cap3, rfl, hr3, hbd⟩
            have hsd := hbd.size
            have HR3 := Lib.hid hr3
            have HBd := Lib.hid (HBc.out.trans (hbd.mono HBc.out.size))
            clear hr3
            (go_wp2; refine ⟨xs_, ?_⟩)
            (refine anyB_quiet_at (by kernel_rfl) calm_panic xs_ 2 [4, 5, 6] _ _ (by kernel_rfl) (by decide +kernel) ?_; simp only [pickB, List.filterMap_cons, List.filterMap_nil, List.getElem?_toArray, List.getElem?_cons_zero, List.getElem?_cons_succ]; (repeat ((with_reducible refine quietL_plain rfl (fun K hK => ?_)); (apply Exists.intro; refine ⟨fun wx hx => ?_, ?_⟩; (· (have hcx := ifs_ex hx); simp [go_sem, *, ↓IntWalk.iteOmega] <;> (first | rfl | exact ⟨rfl, rfl⟩ | fail)); (simp only [Act.put, List.setIfInBounds_toArray, List.set_cons_zero, List.set_cons_succ]; refine hK _ ?_; clear hK K)))); refine quietL_nil ?_)
            (refine anyB_one (i := 7) (by kernel_rfl) rfl rfl ?_; intro we hbe K hK; have hse := hbe.size; (try simp at hse); go_wp2; refine ⟨xs_, ?_⟩)
            (refine anyB_one (i := 8) (by kernel_rfl) rfl rfl ?_; intro wf hbf K hK; have hsf := hbf.size; (try simp at hsf); go_wp2; refine ⟨xs_, ?_⟩)
            (refine anyB_end (by kernel_rfl) ?_; intro wg hbg; have hsg := hbg.size; (try simp at hsg); simp only [Calm])
            have hbdg : Below wd.heap.size wd wg := bl_
            have hbg3 : Below wr.heap.size wr wg := bl_
            have HBg := Lib.hid (HBr.out.trans (hbg3.mono HBr.out.size))
            have hs0g := HBg.out.size
            replace HR3 := Lib.hid ((HR3.out.below hbdg).more hbdg.size)
            replace BY := Lib.hid (BY.out.kept hbg3)
            replace BG := Lib.hid (BG.out.kept hbg3)
            replace cY := BY.out.cell
            replace lY := BY.out.lt
            replace cG := BG.out.cell
            replace lG := BG.out.lt
            clear hba hbb hbc hbd hbe hbf hbg hbdg hbg3 HBa HBb HBc HBd HYb
            go_wp2_with fail
            (refine wp_region_calm [] [0, 2, 3] 4 (by kernel_rfl) rfl (by kernel_rfl) (by kernel_rfl) (by kernel_rfl) ?_; simp only [pickB, List.filterMap_cons, List.filterMap_nil, List.getElem?_toArray, List.getElem?_cons_zero, List.getElem?_cons_succ]; (repeat (first | ((with_reducible refine quietL_plain rfl (fun K hK => ?_)); (apply Exists.intro; refine ⟨fun wx hx => ?_, ?_⟩; (· (have hcx := ifs_ex hx); simp [go_sem, *, ↓IntWalk.iteOmega] <;> (first | rfl | exact ⟨rfl, rfl⟩ | fail)); (simp only [Act.put, List.setIfInBounds_toArray, List.set_cons_zero, List.set_cons_succ]; refine hK _ ?_; clear hK K))) | ((with_reducible refine quietL_skip (by with_unfolding_all rfl) ?_); simp only [Act.put, List.setIfInBounds_toArray, List.set_cons_zero, List.set_cons_succ]) | ((with_reducible refine quietL_want (by with_unfolding_all rfl) (fun K hK => ?_)); (apply Exists.intro; refine ⟨fun wx hx => ?_, ?_⟩; (· (have hcx := ifs_ex hx); simp [go_sem, *, ↓IntWalk.iteOmega] <;> (first | rfl | exact ⟨rfl, rfl⟩ | fail)); (simp only [Act.put, List.setIfInBounds_toArray, List.set_cons_zero, List.set_cons_succ]; refine hK _ ?_; clear hK K))))); refine quietL_nil ?_)
            (refine anyB_one (i := 1) (by kernel_rfl) rfl rfl ?_; intro wh hbh K hK; have hsh := hbh.size; (try simp at hsh); go_wp2_with fail)
            have HBh := Lib.hid (HBg.out.trans (hbh.mono HBg.out.size))
            refine (HO.out _ HBh.out).mono ?_
            rintro e wi ⟨D0, D1, D2, d0, d1, d2, rfl, hyd, hbi⟩
            have hsi := hbi.size
            have HYi := Lib.hid hyd
            have HBi := Lib.hid (HBh.out.trans (hbi.mono HBh.out.size))
            clear hyd
            (go_wp2; refine ⟨xs_, ?_⟩)
            (refine anyB_one (i := 4) (by kernel_rfl) rfl rfl ?_; intro wj hbj K hK; have hsj := hbj.size; (try simp at hsj); go_wp2_with fail)
            have HBj := Lib.hid (HBi.out.trans (hbj.mono HBi.out.size))
            refine (HIt.out _ HBj.out).mono ?_
            rintro e wk ⟨A4, cap4, rfl, hr4, hbk⟩
            have hsk := hbk.size
            have HR4 := Lib.hid hr4
            have HBk := Lib.hid (HBj.out.trans (hbk.mono HBj.out.size))
            have HYk := Lib.hid ((HYi.out.below (hbj.trans (hbk.mono hbj.size))).more (hbj.trans (hbk.mono hbj.size)).size)
            clear hr4
            (go_wp2; refine ⟨xs_, ?_⟩)
            (refine anyB_one (i := 5) (by kernel_rfl) rfl rfl ?_; intro wl hbl K hK; have hsl := hbl.size; (try simp at hsl); go_wp2_with fail)
            have HBl := Lib.hid (HBk.out.trans (hbl.mono HBk.out.size))
            refine (HCB.out _ _ _ _ _ _ _ _ _ ((HYk.out.below hbl).more hbl.size) ((HR4.out.below hbl).more hbl.size) HBl.out (by omega)).mono ?_
            (rintro e wm ⟨rfl, hbm⟩; have hsm := hbm.size; (try simp at hsm))
            (go_wp2; refine ⟨xs_, ?_⟩)
            (refine anyB_one (i := 6) (by kernel_rfl) rfl rfl ?_; intro wn hbn K hK; have hsn := hbn.size; (try simp at hsn); go_wp2; refine ⟨xs_, ?_⟩)
            (refine anyB_end (by kernel_rfl) ?_; intro wo hbo; have hso := hbo.size; (try simp at hso); simp only [Calm])
            have hbo3 : Below wg.heap.size wg wo := bl_
            have HBo := Lib.hid (HBg.out.trans (hbo3.mono HBg.out.size))
            have hs0o := HBo.out.size
            replace HR3 := Lib.hid ((HR3.out.below hbo3).more hbo3.size)
            replace BY := Lib.hid (BY.out.kept hbo3)
            replace BG := Lib.hid (BG.out.kept hbo3)
            replace cY := BY.out.cell
            replace lY := BY.out.lt
            replace cG := BG.out.cell
            replace lG := BG.out.lt
            clear hbh hbi hbj hbk hbl hbm hbn hbo hbo3 HBh HBi HBj HBk HBl HYi HYk HR4
            go_wp2_with fail
            refine (HCk.out _ HBo.out).mono ?_
            (rintro e wp ⟨rfl, hbp⟩; have hsp := hbp.size; (try simp at hsp))
            replace HR3 := Lib.hid (rd_kept HR3.out hbp)
            have HBp := Lib.hid (HBo.out.trans (hbp.mono HBo.out.size))
            have hs0p := HBp.out.size
            replace BY := Lib.hid (BY.out.kept hbp)
            replace cY := BY.out.cell
            replace lY := BY.out.lt
            (try replace BG := Lib.hid (BG.out.kept hbp))
            (try replace cG := BG.out.cell)
            (try replace lG := BG.out.lt)
            clear hbp
            go_wp2_with fail
            refine (named_err _ _ _ _ _ _ _ hee rfl _).mono ?_
            rintro e wz ⟨rfl, hbz⟩
            go_wp2_with fail
            go_ret
            exact ⟨by first | rfl | (simp; done), HBp.out.trans (hbz.mono HBp.out.size)⟩
    | true =>
      rw [hq] at HSm
      clear hq
      cases hg : shortG gk gs with
      | false =>
        rw [hg] at HSg
        go_enter Tryz.func7, Tryz.ntmps7
        go_wp2_with fail
        refine (HAw.out _ bl_).mono ?_
        (rintro e w1 ⟨rfl, hb1⟩; have hs1 := hb1.size; (try simp at hs1))
        have HB1 := Lib.hid (bl_ : Below w.heap.size w w1)
        have BY := Lib.hid (bk_ : Blk w1 w.heap.size 26 #[.slice A0 n0 c0, .slice A1 n1 c1, .slice A2 n2 c2])
        have BG := Lib.hid (bk_ : Blk w1 (w.heap.size + 1) 28 #[.string gk, .string gs])
        have cY := BY.out.cell
        have lY := BY.out.lt
        have cG := BG.out.cell
        have lG := BG.out.lt
        clear hb1
        go_wp2_with fail
        refine (HSh.out _ HB1.out).mono ?_
        (rintro e w2 ⟨rfl, hb2⟩; have hs2 := hb2.size; (try simp at hs2))
        have HB2 := Lib.hid (HB1.out.trans (hb2.mono HB1.out.size))
        have hs02 := HB2.out.size
        replace BY := Lib.hid (BY.out.kept hb2)
        replace cY := BY.out.cell
        replace lY := BY.out.lt
        (try replace BG := Lib.hid (BG.out.kept hb2))
        (try replace cG := BG.out.cell)
        (try replace lG := BG.out.lt)
        clear hb2
        go_wp2_with fail
        refine (HSm.out _).mono ?_
        (rintro e w3 ⟨rfl, hb3⟩; have hs3 := hb3.size; (try simp at hs3))
        have HB3 := Lib.hid (HB2.out.trans (hb3.mono HB2.out.size))
        have hs03 := HB3.out.size
        replace BY := Lib.hid (BY.out.kept hb3)
        replace cY := BY.out.cell
        replace lY := BY.out.lt
        (try replace BG := Lib.hid (BG.out.kept hb3))
        (try replace cG := BG.out.cell)
        (try replace lG := BG.out.lt)
        clear hb3
        go_wp2_with fail
        refine (HSg.out _).mono ?_
        (rintro e w5 ⟨rfl, hb5⟩; have hs5 := hb5.size; (try simp at hs5))
        have HB5 := Lib.hid (HB3.out.trans (hb5.mono HB3.out.size))
        have hs05 := HB5.out.size
        replace BY := Lib.hid (BY.out.kept hb5)
        replace cY := BY.out.cell
        replace lY := BY.out.lt
        (try replace BG := Lib.hid (BG.out.kept hb5))
        (try replace cG := BG.out.cell)
        (try replace lG := BG.out.lt)
        clear hb5
        go_wp2_with fail
        refine (HAw.out _ HB5.out).mono ?_
        rintro e wz ⟨rfl, hbz⟩
        go_wp2_with fail
        go_ret
        exact ⟨rfl, HB5.out.trans (hbz.mono HB5.out.size)⟩
      | true =>
        rw [hg] at HSg
        rcases (show ((n : Int) ≤ 12 ∨ n = 257) ∨ (12 < (n : Int) ∧ (n : Int) ≠ 257) from by omega) with hnn | ⟨hn1, hn2⟩
        case inr =>
          go_enter Tryz.func7, Tryz.ntmps7
          go_wp2_with fail
          refine (HAw.out _ bl_).mono ?_
          (rintro e w1 ⟨rfl, hb1⟩; have hs1 := hb1.size; (try simp at hs1))
          have HB1 := Lib.hid (bl_ : Below w.heap.size w w1)
          have BY := Lib.hid (bk_ : Blk w1 w.heap.size 26 #[.slice A0 n0 c0, .slice A1 n1 c1, .slice A2 n2 c2])
          have BG := Lib.hid (bk_ : Blk w1 (w.heap.size + 1) 28 #[.string gk, .string gs])
          have cY := BY.out.cell
          have lY := BY.out.lt
          have cG := BG.out.cell
          have lG := BG.out.lt
          clear hb1
          go_wp2_with fail
          refine (HSh.out _ HB1.out).mono ?_
          (rintro e w2 ⟨rfl, hb2⟩; have hs2 := hb2.size; (try simp at hs2))
          have HB2 := Lib.hid (HB1.out.trans (hb2.mono HB1.out.size))
          have hs02 := HB2.out.size
          replace BY := Lib.hid (BY.out.kept hb2)
          replace cY := BY.out.cell
          replace lY := BY.out.lt
          (try replace BG := Lib.hid (BG.out.kept hb2))
          (try replace cG := BG.out.cell)
          (try replace lG := BG.out.lt)
          clear hb2
          go_wp2_with fail
          refine (HSm.out _).mono ?_
          (rintro e w3 ⟨rfl, hb3⟩; have hs3 := hb3.size; (try simp at hs3))
          have HB3 := Lib.hid (HB2.out.trans (hb3.mono HB2.out.size))
          have hs03 := HB3.out.size
          replace BY := Lib.hid (BY.out.kept hb3)
          replace cY := BY.out.cell
          replace lY := BY.out.lt
          (try replace BG := Lib.hid (BG.out.kept hb3))
          (try replace cG := BG.out.cell)
          (try replace lG := BG.out.lt)
          clear hb3
          go_wp2_with fail
          refine (HSg.out _).mono ?_
          (rintro e w5 ⟨rfl, hb5⟩; have hs5 := hb5.size; (try simp at hs5))
          have HB5 := Lib.hid (HB3.out.trans (hb5.mono HB3.out.size))
          have hs05 := HB5.out.size
          replace BY := Lib.hid (BY.out.kept hb5)
          replace cY := BY.out.cell
          replace lY := BY.out.lt
          (try replace BG := Lib.hid (BG.out.kept hb5))
          (try replace cG := BG.out.cell)
          (try replace lG := BG.out.lt)
          clear hb5
          go_wp2_with fail
          refine (HAw.out _ HB5.out).mono ?_
          rintro e wz ⟨rfl, hbz⟩
          go_wp2_with fail
          go_ret
          exact ⟨rfl, HB5.out.trans (hbz.mono HB5.out.size)⟩
        have HIt := Lib.hid (fun W (hW : Below w.heap.size w W) => words_any w.heap.size A n c l W (HR.out.below hW) hW.size (by omega))
        by_cases hee : yardE y = 0
        case neg =>
          have hge : goalE y gk gs = yardE y := by rw [goalE_or, or0_neg hee]
          obtain ⟨e1, e2⟩ := ord_no (y := y) (gk := gk) (gs := gs) (by rw [hge]; exact hee) l
          simp only [e2] at HCB
          simp only [e1, hge, resW_no hee] at HBa HCB
          generalize yardE y = ee at *
          have HBa3 := HBa
          clear HBa e1 e2 hge HCG HFt HT
          rcases hnn with hn1 | rfl
          all_goals
            go_enter Tryz.func7, Tryz.ntmps7
            go_wp2_with fail
            refine (HAw.out _ bl_).mono ?_
            (rintro e w1 ⟨rfl, hb1⟩; have hs1 := hb1.size; (try simp at hs1))
            have HB1 := Lib.hid (bl_ : Below w.heap.size w w1)
            have BY := Lib.hid (bk_ : Blk w1 w.heap.size 26 #[.slice A0 n0 c0, .slice A1 n1 c1, .slice A2 n2 c2])
            have BG := Lib.hid (bk_ : Blk w1 (w.heap.size + 1) 28 #[.string gk, .string gs])
            have cY := BY.out.cell
            have lY := BY.out.lt
            have cG := BG.out.cell
            have lG := BG.out.lt
            clear hb1
            go_wp2_with fail
            refine (HSh.out _ HB1.out).mono ?_
            (rintro e w2 ⟨rfl, hb2⟩; have hs2 := hb2.size; (try simp at hs2))
            have HB2 := Lib.hid (HB1.out.trans (hb2.mono HB1.out.size))
            have hs02 := HB2.out.size
            replace BY := Lib.hid (BY.out.kept hb2)
            replace cY := BY.out.cell
            replace lY := BY.out.lt
            (try replace BG := Lib.hid (BG.out.kept hb2))
            (try replace cG := BG.out.cell)
            (try replace lG := BG.out.lt)
            clear hb2
            go_wp2_with fail
            refine (HSm.out _).mono ?_
            (rintro e w3 ⟨rfl, hb3⟩; have hs3 := hb3.size; (try simp at hs3))
            have HB3 := Lib.hid (HB2.out.trans (hb3.mono HB2.out.size))
            have hs03 := HB3.out.size
            replace BY := Lib.hid (BY.out.kept hb3)
            replace cY := BY.out.cell
            replace lY := BY.out.lt
            (try replace BG := Lib.hid (BG.out.kept hb3))
            (try replace cG := BG.out.cell)
            (try replace lG := BG.out.lt)
            clear hb3
            go_wp2_with fail
            refine (HSg.out _).mono ?_
            (rintro e w5 ⟨rfl, hb5⟩; have hs5 := hb5.size; (try simp at hs5))
            have HB5 := Lib.hid (HB3.out.trans (hb5.mono HB3.out.size))
            have hs05 := HB5.out.size
            replace BY := Lib.hid (BY.out.kept hb5)
            replace cY := BY.out.cell
            replace lY := BY.out.lt
            (try replace BG := Lib.hid (BG.out.kept hb5))
            (try replace cG := BG.out.cell)
            (try replace lG := BG.out.lt)
            clear hb5
            go_wp2_with fail
            go_loopw [50] (fun i wx => ∃ k : Nat, k ≤ l.length ∧ i = .int .i64 (k : Int) ∧ Below w5.heap.size w5 wx) (fun i _ => l.length - (intOf i).toNat)
            case atStart => exact ⟨0, by omega, rfl, Below.refl _ _⟩
            obtain ⟨k, hk, rfl, hbr⟩ := hrel
            have hsr := hbr.size
            have HBl := Lib.hid hbr
            have HBr := Lib.hid (HB5.out.trans (hbr.mono HB5.out.size))
            have hs0r := HBr.out.size
            replace BY := Lib.hid (BY.out.kept hbr)
            replace cY := BY.out.cell
            replace lY := BY.out.lt
            (try replace BG := Lib.hid (BG.out.kept hbr))
            (try replace cG := BG.out.cell)
            (try replace lG := BG.out.lt)
            clear hbr
            by_cases hlt : k < l.length
            case pos =>
              obtain ⟨b, o, u, eA, hbb, hu, hcell⟩ := HR.out.at_ (k := k) (by omega)
              obtain rfl : u = .string l[k] := by
                rw [List.getElem?_map, List.getElem?_eq_getElem hlt] at hu
                exact (Option.some.inj hu).symm
              have zb := (HBr.out.cell (p := ⟨b, o + k, none⟩) hbb).trans hcell
              have hbw : b < wr.heap.size := by omega
              subst eA
              clear hu hcell
              generalize l[k] = x at *
              by_cases hx : (40 : Int) < (x.size : Int)
              · go_wp2_with fail
                go_ret
                exact ⟨rfl, HBr.out⟩
              · go_wp2_with fail
                refine ⟨⟨k + 1, by omega, by simp, HBl.out⟩, ?_⟩
                simp only [intOf]
                omega
            clear HBl
            go_wp2_with fail
            (refine wp_region_calm [] [0, 2] 7 (by kernel_rfl) rfl (by kernel_rfl) (by kernel_rfl) (by kernel_rfl) ?_; simp only [pickB, List.filterMap_cons, List.filterMap_nil, List.getElem?_toArray, List.getElem?_cons_zero, List.getElem?_cons_succ]; (repeat (first | ((with_reducible refine quietL_plain rfl (fun K hK => ?_)); (apply Exists.intro; refine ⟨fun wx hx => ?_, ?_⟩; (· (have hcx := ifs_ex hx); simp [go_sem, *, ↓IntWalk.iteOmega] <;> (first | rfl | exact ⟨rfl, rfl⟩ | fail)); (simp only [Act.put, List.setIfInBounds_toArray, List.set_cons_zero, List.set_cons_succ]; refine hK _ ?_; clear hK K))) | ((with_reducible refine quietL_skip (by with_unfolding_all rfl) ?_); simp only [Act.put, List.setIfInBounds_toArray, List.set_cons_zero, List.set_cons_succ]) | ((with_reducible refine quietL_want (by with_unfolding_all rfl) (fun K hK => ?_)); (apply Exists.intro; refine ⟨fun wx hx => ?_, ?_⟩; (· (have hcx := ifs_ex hx); simp [go_sem, *, ↓IntWalk.iteOmega] <;> (first | rfl | exact ⟨rfl, rfl⟩ | fail)); (simp only [Act.put, List.setIfInBounds_toArray, List.set_cons_zero, List.set_cons_succ]; refine hK _ ?_; clear hK K))))); refine quietL_nil ?_)
            (refine anyB_one (i := 1) (by kernel_rfl) rfl rfl ?_; intro wa hba K hK; have hsa := hba.size; (try simp at hsa); go_wp2_with fail)
            have HBa := Lib.hid (HBr.out.trans (hba.mono HBr.out.size))
            refine (HO.out _ HBa.out).mono ?_
            rintro e wb ⟨D0, D1, D2, d0, d1, d2, rfl, hyd, hbb⟩
            have hsb := hbb.size
            have HYb := Lib.hid hyd
            have HBb := Lib.hid (HBa.out.trans (hbb.mono HBa.out.size))
            clear hyd
            (go_wp2; refine ⟨xs_, ?_⟩)
            (refine anyB_one (i := 3) (by kernel_rfl) rfl rfl ?_; intro wc hbc K hK; have hsc := hbc.size; (try simp at hsc); go_wp2_with fail)
            have HBc := Lib.hid (HBb.out.trans (hbc.mono HBb.out.size))
            refine (HBa3.out _ _ _ _ _ _ _ ((HYb.out.below hbc).more hbc.size) HBc.out).mono ?_
            rintro e wd ⟨A3, cap3, rfl, hr3, hbd⟩
            have hsd := hbd.size
            have HR3 := Lib.hid hr3
            have HBd := Lib.hid (HBc.out.trans (hbd.mono HBc.out.size))
            clear hr3
            (go_wp2; refine ⟨xs_, ?_⟩)
            (refine anyB_quiet_at (by kernel_rfl) calm_panic xs_ 2 [4, 5, 6] _ _ (by kernel_rfl) (by decide +kernel) ?_; simp only [pickB, List.filterMap_cons, List.filterMap_nil, List.getElem?_toArray, List.getElem?_cons_zero, List.getElem?_cons_succ]; (repeat ((with_reducible refine quietL_plain rfl (fun K hK => ?_)); (apply Exists.intro; refine ⟨fun wx hx => ?_, ?_⟩; (· (have hcx := ifs_ex hx); simp [go_sem, *, ↓IntWalk.iteOmega] <;> (first | rfl | exact ⟨rfl, rfl⟩ | fail)); (simp only [Act.put, List.setIfInBounds_toArray, List.set_cons_zero, List.set_cons_succ]; refine hK _ ?_; clear hK K)))); refine quietL_nil ?_)
            (refine anyB_one (i := 7) (by kernel_rfl) rfl rfl ?_; intro we hbe K hK; have hse := hbe.size; (try simp at hse); go_wp2; refine ⟨xs_, ?_⟩)
            (refine anyB_one (i := 8) (by kernel_rfl) rfl rfl ?_; intro wf hbf K hK; have hsf := hbf.size; (try simp at hsf); go_wp2; refine ⟨xs_, ?_⟩)
            (refine anyB_end (by kernel_rfl) ?_; intro wg hbg; have hsg := hbg.size; (try simp at hsg); simp only [Calm])
            have hbdg : Below wd.heap.size wd wg := bl_
            have hbg3 : Below wr.heap.size wr wg := bl_
            have HBg := Lib.hid (HBr.out.trans (hbg3.mono HBr.out.size))
            have hs0g := HBg.out.size
            replace HR3 := Lib.hid ((HR3.out.below hbdg).more hbdg.size)
            replace BY := Lib.hid (BY.out.kept hbg3)
            replace BG := Lib.hid (BG.out.kept hbg3)
            replace cY := BY.out.cell
            replace lY := BY.out.lt
            replace cG := BG.out.cell
            replace lG := BG.out.lt
            clear hba hbb hbc hbd hbe hbf hbg hbdg hbg3 HBa HBb HBc HBd HYb
            go_wp2_with fail
            (refine wp_region_calm [] [0, 2, 3] 4 (by kernel_rfl) rfl (by kernel_rfl) (by kernel_rfl) (by kernel_rfl) ?_; simp only [pickB, List.filterMap_cons, List.filterMap_nil, List.getElem?_toArray, List.getElem?_cons_zero, List.getElem?_cons_succ]; (repeat (first | ((with_reducible refine quietL_plain rfl (fun K hK => ?_)); (apply Exists.intro; refine ⟨fun wx hx => ?_, ?_⟩; (· (have hcx := ifs_ex hx); simp [go_sem, *, ↓IntWalk.iteOmega] <;> (first | rfl | exact ⟨rfl, rfl⟩ | fail)); (simp only [Act.put, List.setIfInBounds_toArray, List.set_cons_zero, List.set_cons_succ]; refine hK _ ?_; clear hK K))) | ((with_reducible refine quietL_skip (by with_unfolding_all rfl) ?_); simp only [Act.put, List.setIfInBounds_toArray, List.set_cons_zero, List.set_cons_succ]) | ((with_reducible refine quietL_want (by with_unfolding_all rfl) (fun K hK => ?_)); (apply Exists.intro; refine ⟨fun wx hx => ?_, ?_⟩; (· (have hcx := ifs_ex hx); simp [go_sem, *, ↓IntWalk.iteOmega] <;> (first | rfl | exact ⟨rfl, rfl⟩ | fail)); (simp only [Act.put, List.setIfInBounds_toArray, List.set_cons_zero, List.set_cons_succ]; refine hK _ ?_; clear hK K))))); refine quietL_nil ?_)
            (refine anyB_one (i := 1) (by kernel_rfl) rfl rfl ?_; intro wh hbh K hK; have hsh := hbh.size; (try simp at hsh); go_wp2_with fail)
            have HBh := Lib.hid (HBg.out.trans (hbh.mono HBg.out.size))
            refine (HO.out _ HBh.out).mono ?_
            rintro e wi ⟨D0, D1, D2, d0, d1, d2, rfl, hyd, hbi⟩
            have hsi := hbi.size
            have HYi := Lib.hid hyd
            have HBi := Lib.hid (HBh.out.trans (hbi.mono HBh.out.size))
            clear hyd
            (go_wp2; refine ⟨xs_, ?_⟩)
            (refine anyB_one (i := 4) (by kernel_rfl) rfl rfl ?_; intro wj hbj K hK; have hsj := hbj.size; (try simp at hsj); go_wp2_with fail)
            have HBj := Lib.hid (HBi.out.trans (hbj.mono HBi.out.size))
            refine (HIt.out _ HBj.out).mono ?_
            rintro e wk ⟨A4, cap4, rfl, hr4, hbk⟩
            have hsk := hbk.size
            have HR4 := Lib.hid hr4
            have HBk := Lib.hid (HBj.out.trans (hbk.mono HBj.out.size))
            have HYk := Lib.hid ((HYi.out.below (hbj.trans (hbk.mono hbj.size))).more (hbj.trans (hbk.mono hbj.size)).size)
            clear hr4
            (go_wp2; refine ⟨xs_, ?_⟩)
            (refine anyB_one (i := 5) (by kernel_rfl) rfl rfl ?_; intro wl hbl K hK; have hsl := hbl.size; (try simp at hsl); go_wp2_with fail)
            have HBl := Lib.hid (HBk.out.trans (hbl.mono HBk.out.size))
            refine (HCB.out _ _ _ _ _ _ _ _ _ ((HYk.out.below hbl).more hbl.size) ((HR4.out.below hbl).more hbl.size) HBl.out (by omega)).mono ?_
            (rintro e wm ⟨rfl, hbm⟩; have hsm := hbm.size; (try simp at hsm))
            (go_wp2; refine ⟨xs_, ?_⟩)
            (refine anyB_one (i := 6) (by kernel_rfl) rfl rfl ?_; intro wn hbn K hK; have hsn := hbn.size; (try simp at hsn); go_wp2; refine ⟨xs_, ?_⟩)
            (refine anyB_end (by kernel_rfl) ?_; intro wo hbo; have hso := hbo.size; (try simp at hso); simp only [Calm])
            have hbo3 : Below wg.heap.size wg wo := bl_
            have HBo := Lib.hid (HBg.out.trans (hbo3.mono HBg.out.size))
            have hs0o := HBo.out.size
            replace HR3 := Lib.hid ((HR3.out.below hbo3).more hbo3.size)
            replace BY := Lib.hid (BY.out.kept hbo3)
            replace BG := Lib.hid (BG.out.kept hbo3)
            replace cY := BY.out.cell
            replace lY := BY.out.lt
            replace cG := BG.out.cell
            replace lG := BG.out.lt
            clear hbh hbi hbj hbk hbl hbm hbn hbo hbo3 HBh HBi HBj HBk HBl HYi HYk HR4
            go_wp2_with fail
            refine (HCk.out _ HBo.out).mono ?_
            (rintro e wp ⟨rfl, hbp⟩; have hsp := hbp.size; (try simp at hsp))
            replace HR3 := Lib.hid (rd_kept HR3.out hbp)
            have HBp := Lib.hid (HBo.out.trans (hbp.mono HBo.out.size))
            have hs0p := HBp.out.size
            replace BY := Lib.hid (BY.out.kept hbp)
            replace cY := BY.out.cell
            replace lY := BY.out.lt
            (try replace BG := Lib.hid (BG.out.kept hbp))
            (try replace cG := BG.out.cell)
            (try replace lG := BG.out.lt)
            clear hbp
            go_wp2_with fail
            refine (named_err _ _ _ _ _ _ _ hee rfl _).mono ?_
            rintro e wz ⟨rfl, hbz⟩
            go_wp2_with fail
            go_ret
            exact ⟨by first | rfl | (simp; done), HBp.out.trans (hbz.mono HBp.out.size)⟩
        have hge : goalE y gk gs = goal2 y gk gs := by rw [goalE_or, or0_pos hee]
        rw [hee] at HCk
        by_cases hg2 : goal2 y gk gs = 0
        case neg =>
          obtain ⟨e1, e2⟩ := ord_no (y := y) (gk := gk) (gs := gs) (by rw [hge]; exact hg2) l
          simp only [e2] at HCB
          simp only [e1, hge, resW_no hg2] at HBa HCB
          generalize goal2 y gk gs = ee at *
          have HBa3 := HBa
          clear HBa e1 e2 hge HFt HT hee
          rcases hnn with hn1 | rfl
          all_goals
            go_enter Tryz.func7, Tryz.ntmps7
            go_wp2_with fail
            refine (HAw.out _ bl_).mono ?_
            (rintro e w1 ⟨rfl, hb1⟩; have hs1 := hb1.size; (try simp at hs1))
            have HB1 := Lib.hid (bl_ : Below w.heap.size w w1)
            have BY := Lib.hid (bk_ : Blk w1 w.heap.size 26 #[.slice A0 n0 c0, .slice A1 n1 c1, .slice A2 n2 c2])
            have BG := Lib.hid (bk_ : Blk w1 (w.heap.size + 1) 28 #[.string gk, .string gs])
            have cY := BY.out.cell
            have lY := BY.out.lt
            have cG := BG.out.cell
            have lG := BG.out.lt
            clear hb1
            go_wp2_with fail
            refine (HSh.out _ HB1.out).mono ?_
            (rintro e w2 ⟨rfl, hb2⟩; have hs2 := hb2.size; (try simp at hs2))
            have HB2 := Lib.hid (HB1.out.trans (hb2.mono HB1.out.size))
            have hs02 := HB2.out.size
            replace BY := Lib.hid (BY.out.kept hb2)
            replace cY := BY.out.cell
            replace lY := BY.out.lt
            (try replace BG := Lib.hid (BG.out.kept hb2))
            (try replace cG := BG.out.cell)
            (try replace lG := BG.out.lt)
            clear hb2
            go_wp2_with fail
            refine (HSm.out _).mono ?_
            (rintro e w3 ⟨rfl, hb3⟩; have hs3 := hb3.size; (try simp at hs3))
            have HB3 := Lib.hid (HB2.out.trans (hb3.mono HB2.out.size))
            have hs03 := HB3.out.size
            replace BY := Lib.hid (BY.out.kept hb3)
            replace cY := BY.out.cell
            replace lY := BY.out.lt
            (try replace BG := Lib.hid (BG.out.kept hb3))
            (try replace cG := BG.out.cell)
            (try replace lG := BG.out.lt)
            clear hb3
            go_wp2_with fail
            refine (HSg.out _).mono ?_
            (rintro e w5 ⟨rfl, hb5⟩; have hs5 := hb5.size; (try simp at hs5))
            have HB5 := Lib.hid (HB3.out.trans (hb5.mono HB3.out.size))
            have hs05 := HB5.out.size
            replace BY := Lib.hid (BY.out.kept hb5)
            replace cY := BY.out.cell
            replace lY := BY.out.lt
            (try replace BG := Lib.hid (BG.out.kept hb5))
            (try replace cG := BG.out.cell)
            (try replace lG := BG.out.lt)
            clear hb5
            go_wp2_with fail
            go_loopw [50] (fun i wx => ∃ k : Nat, k ≤ l.length ∧ i = .int .i64 (k : Int) ∧ Below w5.heap.size w5 wx) (fun i _ => l.length - (intOf i).toNat)
            case atStart => exact ⟨0, by omega, rfl, Below.refl _ _⟩
            obtain ⟨k, hk, rfl, hbr⟩ := hrel
            have hsr := hbr.size
            have HBl := Lib.hid hbr
            have HBr := Lib.hid (HB5.out.trans (hbr.mono HB5.out.size))
            have hs0r := HBr.out.size
            replace BY := Lib.hid (BY.out.kept hbr)
            replace cY := BY.out.cell
            replace lY := BY.out.lt
            (try replace BG := Lib.hid (BG.out.kept hbr))
            (try replace cG := BG.out.cell)
            (try replace lG := BG.out.lt)
            clear hbr
            by_cases hlt : k < l.length
            case pos =>
              obtain ⟨b, o, u, eA, hbb, hu, hcell⟩ := HR.out.at_ (k := k) (by omega)
              obtain rfl : u = .string l[k] := by
                rw [List.getElem?_map, List.getElem?_eq_getElem hlt] at hu
                exact (Option.some.inj hu).symm
              have zb := (HBr.out.cell (p := ⟨b, o + k, none⟩) hbb).trans hcell
              have hbw : b < wr.heap.size := by omega
              subst eA
              clear hu hcell
              generalize l[k] = x at *
              by_cases hx : (40 : Int) < (x.size : Int)
              · go_wp2_with fail
                go_ret
                exact ⟨rfl, HBr.out⟩
              · go_wp2_with fail
                refine ⟨⟨k + 1, by omega, by simp, HBl.out⟩, ?_⟩
                simp only [intOf]
                omega
            clear HBl
            go_wp2_with fail
            (refine wp_region_calm [] [0, 2] 7 (by kernel_rfl) rfl (by kernel_rfl) (by kernel_rfl) (by kernel_rfl) ?_; simp only [pickB, List.filterMap_cons, List.filterMap_nil, List.getElem?_toArray, List.getElem?_cons_zero, List.getElem?_cons_succ]; (repeat (first | ((with_reducible refine quietL_plain rfl (fun K hK => ?_)); (apply Exists.intro; refine ⟨fun wx hx => ?_, ?_⟩; (· (have hcx := ifs_ex hx); simp [go_sem, *, ↓IntWalk.iteOmega] <;> (first | rfl | exact ⟨rfl, rfl⟩ | fail)); (simp only [Act.put, List.setIfInBounds_toArray, List.set_cons_zero, List.set_cons_succ]; refine hK _ ?_; clear hK K))) | ((with_reducible refine quietL_skip (by with_unfolding_all rfl) ?_); simp only [Act.put, List.setIfInBounds_toArray, List.set_cons_zero, List.set_cons_succ]) | ((with_reducible refine quietL_want (by with_unfolding_all rfl) (fun K hK => ?_)); (apply Exists.intro; refine ⟨fun wx hx => ?_, ?_⟩; (· (have hcx := ifs_ex hx); simp [go_sem, *, ↓IntWalk.iteOmega] <;> (first | rfl | exact ⟨rfl, rfl⟩ | fail)); (simp only [Act.put, List.setIfInBounds_toArray, List.set_cons_zero, List.set_cons_succ]; refine hK _ ?_; clear hK K))))); refine quietL_nil ?_)
            (refine anyB_one (i := 1) (by kernel_rfl) rfl rfl ?_; intro wa hba K hK; have hsa := hba.size; (try simp at hsa); go_wp2_with fail)
            have HBa := Lib.hid (HBr.out.trans (hba.mono HBr.out.size))
            refine (HO.out _ HBa.out).mono ?_
            rintro e wb ⟨D0, D1, D2, d0, d1, d2, rfl, hyd, hbb⟩
            have hsb := hbb.size
            have HYb := Lib.hid hyd
            have HBb := Lib.hid (HBa.out.trans (hbb.mono HBa.out.size))
            clear hyd
            (go_wp2; refine ⟨xs_, ?_⟩)
            (refine anyB_one (i := 3) (by kernel_rfl) rfl rfl ?_; intro wc hbc K hK; have hsc := hbc.size; (try simp at hsc); go_wp2_with fail)
            have HBc := Lib.hid (HBb.out.trans (hbc.mono HBb.out.size))
            refine (HBa3.out _ _ _ _ _ _ _ ((HYb.out.below hbc).more hbc.size) HBc.out).mono ?_
            rintro e wd ⟨A3, cap3, rfl, hr3, hbd⟩
            have hsd := hbd.size
            have HR3 := Lib.hid hr3
            have HBd := Lib.hid (HBc.out.trans (hbd.mono HBc.out.size))
            clear hr3
            (go_wp2; refine ⟨xs_, ?_⟩)
            (refine anyB_quiet_at (by kernel_rfl) calm_panic xs_ 2 [4, 5, 6] _ _ (by kernel_rfl) (by decide +kernel) ?_; simp only [pickB, List.filterMap_cons, List.filterMap_nil, List.getElem?_toArray, List.getElem?_cons_zero, List.getElem?_cons_succ]; (repeat ((with_reducible refine quietL_plain rfl (fun K hK => ?_)); (apply Exists.intro; refine ⟨fun wx hx => ?_, ?_⟩; (· (have hcx := ifs_ex hx); simp [go_sem, *, ↓IntWalk.iteOmega] <;> (first | rfl | exact ⟨rfl, rfl⟩ | fail)); (simp only [Act.put, List.setIfInBounds_toArray, List.set_cons_zero, List.set_cons_succ]; refine hK _ ?_; clear hK K)))); refine quietL_nil ?_)
            (refine anyB_one (i := 7) (by kernel_rfl) rfl rfl ?_; intro we hbe K hK; have hse := hbe.size; (try simp at hse); go_wp2; refine ⟨xs_, ?_⟩)
            (refine anyB_one (i := 8) (by kernel_rfl) rfl rfl ?_; intro wf hbf K hK; have hsf := hbf.size; (try simp at hsf); go_wp2; refine ⟨xs_, ?_⟩)
            (refine anyB_end (by kernel_rfl) ?_; intro wg hbg; have hsg := hbg.size; (try simp at hsg); simp only [Calm])
            have hbdg : Below wd.heap.size wd wg := bl_
            have hbg3 : Below wr.heap.size wr wg := bl_
            have HBg := Lib.hid (HBr.out.trans (hbg3.mono HBr.out.size))
            have hs0g := HBg.out.size
            replace HR3 := Lib.hid ((HR3.out.below hbdg).more hbdg.size)
            replace BY := Lib.hid (BY.out.kept hbg3)
            replace BG := Lib.hid (BG.out.kept hbg3)
            replace cY := BY.out.cell
            replace lY := BY.out.lt
            replace cG := BG.out.cell
            replace lG := BG.out.lt
            clear hba hbb hbc hbd hbe hbf hbg hbdg hbg3 HBa HBb HBc HBd HYb
            go_wp2_with fail
            (refine wp_region_calm [] [0, 2, 3] 4 (by kernel_rfl) rfl (by kernel_rfl) (by kernel_rfl) (by kernel_rfl) ?_; simp only [pickB, List.filterMap_cons, List.filterMap_nil, List.getElem?_toArray, List.getElem?_cons_zero, List.getElem?_cons_succ]; (repeat (first | ((with_reducible refine quietL_plain rfl (fun K hK => ?_)); (apply Exists.intro; refine ⟨fun wx hx => ?_, ?_⟩; (· (have hcx := ifs_ex hx); simp [go_sem, *, ↓IntWalk.iteOmega] <;> (first | rfl | exact ⟨rfl, rfl⟩ | fail)); (simp only [Act.put, List.setIfInBounds_toArray, List.set_cons_zero, List.set_cons_succ]; refine hK _ ?_; clear hK K))) | ((with_reducible refine quietL_skip (by with_unfolding_all rfl) ?_); simp only [Act.put, List.setIfInBounds_toArray, List.set_cons_zero, List.set_cons_succ]) | ((with_reducible refine quietL_want (by with_unfolding_all rfl) (fun K hK => ?_)); (apply Exists.intro; refine ⟨fun wx hx => ?_, ?_⟩; (· (have hcx := ifs_ex hx); simp [go_sem, *, ↓IntWalk.iteOmega] <;> (first | rfl | exact ⟨rfl, rfl⟩ | fail)); (simp only [Act.put, List.setIfInBounds_toArray, List.set_cons_zero, List.set_cons_succ]; refine hK _ ?_; clear hK K))))); refine quietL_nil ?_)
            (refine anyB_one (i := 1) (by kernel_rfl) rfl rfl ?_; intro wh hbh K hK; have hsh := hbh.size; (try simp at hsh); go_wp2_with fail)
            have HBh := Lib.hid (HBg.out.trans (hbh.mono HBg.out.size))
            refine (HO.out _ HBh.out).mono ?_
            rintro e wi ⟨D0, D1, D2, d0, d1, d2, rfl, hyd, hbi⟩
            have hsi := hbi.size
            have HYi := Lib.hid hyd
            have HBi := Lib.hid (HBh.out.trans (hbi.mono HBh.out.size))
            clear hyd
            (go_wp2; refine ⟨xs_, ?_⟩)
            (refine anyB_one (i := 4) (by kernel_rfl) rfl rfl ?_; intro wj hbj K hK; have hsj := hbj.size; (try simp at hsj); go_wp2_with fail)
            have HBj := Lib.hid (HBi.out.trans (hbj.mono HBi.out.size))
            refine (HIt.out _ HBj.out).mono ?_
            rintro e wk ⟨A4, cap4, rfl, hr4, hbk⟩
            have hsk := hbk.size
            have HR4 := Lib.hid hr4
            have HBk := Lib.hid (HBj.out.trans (hbk.mono HBj.out.size))
            have HYk := Lib.hid ((HYi.out.below (hbj.trans (hbk.mono hbj.size))).more (hbj.trans (hbk.mono hbj.size)).size)
            clear hr4
            (go_wp2; refine ⟨xs_, ?_⟩)
            (refine anyB_one (i := 5) (by kernel_rfl) rfl rfl ?_; intro wl hbl K hK; have hsl := hbl.size; (try simp at hsl); go_wp2_with fail)
            have HBl := Lib.hid (HBk.out.trans (hbl.mono HBk.out.size))
            refine (HCB.out _ _ _ _ _ _ _ _ _ ((HYk.out.below hbl).more hbl.size) ((HR4.out.below hbl).more hbl.size) HBl.out (by omega)).mono ?_
            (rintro e wm ⟨rfl, hbm⟩; have hsm := hbm.size; (try simp at hsm))
            (go_wp2; refine ⟨xs_, ?_⟩)
            (refine anyB_one (i := 6) (by kernel_rfl) rfl rfl ?_; intro wn hbn K hK; have hsn := hbn.size; (try simp at hsn); go_wp2; refine ⟨xs_, ?_⟩)
            (refine anyB_end (by kernel_rfl) ?_; intro wo hbo; have hso := hbo.size; (try simp at hso); simp only [Calm])
            have hbo3 : Below wg.heap.size wg wo := bl_
            have HBo := Lib.hid (HBg.out.trans (hbo3.mono HBg.out.size))
            have hs0o := HBo.out.size
            replace HR3 := Lib.hid ((HR3.out.below hbo3).more hbo3.size)
            replace BY := Lib.hid (BY.out.kept hbo3)
            replace BG := Lib.hid (BG.out.kept hbo3)
            replace cY := BY.out.cell
            replace lY := BY.out.lt
            replace cG := BG.out.cell
            replace lG := BG.out.lt
            clear hbh hbi hbj hbk hbl hbm hbn hbo hbo3 HBh HBi HBj HBk HBl HYi HYk HR4
            go_wp2_with fail
            refine (HCk.out _ HBo.out).mono ?_
            (rintro e wp ⟨rfl, hbp⟩; have hsp := hbp.size; (try simp at hsp))
            replace HR3 := Lib.hid (rd_kept HR3.out hbp)
            have HBp := Lib.hid (HBo.out.trans (hbp.mono HBo.out.size))
            have hs0p := HBp.out.size
            replace BY := Lib.hid (BY.out.kept hbp)
            replace cY := BY.out.cell
            replace lY := BY.out.lt
            (try replace BG := Lib.hid (BG.out.kept hbp))
            (try replace cG := BG.out.cell)
            (try replace lG := BG.out.lt)
            clear hbp
            go_wp2_with fail
            refine (HCG.out _ HBp.out).mono ?_
            (rintro e wq ⟨rfl, hbq⟩; have hsq := hbq.size; (try simp at hsq))
            replace HR3 := Lib.hid (rd_kept HR3.out hbq)
            have HBq := Lib.hid (HBp.out.trans (hbq.mono HBp.out.size))
            have hs0q := HBq.out.size
            replace BY := Lib.hid (BY.out.kept hbq)
            replace cY := BY.out.cell
            replace lY := BY.out.lt
            (try replace BG := Lib.hid (BG.out.kept hbq))
            (try replace cG := BG.out.cell)
            (try replace lG := BG.out.lt)
            clear hbq
            go_wp2_with fail
            refine (named_err _ _ _ _ _ _ _ hg2 rfl _).mono ?_
            rintro e wz ⟨rfl, hbz⟩
            go_wp2_with fail
            go_ret
            exact ⟨by first | rfl | (simp; done), HBq.out.trans (hbz.mono HBq.out.size)⟩
        obtain ⟨hgb, hsc⟩ := goal2_zero hg2
        obtain ⟨e1, e2⟩ := ord_yes (y := y) (gk := gk) (gs := gs) (by rw [hge]; exact hg2) l
        rw [hg2] at HCG
        have hP := (yard_ok hee).1
        simp only [e1, e2] at HBa HCB
        have hrl := reachL_len y
        have hol := orderL_len y gk gs
        have hrl2 : (orderL y gk gs).length ≤ 1000 := by
          have := hP.w8
          have h2 : 2 ^ y.w.length ≤ 2 ^ 8 := Nat.pow_le_pow_right (by decide) this
          omega
        have HRb := Lib.hid (fun W (hW : Below w.heap.size w W) => rOrder_any w.heap.size A0 A1 A2 n0 n1 n2 c0 c1 c2 y W (HY.out.below hW) hW.size hP gk gs hgb hsc)
        have HRc := Lib.hid (fun W (hW : Below w.heap.size w W) => rCheckOrder_any w.heap.size A0 A1 A2 n0 n1 n2 c0 c1 c2 y W (HY.out.below hW) hW.size hee HFt.out gk gs hgb hsc A n c l ((HR.out.below hW).more hW.size) (by omega))
        have HBa3 := HBa
        clear HBa e1 e2 hge HFt HT hee hg2 hgb hsc hP hrl hol
        generalize ordCE y gk gs l = rr at *
        generalize orderL y gk gs = rl at *
        by_cases hb0 : ordRE y gk gs = 0
        case neg =>
          simp only [resW_no hb0] at HBa3 HRb
          generalize ordRE y gk gs = ee at *
          rcases hnn with hn1 | rfl
          all_goals
            go_enter Tryz.func7, Tryz.ntmps7
            go_wp2_with fail
            refine (HAw.out _ bl_).mono ?_
            (rintro e w1 ⟨rfl, hb1⟩; have hs1 := hb1.size; (try simp at hs1))
            have HB1 := Lib.hid (bl_ : Below w.heap.size w w1)
            have BY := Lib.hid (bk_ : Blk w1 w.heap.size 26 #[.slice A0 n0 c0, .slice A1 n1 c1, .slice A2 n2 c2])
            have BG := Lib.hid (bk_ : Blk w1 (w.heap.size + 1) 28 #[.string gk, .string gs])
            have cY := BY.out.cell
            have lY := BY.out.lt
            have cG := BG.out.cell
            have lG := BG.out.lt
            clear hb1
            go_wp2_with fail
            refine (HSh.out _ HB1.out).mono ?_
            (rintro e w2 ⟨rfl, hb2⟩; have hs2 := hb2.size; (try simp at hs2))
            have HB2 := Lib.hid (HB1.out.trans (hb2.mono HB1.out.size))
            have hs02 := HB2.out.size
            replace BY := Lib.hid (BY.out.kept hb2)
            replace cY := BY.out.cell
            replace lY := BY.out.lt
            (try replace BG := Lib.hid (BG.out.kept hb2))
            (try replace cG := BG.out.cell)
            (try replace lG := BG.out.lt)
            clear hb2
            go_wp2_with fail
            refine (HSm.out _).mono ?_
            (rintro e w3 ⟨rfl, hb3⟩; have hs3 := hb3.size; (try simp at hs3))
            have HB3 := Lib.hid (HB2.out.trans (hb3.mono HB2.out.size))
            have hs03 := HB3.out.size
            replace BY := Lib.hid (BY.out.kept hb3)
            replace cY := BY.out.cell
            replace lY := BY.out.lt
            (try replace BG := Lib.hid (BG.out.kept hb3))
            (try replace cG := BG.out.cell)
            (try replace lG := BG.out.lt)
            clear hb3
            go_wp2_with fail
            refine (HSg.out _).mono ?_
            (rintro e w5 ⟨rfl, hb5⟩; have hs5 := hb5.size; (try simp at hs5))
            have HB5 := Lib.hid (HB3.out.trans (hb5.mono HB3.out.size))
            have hs05 := HB5.out.size
            replace BY := Lib.hid (BY.out.kept hb5)
            replace cY := BY.out.cell
            replace lY := BY.out.lt
            (try replace BG := Lib.hid (BG.out.kept hb5))
            (try replace cG := BG.out.cell)
            (try replace lG := BG.out.lt)
            clear hb5
            go_wp2_with fail
            go_loopw [50] (fun i wx => ∃ k : Nat, k ≤ l.length ∧ i = .int .i64 (k : Int) ∧ Below w5.heap.size w5 wx) (fun i _ => l.length - (intOf i).toNat)
            case atStart => exact ⟨0, by omega, rfl, Below.refl _ _⟩
            obtain ⟨k, hk, rfl, hbr⟩ := hrel
            have hsr := hbr.size
            have HBl := Lib.hid hbr
            have HBr := Lib.hid (HB5.out.trans (hbr.mono HB5.out.size))
            have hs0r := HBr.out.size
            replace BY := Lib.hid (BY.out.kept hbr)
            replace cY := BY.out.cell
            replace lY := BY.out.lt
            (try replace BG := Lib.hid (BG.out.kept hbr))
            (try replace cG := BG.out.cell)
            (try replace lG := BG.out.lt)
            clear hbr
            by_cases hlt : k < l.length
            case pos =>
              obtain ⟨b, o, u, eA, hbb, hu, hcell⟩ := HR.out.at_ (k := k) (by omega)
              obtain rfl : u = .string l[k] := by
                rw [List.getElem?_map, List.getElem?_eq_getElem hlt] at hu
                exact (Option.some.inj hu).symm
              have zb := (HBr.out.cell (p := ⟨b, o + k, none⟩) hbb).trans hcell
              have hbw : b < wr.heap.size := by omega
              subst eA
              clear hu hcell
              generalize l[k] = x at *
              by_cases hx : (40 : Int) < (x.size : Int)
              · go_wp2_with fail
                go_ret
                exact ⟨rfl, HBr.out⟩
              · go_wp2_with fail
                refine ⟨⟨k + 1, by omega, by simp, HBl.out⟩, ?_⟩
                simp only [intOf]
                omega
            clear HBl
            go_wp2_with fail
            (refine wp_region_calm [] [0, 2] 7 (by kernel_rfl) rfl (by kernel_rfl) (by kernel_rfl) (by kernel_rfl) ?_; simp only [pickB, List.filterMap_cons, List.filterMap_nil, List.getElem?_toArray, List.getElem?_cons_zero, List.getElem?_cons_succ]; (repeat (first | ((with_reducible refine quietL_plain rfl (fun K hK => ?_)); (apply Exists.intro; refine ⟨fun wx hx => ?_, ?_⟩; (· (have hcx := ifs_ex hx); simp [go_sem, *, ↓IntWalk.iteOmega] <;> (first | rfl | exact ⟨rfl, rfl⟩ | fail)); (simp only [Act.put, List.setIfInBounds_toArray, List.set_cons_zero, List.set_cons_succ]; refine hK _ ?_; clear hK K))) | ((with_reducible refine quietL_skip (by with_unfolding_all rfl) ?_); simp only [Act.put, List.setIfInBounds_toArray, List.set_cons_zero, List.set_cons_succ]) | ((with_reducible refine quietL_want (by with_unfolding_all rfl) (fun K hK => ?_)); (apply Exists.intro; refine ⟨fun wx hx => ?_, ?_⟩; (· (have hcx := ifs_ex hx); simp [go_sem, *, ↓IntWalk.iteOmega] <;> (first | rfl | exact ⟨rfl, rfl⟩ | fail)); (simp only [Act.put, List.setIfInBounds_toArray, List.set_cons_zero, List.set_cons_succ]; refine hK _ ?_; clear hK K))))); refine quietL_nil ?_)
            (refine anyB_one (i := 1) (by kernel_rfl) rfl rfl ?_; intro wa hba K hK; have hsa := hba.size; (try simp at hsa); go_wp2_with fail)
            have HBa := Lib.hid (HBr.out.trans (hba.mono HBr.out.size))
            refine (HO.out _ HBa.out).mono ?_
            rintro e wb ⟨D0, D1, D2, d0, d1, d2, rfl, hyd, hbb⟩
            have hsb := hbb.size
            have HYb := Lib.hid hyd
            have HBb := Lib.hid (HBa.out.trans (hbb.mono HBa.out.size))
            clear hyd
            (go_wp2; refine ⟨xs_, ?_⟩)
            (refine anyB_one (i := 3) (by kernel_rfl) rfl rfl ?_; intro wc hbc K hK; have hsc := hbc.size; (try simp at hsc); go_wp2_with fail)
            have HBc := Lib.hid (HBb.out.trans (hbc.mono HBb.out.size))
            refine (HBa3.out _ _ _ _ _ _ _ ((HYb.out.below hbc).more hbc.size) HBc.out).mono ?_
            rintro e wd ⟨A3, cap3, rfl, hr3, hbd⟩
            have hsd := hbd.size
            have HR3 := Lib.hid hr3
            have HBd := Lib.hid (HBc.out.trans (hbd.mono HBc.out.size))
            clear hr3
            (go_wp2; refine ⟨xs_, ?_⟩)
            (refine anyB_quiet_at (by kernel_rfl) calm_panic xs_ 2 [4, 5, 6] _ _ (by kernel_rfl) (by decide +kernel) ?_; simp only [pickB, List.filterMap_cons, List.filterMap_nil, List.getElem?_toArray, List.getElem?_cons_zero, List.getElem?_cons_succ]; (repeat ((with_reducible refine quietL_plain rfl (fun K hK => ?_)); (apply Exists.intro; refine ⟨fun wx hx => ?_, ?_⟩; (· (have hcx := ifs_ex hx); simp [go_sem, *, ↓IntWalk.iteOmega] <;> (first | rfl | exact ⟨rfl, rfl⟩ | fail)); (simp only [Act.put, List.setIfInBounds_toArray, List.set_cons_zero, List.set_cons_succ]; refine hK _ ?_; clear hK K)))); refine quietL_nil ?_)
            (refine anyB_one (i := 7) (by kernel_rfl) rfl rfl ?_; intro we hbe K hK; have hse := hbe.size; (try simp at hse); go_wp2; refine ⟨xs_, ?_⟩)
            (refine anyB_one (i := 8) (by kernel_rfl) rfl rfl ?_; intro wf hbf K hK; have hsf := hbf.size; (try simp at hsf); go_wp2; refine ⟨xs_, ?_⟩)
            (refine anyB_end (by kernel_rfl) ?_; intro wg hbg; have hsg := hbg.size; (try simp at hsg); simp only [Calm])
            have hbdg : Below wd.heap.size wd wg := bl_
            have hbg3 : Below wr.heap.size wr wg := bl_
            have HBg := Lib.hid (HBr.out.trans (hbg3.mono HBr.out.size))
            have hs0g := HBg.out.size
            replace HR3 := Lib.hid ((HR3.out.below hbdg).more hbdg.size)
            replace BY := Lib.hid (BY.out.kept hbg3)
            replace BG := Lib.hid (BG.out.kept hbg3)
            replace cY := BY.out.cell
            replace lY := BY.out.lt
            replace cG := BG.out.cell
            replace lG := BG.out.lt
            clear hba hbb hbc hbd hbe hbf hbg hbdg hbg3 HBa HBb HBc HBd HYb
            go_wp2_with fail
            (refine wp_region_calm [] [0, 2, 3] 4 (by kernel_rfl) rfl (by kernel_rfl) (by kernel_rfl) (by kernel_rfl) ?_; simp only [pickB, List.filterMap_cons, List.filterMap_nil, List.getElem?_toArray, List.getElem?_cons_zero, List.getElem?_cons_succ]; (repeat (first | ((with_reducible refine quietL_plain rfl (fun K hK => ?_)); (apply Exists.intro; refine ⟨fun wx hx => ?_, ?_⟩; (· (have hcx := ifs_ex hx); simp [go_sem, *, ↓IntWalk.iteOmega] <;> (first | rfl | exact ⟨rfl, rfl⟩ | fail)); (simp only [Act.put, List.setIfInBounds_toArray, List.set_cons_zero, List.set_cons_succ]; refine hK _ ?_; clear hK K))) | ((with_reducible refine quietL_skip (by with_unfolding_all rfl) ?_); simp only [Act.put, List.setIfInBounds_toArray, List.set_cons_zero, List.set_cons_succ]) | ((with_reducible refine quietL_want (by with_unfolding_all rfl) (fun K hK => ?_)); (apply Exists.intro; refine ⟨fun wx hx => ?_, ?_⟩; (· (have hcx := ifs_ex hx); simp [go_sem, *, ↓IntWalk.iteOmega] <;> (first | rfl | exact ⟨rfl, rfl⟩ | fail)); (simp only [Act.put, List.setIfInBounds_toArray, List.set_cons_zero, List.set_cons_succ]; refine hK _ ?_; clear hK K))))); refine quietL_nil ?_)
            (refine anyB_one (i := 1) (by kernel_rfl) rfl rfl ?_; intro wh hbh K hK; have hsh := hbh.size; (try simp at hsh); go_wp2_with fail)
            have HBh := Lib.hid (HBg.out.trans (hbh.mono HBg.out.size))
            refine (HO.out _ HBh.out).mono ?_
            rintro e wi ⟨D0, D1, D2, d0, d1, d2, rfl, hyd, hbi⟩
            have hsi := hbi.size
            have HYi := Lib.hid hyd
            have HBi := Lib.hid (HBh.out.trans (hbi.mono HBh.out.size))
            clear hyd
            (go_wp2; refine ⟨xs_, ?_⟩)
            (refine anyB_one (i := 4) (by kernel_rfl) rfl rfl ?_; intro wj hbj K hK; have hsj := hbj.size; (try simp at hsj); go_wp2_with fail)
            have HBj := Lib.hid (HBi.out.trans (hbj.mono HBi.out.size))
            refine (HIt.out _ HBj.out).mono ?_
            rintro e wk ⟨A4, cap4, rfl, hr4, hbk⟩
            have hsk := hbk.size
            have HR4 := Lib.hid hr4
            have HBk := Lib.hid (HBj.out.trans (hbk.mono HBj.out.size))
            have HYk := Lib.hid ((HYi.out.below (hbj.trans (hbk.mono hbj.size))).more (hbj.trans (hbk.mono hbj.size)).size)
            clear hr4
            (go_wp2; refine ⟨xs_, ?_⟩)
            (refine anyB_one (i := 5) (by kernel_rfl) rfl rfl ?_; intro wl hbl K hK; have hsl := hbl.size; (try simp at hsl); go_wp2_with fail)
            have HBl := Lib.hid (HBk.out.trans (hbl.mono HBk.out.size))
            refine (HCB.out _ _ _ _ _ _ _ _ _ ((HYk.out.below hbl).more hbl.size) ((HR4.out.below hbl).more hbl.size) HBl.out (by omega)).mono ?_
            (rintro e wm ⟨rfl, hbm⟩; have hsm := hbm.size; (try simp at hsm))
            (go_wp2; refine ⟨xs_, ?_⟩)
            (refine anyB_one (i := 6) (by kernel_rfl) rfl rfl ?_; intro wn hbn K hK; have hsn := hbn.size; (try simp at hsn); go_wp2; refine ⟨xs_, ?_⟩)
            (refine anyB_end (by kernel_rfl) ?_; intro wo hbo; have hso := hbo.size; (try simp at hso); simp only [Calm])
            have hbo3 : Below wg.heap.size wg wo := bl_
            have HBo := Lib.hid (HBg.out.trans (hbo3.mono HBg.out.size))
            have hs0o := HBo.out.size
            replace HR3 := Lib.hid ((HR3.out.below hbo3).more hbo3.size)
            replace BY := Lib.hid (BY.out.kept hbo3)
            replace BG := Lib.hid (BG.out.kept hbo3)
            replace cY := BY.out.cell
            replace lY := BY.out.lt
            replace cG := BG.out.cell
            replace lG := BG.out.lt
            clear hbh hbi hbj hbk hbl hbm hbn hbo hbo3 HBh HBi HBj HBk HBl HYi HYk HR4
            go_wp2_with fail
            refine (HCk.out _ HBo.out).mono ?_
            (rintro e wp ⟨rfl, hbp⟩; have hsp := hbp.size; (try simp at hsp))
            replace HR3 := Lib.hid (rd_kept HR3.out hbp)
            have HBp := Lib.hid (HBo.out.trans (hbp.mono HBo.out.size))
            have hs0p := HBp.out.size
            replace BY := Lib.hid (BY.out.kept hbp)
            replace cY := BY.out.cell
            replace lY := BY.out.lt
            (try replace BG := Lib.hid (BG.out.kept hbp))
            (try replace cG := BG.out.cell)
            (try replace lG := BG.out.lt)
            clear hbp
            go_wp2_with fail
            refine (HCG.out _ HBp.out).mono ?_
            (rintro e wq ⟨rfl, hbq⟩; have hsq := hbq.size; (try simp at hsq))
            replace HR3 := Lib.hid (rd_kept HR3.out hbq)
            have HBq := Lib.hid (HBp.out.trans (hbq.mono HBp.out.size))
            have hs0q := HBq.out.size
            replace BY := Lib.hid (BY.out.kept hbq)
            replace cY := BY.out.cell
            replace lY := BY.out.lt
            (try replace BG := Lib.hid (BG.out.kept hbq))
            (try replace cG := BG.out.cell)
            (try replace lG := BG.out.lt)
            clear hbq
            go_wp2_with fail
            refine (HRb.out _ HBq.out).mono ?_
            rintro e wr ⟨A5, cap5, rfl, hr5, hbr⟩
            have hsr := hbr.size
            have HBr := Lib.hid (HBq.out.trans (hbr.mono HBq.out.size))
            have hs0r := HBr.out.size
            replace BY := Lib.hid (BY.out.kept hbr)
            replace cY := BY.out.cell
            replace lY := BY.out.lt
            (try replace BG := Lib.hid (BG.out.kept hbr))
            (try replace cG := BG.out.cell)
            (try replace lG := BG.out.lt)
            clear hbr
            go_wp2_with fail
            refine (HRc.out _ HBr.out).mono ?_
            (rintro e ws ⟨rfl, hbs⟩; have hss := hbs.size; (try simp at hss))
            have HBs := Lib.hid (HBr.out.trans (hbs.mono HBr.out.size))
            have hs0s := HBs.out.size
            replace BY := Lib.hid (BY.out.kept hbs)
            replace cY := BY.out.cell
            replace lY := BY.out.lt
            (try replace BG := Lib.hid (BG.out.kept hbs))
            (try replace cG := BG.out.cell)
            (try replace lG := BG.out.lt)
            clear hbs
            go_wp2_with fail
            refine (named_err _ _ _ _ _ _ _ hb0 rfl _).mono ?_
            rintro e wz ⟨rfl, hbz⟩
            go_wp2_with fail
            go_ret
            exact ⟨by first | rfl | (simp; done), HBs.out.trans (hbz.mono HBs.out.size)⟩
        rw [hb0] at HBa3 HRb
        simp only [resW_ok] at HBa3 HRb
        rcases hnn with hn1 | rfl
        all_goals
          go_enter Tryz.func7, Tryz.ntmps7
          go_wp2_with fail
          refine (HAw.out _ bl_).mono ?_
          (rintro e w1 ⟨rfl, hb1⟩; have hs1 := hb1.size; (try simp at hs1))
          have HB1 := Lib.hid (bl_ : Below w.heap.size w w1)
          have BY := Lib.hid (bk_ : Blk w1 w.heap.size 26 #[.slice A0 n0 c0, .slice A1 n1 c1, .slice A2 n2 c2])
          have BG := Lib.hid (bk_ : Blk w1 (w.heap.size + 1) 28 #[.string gk, .string gs])
          have cY := BY.out.cell
          have lY := BY.out.lt
          have cG := BG.out.cell
          have lG := BG.out.lt
          clear hb1
          go_wp2_with fail
          refine (HSh.out _ HB1.out).mono ?_
          (rintro e w2 ⟨rfl, hb2⟩; have hs2 := hb2.size; (try simp at hs2))
          have HB2 := Lib.hid (HB1.out.trans (hb2.mono HB1.out.size))
          have hs02 := HB2.out.size
          replace BY := Lib.hid (BY.out.kept hb2)
          replace cY := BY.out.cell
          replace lY := BY.out.lt
          (try replace BG := Lib.hid (BG.out.kept hb2))
          (try replace cG := BG.out.cell)
          (try replace lG := BG.out.lt)
          clear hb2
          go_wp2_with fail
          refine (HSm.out _).mono ?_
          (rintro e w3 ⟨rfl, hb3⟩; have hs3 := hb3.size; (try simp at hs3))
          have HB3 := Lib.hid (HB2.out.trans (hb3.mono HB2.out.size))
          have hs03 := HB3.out.size
          replace BY := Lib.hid (BY.out.kept hb3)
          replace cY := BY.out.cell
          replace lY := BY.out.lt
          (try replace BG := Lib.hid (BG.out.kept hb3))
          (try replace cG := BG.out.cell)
          (try replace lG := BG.out.lt)
          clear hb3
          go_wp2_with fail
          refine (HSg.out _).mono ?_
          (rintro e w5 ⟨rfl, hb5⟩; have hs5 := hb5.size; (try simp at hs5))
          have HB5 := Lib.hid (HB3.out.trans (hb5.mono HB3.out.size))
          have hs05 := HB5.out.size
          replace BY := Lib.hid (BY.out.kept hb5)
          replace cY := BY.out.cell
          replace lY := BY.out.lt
          (try replace BG := Lib.hid (BG.out.kept hb5))
          (try replace cG := BG.out.cell)
          (try replace lG := BG.out.lt)
          clear hb5
          go_wp2_with fail
          go_loopw [50] (fun i wx => ∃ k : Nat, k ≤ l.length ∧ i = .int .i64 (k : Int) ∧ Below w5.heap.size w5 wx) (fun i _ => l.length - (intOf i).toNat)
          case atStart => exact ⟨0, by omega, rfl, Below.refl _ _⟩
          obtain ⟨k, hk, rfl, hbr⟩ := hrel
          have hsr := hbr.size
          have HBl := Lib.hid hbr
          have HBr := Lib.hid (HB5.out.trans (hbr.mono HB5.out.size))
          have hs0r := HBr.out.size
          replace BY := Lib.hid (BY.out.kept hbr)
          replace cY := BY.out.cell
          replace lY := BY.out.lt
          (try replace BG := Lib.hid (BG.out.kept hbr))
          (try replace cG := BG.out.cell)
          (try replace lG := BG.out.lt)
          clear hbr
          by_cases hlt : k < l.length
          case pos =>
            obtain ⟨b, o, u, eA, hbb, hu, hcell⟩ := HR.out.at_ (k := k) (by omega)
            obtain rfl : u = .string l[k] := by
              rw [List.getElem?_map, List.getElem?_eq_getElem hlt] at hu
              exact (Option.some.inj hu).symm
            have zb := (HBr.out.cell (p := ⟨b, o + k, none⟩) hbb).trans hcell
            have hbw : b < wr.heap.size := by omega
            subst eA
            clear hu hcell
            generalize l[k] = x at *
            by_cases hx : (40 : Int) < (x.size : Int)
            · go_wp2_with fail
              go_ret
              exact ⟨rfl, HBr.out⟩
            · go_wp2_with fail
              refine ⟨⟨k + 1, by omega, by simp, HBl.out⟩, ?_⟩
              simp only [intOf]
              omega
          clear HBl
          go_wp2_with fail
          (refine wp_region_calm [] [0, 2] 7 (by kernel_rfl) rfl (by kernel_rfl) (by kernel_rfl) (by kernel_rfl) ?_; simp only [pickB, List.filterMap_cons, List.filterMap_nil, List.getElem?_toArray, List.getElem?_cons_zero, List.getElem?_cons_succ]; (repeat (first | ((with_reducible refine quietL_plain rfl (fun K hK => ?_)); (apply Exists.intro; refine ⟨fun wx hx => ?_, ?_⟩; (· (have hcx := ifs_ex hx); simp [go_sem, *, ↓IntWalk.iteOmega] <;> (first | rfl | exact ⟨rfl, rfl⟩ | fail)); (simp only [Act.put, List.setIfInBounds_toArray, List.set_cons_zero, List.set_cons_succ]; refine hK _ ?_; clear hK K))) | ((with_reducible refine quietL_skip (by with_unfolding_all rfl) ?_); simp only [Act.put, List.setIfInBounds_toArray, List.set_cons_zero, List.set_cons_succ]) | ((with_reducible refine quietL_want (by with_unfolding_all rfl) (fun K hK => ?_)); (apply Exists.intro; refine ⟨fun wx hx => ?_, ?_⟩; (· (have hcx := ifs_ex hx); simp [go_sem, *, ↓IntWalk.iteOmega] <;> (first | rfl | exact ⟨rfl, rfl⟩ | fail)); (simp only [Act.put, List.setIfInBounds_toArray, List.set_cons_zero, List.set_cons_succ]; refine hK _ ?_; clear hK K))))); refine quietL_nil ?_)
          (refine anyB_one (i := 1) (by kernel_rfl) rfl rfl ?_; intro wa hba K hK; have hsa := hba.size; (try simp at hsa); go_wp2_with fail)
          have HBa := Lib.hid (HBr.out.trans (hba.mono HBr.out.size))
          refine (HO.out _ HBa.out).mono ?_
          rintro e wb ⟨D0, D1, D2, d0, d1, d2, rfl, hyd, hbb⟩
          have hsb := hbb.size
          have HYb := Lib.hid hyd
          have HBb := Lib.hid (HBa.out.trans (hbb.mono HBa.out.size))
          clear hyd
          (go_wp2; refine ⟨xs_, ?_⟩)
          (refine anyB_one (i := 3) (by kernel_rfl) rfl rfl ?_; intro wc hbc K hK; have hsc := hbc.size; (try simp at hsc); go_wp2_with fail)
          have HBc := Lib.hid (HBb.out.trans (hbc.mono HBb.out.size))
          refine (HBa3.out _ _ _ _ _ _ _ ((HYb.out.below hbc).more hbc.size) HBc.out).mono ?_
          rintro e wd ⟨A3, cap3, rfl, hr3, hbd⟩
          have hsd := hbd.size
          have HR3 := Lib.hid hr3
          have HBd := Lib.hid (HBc.out.trans (hbd.mono HBc.out.size))
          clear hr3
          (go_wp2; refine ⟨xs_, ?_⟩)
          (refine anyB_quiet_at (by kernel_rfl) calm_panic xs_ 2 [4, 5, 6] _ _ (by kernel_rfl) (by decide +kernel) ?_; simp only [pickB, List.filterMap_cons, List.filterMap_nil, List.getElem?_toArray, List.getElem?_cons_zero, List.getElem?_cons_succ]; (repeat ((with_reducible refine quietL_plain rfl (fun K hK => ?_)); (apply Exists.intro; refine ⟨fun wx hx => ?_, ?_⟩; (· (have hcx := ifs_ex hx); simp [go_sem, *, ↓IntWalk.iteOmega] <;> (first | rfl | exact ⟨rfl, rfl⟩ | fail)); (simp only [Act.put, List.setIfInBounds_toArray, List.set_cons_zero, List.set_cons_succ]; refine hK _ ?_; clear hK K)))); refine quietL_nil ?_)
          (refine anyB_one (i := 7) (by kernel_rfl) rfl rfl ?_; intro we hbe K hK; have hse := hbe.size; (try simp at hse); go_wp2; refine ⟨xs_, ?_⟩)
          (refine anyB_one (i := 8) (by kernel_rfl) rfl rfl ?_; intro wf hbf K hK; have hsf := hbf.size; (try simp at hsf); go_wp2; refine ⟨xs_, ?_⟩)
          (refine anyB_end (by kernel_rfl) ?_; intro wg hbg; have hsg := hbg.size; (try simp at hsg); simp only [Calm])
          have hbdg : Below wd.heap.size wd wg := bl_
          have hbg3 : Below wr.heap.size wr wg := bl_
          have HBg := Lib.hid (HBr.out.trans (hbg3.mono HBr.out.size))
          have hs0g := HBg.out.size
          replace HR3 := Lib.hid ((HR3.out.below hbdg).more hbdg.size)
          replace BY := Lib.hid (BY.out.kept hbg3)
          replace BG := Lib.hid (BG.out.kept hbg3)
          replace cY := BY.out.cell
          replace lY := BY.out.lt
          replace cG := BG.out.cell
          replace lG := BG.out.lt
          clear hba hbb hbc hbd hbe hbf hbg hbdg hbg3 HBa HBb HBc HBd HYb
          go_wp2_with fail
          (refine wp_region_calm [] [0, 2, 3] 4 (by kernel_rfl) rfl (by kernel_rfl) (by kernel_rfl) (by kernel_rfl) ?_; simp only [pickB, List.filterMap_cons, List.filterMap_nil, List.getElem?_toArray, List.getElem?_cons_zero, List.getElem?_cons_succ]; (repeat (first | ((with_reducible refine quietL_plain rfl (fun K hK => ?_)); (apply Exists.intro; refine ⟨fun wx hx => ?_, ?_⟩; (· (have hcx := ifs_ex hx); simp [go_sem, *, ↓IntWalk.iteOmega] <;> (first | rfl | exact ⟨rfl, rfl⟩ | fail)); (simp only [Act.put, List.setIfInBounds_toArray, List.set_cons_zero, List.set_cons_succ]; refine hK _ ?_; clear hK K))) | ((with_reducible refine quietL_skip (by with_unfolding_all rfl) ?_); simp only [Act.put, List.setIfInBounds_toArray, List.set_cons_zero, List.set_cons_succ]) | ((with_reducible refine quietL_want (by with_unfolding_all rfl) (fun K hK => ?_)); (apply Exists.intro; refine ⟨fun wx hx => ?_, ?_⟩; (· (have hcx := ifs_ex hx); simp [go_sem, *, ↓IntWalk.iteOmega] <;> (first | rfl | exact ⟨rfl, rfl⟩ | fail)); (simp only [Act.put, List.setIfInBounds_toArray, List.set_cons_zero, List.set_cons_succ]; refine hK _ ?_; clear hK K))))); refine quietL_nil ?_)
          (refine anyB_one (i := 1) (by kernel_rfl) rfl rfl ?_; intro wh hbh K hK; have hsh := hbh.size; (try simp at hsh); go_wp2_with fail)
          have HBh := Lib.hid (HBg.out.trans (hbh.mono HBg.out.size))
          refine (HO.out _ HBh.out).mono ?_
          rintro e wi ⟨D0, D1, D2, d0, d1, d2, rfl, hyd, hbi⟩
          have hsi := hbi.size
          have HYi := Lib.hid hyd
          have HBi := Lib.hid (HBh.out.trans (hbi.mono HBh.out.size))
          clear hyd
          (go_wp2; refine ⟨xs_, ?_⟩)
          (refine anyB_one (i := 4) (by kernel_rfl) rfl rfl ?_; intro wj hbj K hK; have hsj := hbj.size; (try simp at hsj); go_wp2_with fail)
          have HBj := Lib.hid (HBi.out.trans (hbj.mono HBi.out.size))
          refine (HIt.out _ HBj.out).mono ?_
          rintro e wk ⟨A4, cap4, rfl, hr4, hbk⟩
          have hsk := hbk.size
          have HR4 := Lib.hid hr4
          have HBk := Lib.hid (HBj.out.trans (hbk.mono HBj.out.size))
          have HYk := Lib.hid ((HYi.out.below (hbj.trans (hbk.mono hbj.size))).more (hbj.trans (hbk.mono hbj.size)).size)
          clear hr4
          (go_wp2; refine ⟨xs_, ?_⟩)
          (refine anyB_one (i := 5) (by kernel_rfl) rfl rfl ?_; intro wl hbl K hK; have hsl := hbl.size; (try simp at hsl); go_wp2_with fail)
          have HBl := Lib.hid (HBk.out.trans (hbl.mono HBk.out.size))
          refine (HCB.out _ _ _ _ _ _ _ _ _ ((HYk.out.below hbl).more hbl.size) ((HR4.out.below hbl).more hbl.size) HBl.out (by omega)).mono ?_
          (rintro e wm ⟨rfl, hbm⟩; have hsm := hbm.size; (try simp at hsm))
          (go_wp2; refine ⟨xs_, ?_⟩)
          (refine anyB_one (i := 6) (by kernel_rfl) rfl rfl ?_; intro wn hbn K hK; have hsn := hbn.size; (try simp at hsn); go_wp2; refine ⟨xs_, ?_⟩)
          (refine anyB_end (by kernel_rfl) ?_; intro wo hbo; have hso := hbo.size; (try simp at hso); simp only [Calm])
          have hbo3 : Below wg.heap.size wg wo := bl_
          have HBo := Lib.hid (HBg.out.trans (hbo3.mono HBg.out.size))
          have hs0o := HBo.out.size
          replace HR3 := Lib.hid ((HR3.out.below hbo3).more hbo3.size)
          replace BY := Lib.hid (BY.out.kept hbo3)
          replace BG := Lib.hid (BG.out.kept hbo3)
          replace cY := BY.out.cell
          replace lY := BY.out.lt
          replace cG := BG.out.cell
          replace lG := BG.out.lt
          clear hbh hbi hbj hbk hbl hbm hbn hbo hbo3 HBh HBi HBj HBk HBl HYi HYk HR4
          go_wp2_with fail
          refine (HCk.out _ HBo.out).mono ?_
          (rintro e wp ⟨rfl, hbp⟩; have hsp := hbp.size; (try simp at hsp))
          replace HR3 := Lib.hid (rd_kept HR3.out hbp)
          have HBp := Lib.hid (HBo.out.trans (hbp.mono HBo.out.size))
          have hs0p := HBp.out.size
          replace BY := Lib.hid (BY.out.kept hbp)
          replace cY := BY.out.cell
          replace lY := BY.out.lt
          (try replace BG := Lib.hid (BG.out.kept hbp))
          (try replace cG := BG.out.cell)
          (try replace lG := BG.out.lt)
          clear hbp
          go_wp2_with fail
          refine (HCG.out _ HBp.out).mono ?_
          (rintro e wq ⟨rfl, hbq⟩; have hsq := hbq.size; (try simp at hsq))
          replace HR3 := Lib.hid (rd_kept HR3.out hbq)
          have HBq := Lib.hid (HBp.out.trans (hbq.mono HBp.out.size))
          have hs0q := HBq.out.size
          replace BY := Lib.hid (BY.out.kept hbq)
          replace cY := BY.out.cell
          replace lY := BY.out.lt
          (try replace BG := Lib.hid (BG.out.kept hbq))
          (try replace cG := BG.out.cell)
          (try replace lG := BG.out.lt)
          clear hbq
          go_wp2_with fail
          refine (HRb.out _ HBq.out).mono ?_
          rintro e wr ⟨A5, cap5, rfl, hr5, hbr⟩
          have hsr := hbr.size
          replace HR3 := Lib.hid (rd_kept HR3.out hbr)
          have HBr := Lib.hid (HBq.out.trans (hbr.mono HBq.out.size))
          have hs0r := HBr.out.size
          replace BY := Lib.hid (BY.out.kept hbr)
          replace cY := BY.out.cell
          replace lY := BY.out.lt
          (try replace BG := Lib.hid (BG.out.kept hbr))
          (try replace cG := BG.out.cell)
          (try replace lG := BG.out.lt)
          clear hbr
          go_wp2_with fail
          refine (HRc.out _ HBr.out).mono ?_
          (rintro e ws ⟨rfl, hbs⟩; have hss := hbs.size; (try simp at hss))
          replace HR3 := Lib.hid (rd_kept HR3.out hbs)
          have HR5 := Lib.hid (rd_kept hr5 hbs)
          have HBs := Lib.hid (HBr.out.trans (hbs.mono HBr.out.size))
          have hs0s := HBs.out.size
          replace BY := Lib.hid (BY.out.kept hbs)
          replace cY := BY.out.cell
          replace lY := BY.out.lt
          (try replace BG := Lib.hid (BG.out.kept hbs))
          (try replace cG := BG.out.cell)
          (try replace lG := BG.out.lt)
          clear hbs
          go_wp2_with fail
          refine (named_ok _ _ _ _ _ rl rfl hrl2 _ HR3.out HR5.out).mono ?_
          rintro e wz ⟨rfl, hbz⟩
          go_wp2_with fail
          go_ret
          exact ⟨by first | rfl | (simp; done), HBs.out.trans (hbz.mono HBs.out.size)⟩
end Go.Proofs.YtphlojgmfkgeiaaGreatDoor
