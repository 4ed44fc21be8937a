/- The law PermitReaches. -/
import Derived.Test.YtphlojgmfkgeiaaGreatDoorRQ
import Derived.Test.YtphlojgmfkgeiaaGreatDoorRO
import Derived.Test.YtphlojgmfkgeiaaGreatDoorLS
import Derived.Test.YtphlojgmfkgeiaaGreatDoorLC
import Derived.Test.YtphlojgmfkgeiaaGreatDoorXH
import Derived.Test.YtphlojgmfkgeiaaGreatDoorKn
import Derived.Deep.DeepCutAuto
import Derived.Deep.CutBlock
namespace Go.Proofs.YtphlojgmfkgeiaaGreatDoor
open Go.RowKit Go.Sort Go.Shelf
set_option linter.unusedSimpArgs false
set_option linter.unusedVariables false
attribute [local go_sem] cell_if frozen_if grow_cell
theorem sameI_self : ∀ l : List Int, sameI l l = true
  | [] => rfl
  | a :: r => by simp [sameI, sameI_self r]
theorem wrap_nat64 {n : Nat} (h : n ≤ 64) : IntKind.i64.wrap (n : Int) = (n : Int) := by
  rw [IntKind.wrap_i64]
  omega
theorem shl_ok {n : Nat} {s : Int} (h : s < 2 ^ n) : ¬ (2 : Int) ^ n ≤ s := by omega
set_option maxRecDepth 1000000 in
set_option maxHeartbeats 20000000 in
theorem reaches_law (A0 A1 A2 : Option Addr) (n0 n1 n2 c0 c1 c2 : Nat) (y : Yd) (gk gs nm : ByteArray) (w : World) (hY : YdAt w w.heap.size A0 A1 A2 n0 n1 n2 y) (h0 : n0 ≤ maxLen) (h1 : n1 ≤ maxLen) (h2 : n2 ≤ maxLen) (hW : Wide y) (hgs : gs.size ≤ maxLen) (hT : Tabs w) :
    Calls Tryz.prog 9 #[.agg #[.slice A0 n0 c0, .slice A1 n1 c1, .slice A2 n2 c2], .agg #[.string gk, .string gs], .string nm] w fun e w' => e = .returned (.bool true) ∧ Below w.heap.size w w' := by
  have HY := Lib.hid hY
  have HT := Lib.hid (fun W (hW : Below w.heap.size w W) => hT.kept hW)
  have HAw := Lib.hid (fun W (hW : Below w.heap.size w W) => awake_any W (hT.kept hW))
  have HSh := Lib.hid (fun W (hB : Below w.heap.size w W) => small_any A0 A1 A2 n0 n1 n2 c0 c1 c2 y W (yd_kept hY hB) h0 h1 h2 hW)
  have HSg := Lib.hid (fun W => ShortGoal_any gk gs W)
  have hl0 := (sec_at hY.hs).1
  have hl1 := (sw_at hY.hw).1
  have hl2 := (pm_at hY.hp).1
  have HF := Lib.hid (fun h => hW.fits (y := y) h)
  have HL0 := Lib.hid hl0
  have HL1 := Lib.hid hl1
  have HL2 := Lib.hid hl2
  clear hY hT h0 h1 h2 hW hl0 hl1 hl2
  cases hS : smallB y with
  | false =>
    rw [hS] at HSh
    clear hS
    go_enter Tryz.func9, Tryz.ntmps9
    go_wp2_with fail
    refine (HAw.out _ bl_).mono ?_
    (rintro e w1 ⟨rfl, hb1⟩; have hs1 := hb1.size; (try simp at hs1))
    have HB1 := Lib.hid (bl_ : Below w.heap.size w w1)
    have BY := Lib.hid (bk_ : Blk w1 w.heap.size 26 #[.slice A0 n0 c0, .slice A1 n1 c1, .slice A2 n2 c2])
    have BG := Lib.hid (bk_ : Blk w1 (w.heap.size + 1) 28 #[.string gk, .string gs])
    have cY := BY.out.cell
    have lY := BY.out.lt
    have cG := BG.out.cell
    have lG := BG.out.lt
    clear hb1
    go_wp2_with fail
    refine (HSh.out _ HB1.out).mono ?_
    (rintro e w2 ⟨rfl, hb2⟩; have hs2 := hb2.size; (try simp at hs2))
    have HB2 := Lib.hid (HB1.out.trans (hb2.mono HB1.out.size))
    have hs02 := HB2.out.size
    replace BY := Lib.hid (BY.out.kept hb2)
    replace cY := BY.out.cell
    replace lY := BY.out.lt
    (try replace BG := Lib.hid (BG.out.kept hb2))
    (try replace cG := BG.out.cell)
    (try replace lG := BG.out.lt)
    clear hb2
    go_wp2_with fail
    refine (HAw.out _ HB2.out).mono ?_
    rintro e wz ⟨rfl, hbz⟩
    go_wp2_with fail
    go_ret
    exact ⟨rfl, HB2.out.trans (hbz.mono HB2.out.size)⟩
  | true =>
    rw [hS] at HSh
    have hSS : shortY y = true ∧ smallY y = true ∧ yardE y = 0 := by
      unfold smallB at hS
      simp only [Bool.and_eq_true, beq_iff_eq] at hS
      exact ⟨hS.1.1, hS.1.2, hS.2⟩
    have hF := HF.out hSS.1
    have hyE := hSS.2.2
    have hn6 : n1 ≤ 6 := by
      have h := hSS.2.1
      unfold smallY at h
      simp only [Bool.and_eq_true, decide_eq_true_eq] at h
      rw [← HL1.out]
      exact h.2
    have f0 := hF.s9
    have f2 := hF.p9
    have g0 : n0 ≤ 9 := HL0.out ▸ f0
    have g2 : n2 ≤ 9 := HL2.out ▸ f2
    have HCG := Lib.hid (fun W (hW : Below w.heap.size w W) => rCheckGoal_any w.heap.size A0 A1 A2 n0 n1 n2 c0 c1 c2 y W (HY.out.below hW) hW.size g0 gk gs)
    cases hg : shortG gk gs with
    | false =>
      rw [hg] at HSg
      clear hS hSS HF hF hyE hg
      go_enter Tryz.func9, Tryz.ntmps9
      go_wp2_with fail
      refine (HAw.out _ bl_).mono ?_
      (rintro e w1 ⟨rfl, hb1⟩; have hs1 := hb1.size; (try simp at hs1))
      have HB1 := Lib.hid (bl_ : Below w.heap.size w w1)
      have BY := Lib.hid (bk_ : Blk w1 w.heap.size 26 #[.slice A0 n0 c0, .slice A1 n1 c1, .slice A2 n2 c2])
      have BG := Lib.hid (bk_ : Blk w1 (w.heap.size + 1) 28 #[.string gk, .string gs])
      have cY := BY.out.cell
      have lY := BY.out.lt
      have cG := BG.out.cell
      have lG := BG.out.lt
      clear hb1
      go_wp2_with fail
      refine (HSh.out _ HB1.out).mono ?_
      (rintro e w2 ⟨rfl, hb2⟩; have hs2 := hb2.size; (try simp at hs2))
      have HB2 := Lib.hid (HB1.out.trans (hb2.mono HB1.out.size))
      have hs02 := HB2.out.size
      replace BY := Lib.hid (BY.out.kept hb2)
      replace cY := BY.out.cell
      replace lY := BY.out.lt
      (try replace BG := Lib.hid (BG.out.kept hb2))
      (try replace cG := BG.out.cell)
      (try replace lG := BG.out.lt)
      clear hb2
      go_wp2_with fail
      refine (HSg.out _).mono ?_
      (rintro e w5 ⟨rfl, hb5⟩; have hs5 := hb5.size; (try simp at hs5))
      have HB5 := Lib.hid (HB2.out.trans (hb5.mono HB2.out.size))
      have hs05 := HB5.out.size
      replace BY := Lib.hid (BY.out.kept hb5)
      replace cY := BY.out.cell
      replace lY := BY.out.lt
      (try replace BG := Lib.hid (BG.out.kept hb5))
      (try replace cG := BG.out.cell)
      (try replace lG := BG.out.lt)
      clear hb5
      go_wp2_with fail
      refine (HAw.out _ HB5.out).mono ?_
      rintro e wz ⟨rfl, hbz⟩
      go_wp2_with fail
      go_ret
      exact ⟨rfl, HB5.out.trans (hbz.mono HB5.out.size)⟩
    | true =>
      rw [hg] at HSg
      cases hgz : (firstE [whenE (!goalB gk) 13, whenE (decide (secAtB y gs < 0)) 10] == 0) with
      | false =>
        have hne : firstE [whenE (!goalB gk) 13, whenE (decide (secAtB y gs < 0)) 10] ≠ 0 := by simpa using hgz
        generalize firstE [whenE (!goalB gk) 13, whenE (decide (secAtB y gs < 0)) 10] = ge at *
        clear hS hSS HF hF hyE hg hgz
        go_enter Tryz.func9, Tryz.ntmps9
        go_wp2_with fail
        refine (HAw.out _ bl_).mono ?_
        (rintro e w1 ⟨rfl, hb1⟩; have hs1 := hb1.size; (try simp at hs1))
        have HB1 := Lib.hid (bl_ : Below w.heap.size w w1)
        have BY := Lib.hid (bk_ : Blk w1 w.heap.size 26 #[.slice A0 n0 c0, .slice A1 n1 c1, .slice A2 n2 c2])
        have BG := Lib.hid (bk_ : Blk w1 (w.heap.size + 1) 28 #[.string gk, .string gs])
        have cY := BY.out.cell
        have lY := BY.out.lt
        have cG := BG.out.cell
        have lG := BG.out.lt
        clear hb1
        go_wp2_with fail
        refine (HSh.out _ HB1.out).mono ?_
        (rintro e w2 ⟨rfl, hb2⟩; have hs2 := hb2.size; (try simp at hs2))
        have HB2 := Lib.hid (HB1.out.trans (hb2.mono HB1.out.size))
        have hs02 := HB2.out.size
        replace BY := Lib.hid (BY.out.kept hb2)
        replace cY := BY.out.cell
        replace lY := BY.out.lt
        (try replace BG := Lib.hid (BG.out.kept hb2))
        (try replace cG := BG.out.cell)
        (try replace lG := BG.out.lt)
        clear hb2
        go_wp2_with fail
        refine (HSg.out _).mono ?_
        (rintro e w5 ⟨rfl, hb5⟩; have hs5 := hb5.size; (try simp at hs5))
        have HB5 := Lib.hid (HB2.out.trans (hb5.mono HB2.out.size))
        have hs05 := HB5.out.size
        replace BY := Lib.hid (BY.out.kept hb5)
        replace cY := BY.out.cell
        replace lY := BY.out.lt
        (try replace BG := Lib.hid (BG.out.kept hb5))
        (try replace cG := BG.out.cell)
        (try replace lG := BG.out.lt)
        clear hb5
        go_wp2_with fail
        refine (HCG.out _ HB5.out).mono ?_
        (rintro e w6 ⟨rfl, hb6⟩; have hs6 := hb6.size; (try simp at hs6))
        have HB6 := Lib.hid (HB5.out.trans (hb6.mono HB5.out.size))
        have hs06 := HB6.out.size
        replace BY := Lib.hid (BY.out.kept hb6)
        replace cY := BY.out.cell
        replace lY := BY.out.lt
        (try replace BG := Lib.hid (BG.out.kept hb6))
        (try replace cG := BG.out.cell)
        (try replace lG := BG.out.lt)
        clear hb6
        go_wp2_with fail
        refine (HAw.out _ HB6.out).mono ?_
        rintro e wz ⟨rfl, hbz⟩
        go_wp2_with fail
        go_ret
        exact ⟨rfl, HB6.out.trans (hbz.mono HB6.out.size)⟩
      | true =>
        have hge : firstE [whenE (!goalB gk) 13, whenE (decide (secAtB y gs < 0)) 10] = 0 := by simpa using hgz
        have hGE := goal_zero hyE hge
        rw [hge] at HCG
        by_cases h40 : nm.size ≤ 40
        case neg =>
          have h40' : (40 : Int) < (nm.size : Int) := by omega
          clear hS hSS HF hF hyE hg hgz hge hGE h40
          go_enter Tryz.func9, Tryz.ntmps9
          go_wp2_with fail
          refine (HAw.out _ bl_).mono ?_
          (rintro e w1 ⟨rfl, hb1⟩; have hs1 := hb1.size; (try simp at hs1))
          have HB1 := Lib.hid (bl_ : Below w.heap.size w w1)
          have BY := Lib.hid (bk_ : Blk w1 w.heap.size 26 #[.slice A0 n0 c0, .slice A1 n1 c1, .slice A2 n2 c2])
          have BG := Lib.hid (bk_ : Blk w1 (w.heap.size + 1) 28 #[.string gk, .string gs])
          have cY := BY.out.cell
          have lY := BY.out.lt
          have cG := BG.out.cell
          have lG := BG.out.lt
          clear hb1
          go_wp2_with fail
          refine (HSh.out _ HB1.out).mono ?_
          (rintro e w2 ⟨rfl, hb2⟩; have hs2 := hb2.size; (try simp at hs2))
          have HB2 := Lib.hid (HB1.out.trans (hb2.mono HB1.out.size))
          have hs02 := HB2.out.size
          replace BY := Lib.hid (BY.out.kept hb2)
          replace cY := BY.out.cell
          replace lY := BY.out.lt
          (try replace BG := Lib.hid (BG.out.kept hb2))
          (try replace cG := BG.out.cell)
          (try replace lG := BG.out.lt)
          clear hb2
          go_wp2_with fail
          refine (HSg.out _).mono ?_
          (rintro e w5 ⟨rfl, hb5⟩; have hs5 := hb5.size; (try simp at hs5))
          have HB5 := Lib.hid (HB2.out.trans (hb5.mono HB2.out.size))
          have hs05 := HB5.out.size
          replace BY := Lib.hid (BY.out.kept hb5)
          replace cY := BY.out.cell
          replace lY := BY.out.lt
          (try replace BG := Lib.hid (BG.out.kept hb5))
          (try replace cG := BG.out.cell)
          (try replace lG := BG.out.lt)
          clear hb5
          go_wp2_with fail
          refine (HCG.out _ HB5.out).mono ?_
          (rintro e w6 ⟨rfl, hb6⟩; have hs6 := hb6.size; (try simp at hs6))
          have HB6 := Lib.hid (HB5.out.trans (hb6.mono HB5.out.size))
          have hs06 := HB6.out.size
          replace BY := Lib.hid (BY.out.kept hb6)
          replace cY := BY.out.cell
          replace lY := BY.out.lt
          (try replace BG := Lib.hid (BG.out.kept hb6))
          (try replace cG := BG.out.cell)
          (try replace lG := BG.out.lt)
          clear hb6
          go_wp2_with fail
          refine (HAw.out _ HB6.out).mono ?_
          rintro e wz ⟨rfl, hbz⟩
          go_wp2_with fail
          go_ret
          exact ⟨rfl, HB6.out.trans (hbz.mono HB6.out.size)⟩
        case pos =>
          have h40' : ¬ (40 : Int) < (nm.size : Int) := by omega
          have hm40 : nm.size ≤ maxLen := by unfold maxLen; omega
          have HO := Lib.hid (fun W (hW : Below w.heap.size w W) => (own_any w.heap.size A0 A1 A2 n0 n1 n2 c0 c1 c2 y W (HY.out.below hW) hW.size (by omega) (by omega) (by omega)).mono fun _ _ h => h.sh)
          have HRe := Lib.hid (fun W D0 D1 D2 d0 d1 d2 (hy : YdAt W W.heap.size D0 D1 D2 y.s.length y.w.length y.p.length y) (hW : Below w.heap.size w W) => Reached_any W.heap.size D0 D1 D2 y.s.length y.w.length y.p.length d0 d1 d2 y W hy (Nat.le_refl _) (HT.out W hW) hF)
          have HSt := Lib.hid (fun W D0 D1 D2 d0 d1 d2 (hy : YdAt W W.heap.size D0 D1 D2 y.s.length y.w.length y.p.length y) (hW : Below w.heap.size w W) => State_any W.heap.size D0 D1 D2 y.s.length y.w.length y.p.length d0 d1 d2 y W hy (Nat.le_refl _) (HT.out W hW) hF)
          simp only [hyE, resI, if_true] at HRe HSt
          change Hid (∀ W D0 D1 D2 d0 d1 d2 hy hW, Calls _ _ _ W (IntsERes W (reachL y) 0)) at HRe
          change Hid (∀ W D0 D1 D2 d0 d1 d2 hy hW, Calls _ _ _ W (fun e w' => e = .returned (.tuple #[.int .i64 (y0 y), .int .i64 0]) ∧ Below W.heap.size W w')) at HSt
          have HWi := Lib.hid (fun s (hs : s ∈ reachB y) W D0 D1 D2 d0 d1 d2 (hy : YdAt W W.heap.size D0 D1 D2 y.s.length y.w.length y.p.length y) (hW : Below w.heap.size w W) => (show Calls _ _ _ W (YdU W 0 (y.at s)) from by
            have := (With_any W.heap.size D0 D1 D2 y.s.length y.w.length y.p.length d0 d1 d2 y W hy (Nat.le_refl _) (HT.out W hW) hF s).mono fun _ _ h => (YdERes.mv h).u
            rwa [with_reach hyE hs, okY_ok] at this))
          have HTa := Lib.hid (fun s W D0 D1 D2 d0 d1 d2 (hy : YdAt W W.heap.size D0 D1 D2 (y.at s).s.length (y.at s).w.length (y.at s).p.length (y.at s)) => (told_any W.heap.size D0 D1 D2 (y.at s).s.length (y.at s).w.length (y.at s).p.length d0 d1 d2 (y.at s) W hy (Nat.le_refl _) (by have := (fits_at hF s).s9; omega) (by have := (fits_at hF s).w9; omega) (by have := (fits_at hF s).p9; omega)).mono fun _ _ h => h.sh)
          have HOa := Lib.hid (fun s W D0 D1 D2 d0 d1 d2 (hy : YdAt W W.heap.size D0 D1 D2 (y.at s).s.length (y.at s).w.length (y.at s).p.length (y.at s)) => (own_any W.heap.size D0 D1 D2 (y.at s).s.length (y.at s).w.length (y.at s).p.length d0 d1 d2 (y.at s) W hy (Nat.le_refl _) (by have := (fits_at hF s).s9; omega) (by have := (fits_at hF s).w9; omega) (by have := (fits_at hF s).p9; omega)).mono fun _ _ h => h.sh)
          have HMa := Lib.hid (fun (s : Int) (hs : s ∈ reachB y) (j : Nat) (hj : j < y.w.length) (W : World) (D0 D1 D2 : Option Addr) (d0 d1 d2 : Nat) (hy : YdAt W W.heap.size D0 D1 D2 (y.at s).s.length (y.at s).w.length (y.at s).p.length (y.at s)) (hW : Below w.heap.size w W) => (show Calls _ _ #[_, .string y.w[j].n] W (YdU W (if freeS y s j then 0 else 21) (okY (if freeS y s j then 0 else 21) (y.at (nextS y s j)))) from by
            have := (Move_any W.heap.size D0 D1 D2 (y.at s).s.length (y.at s).w.length (y.at s).p.length d0 d1 d2 (y.at s) W hy (Nat.le_refl _) (HT.out W hW) (fits_at hF s) y.w[j].n).mono fun _ _ h => (YdERes.mv h).u
            obtain ⟨m1, m2⟩ := move_at hyE hs hj
            rwa [m1, m2, ← at_next] at this))
          have HSa := Lib.hid (fun s (hs : s ∈ reachB y) W D0 D1 D2 d0 d1 d2 (hy : YdAt W W.heap.size D0 D1 D2 (y.at s).s.length (y.at s).w.length (y.at s).p.length (y.at s)) (hW : Below w.heap.size w W) => (show Calls _ _ _ W (fun e w' => e = .returned (.tuple #[.int .i64 s, .int .i64 0]) ∧ Below W.heap.size W w') from by
            have := State_any W.heap.size D0 D1 D2 (y.at s).s.length (y.at s).w.length (y.at s).p.length d0 d1 d2 (y.at s) W hy (Nat.le_refl _) (HT.out W hW) (fits_at hF s)
            rw [reach_sound hyE s hs, if_pos rfl, state_here hs] at this
            exact this))
          have HOd := Lib.hid (fun W D0 D1 D2 d0 d1 d2 (hy : YdAt W W.heap.size D0 D1 D2 y.s.length y.w.length y.p.length y) (hW : Below w.heap.size w W) => Order_cap W.heap.size D0 D1 D2 y.s.length y.w.length y.p.length d0 d1 d2 y W hy (Nat.le_refl _) (HT.out W hW) hF gk gs hgs)
          have HBr := Lib.hid (fun W D0 D1 D2 d0 d1 d2 (hy : YdAt W W.heap.size D0 D1 D2 y.s.length y.w.length y.p.length y) (hW : Below w.heap.size w W) => Barrier_any W.heap.size D0 D1 D2 y.s.length y.w.length y.p.length d0 d1 d2 y W hy (Nat.le_refl _) (HT.out W hW) hF gk gs hgs)
          change Hid (∀ W D0 D1 D2 d0 d1 d2 hy hW, Calls _ _ _ W (WordsCRes W (olD y gk gs) (orderE y gk gs))) at HOd
          change Hid (∀ W D0 D1 D2 d0 d1 d2 hy hW, Calls _ _ _ W (IntsERes W (blD y gk gs) (barrE y gk gs))) at HBr
          have HOF := Lib.hid (ob_facts hGE)
          have HGM := Lib.hid (fun h => grant_more (nm := nm) (sc := gs) hF hm40 h)
          have HCO := Lib.hid (fun (l : List ByteArray) n A' c' W D0 D1 D2 d0 d1 d2 (hy : YdAt W W.heap.size D0 D1 D2 y.s.length y.w.length y.p.length y) (hr' : Reads W W.heap.size 1 A' n (l.map .string)) (hn : n ≤ 100000) (hW : Below w.heap.size w W) => CheckOrder_any W.heap.size D0 D1 D2 y.s.length y.w.length y.p.length d0 d1 d2 y W hy (Nat.le_refl _) (HT.out W hW) hF gk gs hgs A' n c' l hr' hn)
          have HCB := Lib.hid (fun (l : List Int) n A' c' W D0 D1 D2 d0 d1 d2 (hy : YdAt W W.heap.size D0 D1 D2 y.s.length y.w.length y.p.length y) (hr' : Reads W W.heap.size 1 A' n (l.map (.int .i64))) (hn : n ≤ maxLen) (hW : Below w.heap.size w W) => CheckBarrier_any W.heap.size D0 D1 D2 y.s.length y.w.length y.p.length d0 d1 d2 y W hy (Nat.le_refl _) (HT.out W hW) hF gk gs hgs A' n c' l hr' hn)
          have HGr := Lib.hid (fun W D0 D1 D2 d0 d1 d2 (hy : YdAt W W.heap.size D0 D1 D2 y.s.length y.w.length y.p.length y) (hW : Below w.heap.size w W) => (Grant_any W.heap.size D0 D1 D2 y.s.length y.w.length y.p.length d0 d1 d2 y W hy (Nat.le_refl _) (HT.out W hW) hF nm gs hm40 hgs).mono fun _ _ h => (YdERes.mv h).u)
          have HPy := Lib.hid (And.intro hyE (And.intro hF hGE))
          have hR64 : (reachL y).length ≤ 64 := by
            have h1 := reachL_len y
            have h2 : 2 ^ y.w.length ≤ 2 ^ 6 := Nat.pow_le_pow_right (by decide) (by rw [HL1.out]; exact hn6)
            omega
          have hR64' : ¬ (64 : Int) < ((reachL y).length : Int) := by omega
          have HN := Lib.hid (fun i (hi : i < (reachL y).length) => reach_nth hyE hi)
          have HNx := Lib.hid (fun i (h0 : 0 < i) (hi : i < (reachL y).length) => reach_next h0 hi)
          have hy0 := (hasI_iff _ _).2 (y0_reachL y)
          have hp9 := pow9 (k := n1) (by omega)
          clear hS hSS HF hF hyE hg hgz hge hGE h40 hm40
          as_aux_lemma =>
            go_enter Tryz.func9, Tryz.ntmps9
            go_wp2_with fail
            refine (HAw.out _ bl_).mono ?_
            (rintro e w1 ⟨rfl, hb1⟩; have hs1 := hb1.size; (try simp at hs1))
            have HB1 := Lib.hid (bl_ : Below w.heap.size w w1)
            have BY := Lib.hid (bk_ : Blk w1 w.heap.size 26 #[.slice A0 n0 c0, .slice A1 n1 c1, .slice A2 n2 c2])
            have BG := Lib.hid (bk_ : Blk w1 (w.heap.size + 1) 28 #[.string gk, .string gs])
            have cY := BY.out.cell
            have lY := BY.out.lt
            have cG := BG.out.cell
            have lG := BG.out.lt
            clear hb1
            go_wp2_with fail
            refine (HSh.out _ HB1.out).mono ?_
            (rintro e w2 ⟨rfl, hb2⟩; have hs2 := hb2.size; (try simp at hs2))
            have HB2 := Lib.hid (HB1.out.trans (hb2.mono HB1.out.size))
            have hs02 := HB2.out.size
            replace BY := Lib.hid (BY.out.kept hb2)
            replace cY := BY.out.cell
            replace lY := BY.out.lt
            (try replace BG := Lib.hid (BG.out.kept hb2))
            (try replace cG := BG.out.cell)
            (try replace lG := BG.out.lt)
            clear hb2
            go_wp2_with fail
            refine (HSg.out _).mono ?_
            (rintro e w5 ⟨rfl, hb5⟩; have hs5 := hb5.size; (try simp at hs5))
            have HB5 := Lib.hid (HB2.out.trans (hb5.mono HB2.out.size))
            have hs05 := HB5.out.size
            replace BY := Lib.hid (BY.out.kept hb5)
            replace cY := BY.out.cell
            replace lY := BY.out.lt
            (try replace BG := Lib.hid (BG.out.kept hb5))
            (try replace cG := BG.out.cell)
            (try replace lG := BG.out.lt)
            clear hb5
            go_wp2_with fail
            refine (HCG.out _ HB5.out).mono ?_
            (rintro e w6 ⟨rfl, hb6⟩; have hs6 := hb6.size; (try simp at hs6))
            have HB6 := Lib.hid (HB5.out.trans (hb6.mono HB5.out.size))
            have hs06 := HB6.out.size
            replace BY := Lib.hid (BY.out.kept hb6)
            replace cY := BY.out.cell
            replace lY := BY.out.lt
            (try replace BG := Lib.hid (BG.out.kept hb6))
            (try replace cG := BG.out.cell)
            (try replace lG := BG.out.lt)
            clear hb6
            go_wp2_with fail
            refine (HO.out _ HB6.out).mono ?_
            rintro e w7 ⟨D0, D1, D2, d0, d1, d2, rfl, hyd, hb7⟩
            have hs7 := hb7.size
            have HYa := Lib.hid hyd
            (try replace HR7 := Lib.hid (rd_kept HR7.out hb7))
            clear hyd
            have HB7 := Lib.hid (HB6.out.trans (hb7.mono HB6.out.size))
            have hs07 := HB7.out.size
            replace BY := Lib.hid (BY.out.kept hb7)
            replace cY := BY.out.cell
            replace lY := BY.out.lt
            (try replace BG := Lib.hid (BG.out.kept hb7))
            (try replace cG := BG.out.cell)
            (try replace lG := BG.out.lt)
            clear hb7
            go_wp2_with fail
            refine (HRe.out _ _ _ _ _ _ _ HYa.out HB7.out).mono ?_
            rintro e w8 ⟨A7, c7, rfl, hr7, hb8⟩
            have hs8 := hb8.size
            (try replace HR7 := Lib.hid (rd_kept HR7.out hb8))
            have HB8 := Lib.hid (HB7.out.trans (hb8.mono HB7.out.size))
            have hs08 := HB8.out.size
            replace BY := Lib.hid (BY.out.kept hb8)
            replace cY := BY.out.cell
            replace lY := BY.out.lt
            (try replace BG := Lib.hid (BG.out.kept hb8))
            (try replace cG := BG.out.cell)
            (try replace lG := BG.out.lt)
            clear hb8
            clear HYa
            have HR7 := Lib.hid hr7
            clear hr7
            go_wp2_with fail
            refine (HO.out _ HB8.out).mono ?_
            rintro e w9 ⟨D0, D1, D2, d0, d1, d2, rfl, hyd, hb9⟩
            have hs9 := hb9.size
            have HYa := Lib.hid hyd
            (try replace HR7 := Lib.hid (rd_kept HR7.out hb9))
            clear hyd
            have HB9 := Lib.hid (HB8.out.trans (hb9.mono HB8.out.size))
            have hs09 := HB9.out.size
            replace BY := Lib.hid (BY.out.kept hb9)
            replace cY := BY.out.cell
            replace lY := BY.out.lt
            (try replace BG := Lib.hid (BG.out.kept hb9))
            (try replace cG := BG.out.cell)
            (try replace lG := BG.out.lt)
            clear hb9
            go_wp2_with fail
            refine (HSt.out _ _ _ _ _ _ _ HYa.out HB9.out).mono ?_
            rintro e w10 ⟨rfl, hb10⟩
            have hs10 := hb10.size
            (try replace HR7 := Lib.hid (rd_kept HR7.out hb10))
            have HB10 := Lib.hid (HB9.out.trans (hb10.mono HB9.out.size))
            have hs010 := HB10.out.size
            replace BY := Lib.hid (BY.out.kept hb10)
            replace cY := BY.out.cell
            replace lY := BY.out.lt
            (try replace BG := Lib.hid (BG.out.kept hb10))
            (try replace cG := BG.out.cell)
            (try replace lG := BG.out.lt)
            clear hb10
            clear HYa
            have HHi := Lib.hid (HasInt_any _ A7 _ c7 (reachL y) (y0 y) w10 HR7.out (by unfold maxLen; omega))
            rw [hy0] at HHi
            have HK := Lib.hid (⟨HR7.out, BY.out, BG.out, HB10.out⟩ : ReK w y A0 A1 A2 n0 n1 n2 c0 c1 c2 gk gs A7 w10)
            go_wp2_with fail
            refine HHi.out.mono ?_
            rintro e w' ⟨rfl, rfl⟩
            clear cG lG BY BG HR7 HHi HB1 HB2 HB5 HB6 HB7 HB8 HB9 HB10 HSh HSg HCG HAw hy0 HRe HSt h40'
            go_upto_block 0 with fail
            go_cut [] (fun wx => Below w10.heap.size w10 wx)
            case first =>
              as_aux_lemma =>
                clear cY lY
                go_wp2_with fail
                go_loopw [86] (fun i W => ∃ k : Nat, k ≤ (reachL y).length ∧ i = .int .i64 k ∧ Below w10.heap.size w10 W) (fun i _ => (reachL y).length - (intOf i).toNat)
                case atStart => exact ⟨0, by omega, rfl, Below.refl _ _⟩
                case round =>
                  rename World => wr
                  obtain ⟨k, hk, rfl, hb⟩ := hrel
                  have hsr := hb.size
                  have HKr := Lib.hid (HK.out.kept hb)
                  have HBr := Lib.hid hb
                  clear HK hb
                  have cY := HKr.out.box.cell
                  have lY := HKr.out.box.lt
                  by_cases hlt : k < (reachL y).length
                  · skip
                    as_aux_lemma =>
                      obtain ⟨b, o, u, rfl, hbb, hu, hc⟩ := HKr.out.rd.at_ hlt
                      obtain rfl : u = .int .i64 (reachL y)[k] := by simpa [hlt] using hu.symm
                      obtain ⟨hs, z0, z1, _⟩ := HN.out k hlt
                      have HPV : Hid (0 < k → ∃ t, wr.cell? ⟨b, o + (k - 1), none⟩ = some (.int .i64 t) ∧ t < (reachL y)[k]) := Lib.hid (fun h0 => by
                        obtain ⟨b', o', u', e', _, hu', hc'⟩ := HKr.out.rd.at_ (show k - 1 < (reachL y).length by omega)
                        cases e'
                        obtain rfl : u' = .int .i64 (reachL y)[k - 1] := by
                          rw [List.getElem?_map, List.getElem?_eq_getElem (by omega)] at hu'
                          simpa using hu'.symm
                        exact ⟨_, hc', HNx.out k h0 hlt⟩)
                      rw [HL1.out] at z1
                      clear hu
                      generalize (reachL y)[k] = s at *
                      have HS := Lib.hid hs
                      clear hs
                      go_upto_region 10 with fail
                      go_cut [113] (fun v W => v = .bool false ∧ W = wr)
                      case first =>
                        as_aux_lemma =>
                          have z0' : ¬ s < 0 := by omega
                          have z1' := shl_ok z1
                          obtain ⟨hp1, hp2⟩ := hp9
                          cases k with
                          | zero =>
                            go_wp2_with fail
                            go_meet
                            case rel => exact ⟨by first | rfl | (simp; done), rfl⟩
                          | succ m =>
                            obtain ⟨t, ht, hts⟩ := HPV.out (by omega)
                            rw [show m + 1 - 1 = m by omega] at ht
                            have hts' : ¬ s ≤ t := by omega
                            go_wp2_with fail
                            go_meet
                            case rel => exact ⟨by first | rfl | (simp; done), rfl⟩
                      obtain ⟨rfl, rfl⟩ := hcut
                      rename World => wr
                      clear z0 z1 HPV
                      as_aux_lemma =>
                        go_wp2_with fail
                        refine (HO.out _ HKr.out.low).mono ?_
                        rintro e wa ⟨D0, D1, D2, d0, d1, d2, rfl, hyd, hba⟩
                        have hsa := hba.size
                        have HYa := Lib.hid hyd
                        clear hyd cY lY hc
                        go_wp2_with fail
                        refine (HWi.out s HS.out _ _ _ _ _ _ _ HYa.out (HKr.out.low.trans (hba.mono HKr.out.low.size))).mono ?_
                        rintro e wb ⟨E0, E1, E2, e0, e1, e2, rfl, hst, hbb2⟩
                        have hsb := hbb2.size
                        have HKb := Lib.hid (HKr.out.kept (below_trans hba hbb2))
                        have HYb := Lib.hid (hst [] (fun x hx => by cases hx) _ (Ex.refl _ _))
                        have cY := HKb.out.box.cell
                        have lY := HKb.out.box.lt
                        clear hst HYa
                        go_upto_block 2 with fail
                        have hbc : Below wb.heap.size wb (wb.alloc (.cells #[.slice E0 (y.at s).s.length e0, .slice E1 (y.at s).w.length e1, .slice E2 (y.at s).p.length e2] 41)) := (Below.refl _ wb).alloc (Nat.le_refl _) _
                        have hB13 := (Blk.new wb 41 #[.slice E0 (y.at s).s.length e0, .slice E1 (y.at s).w.length e1, .slice E2 (y.at s).p.length e2])
                        generalize (wb.alloc (.cells #[.slice E0 (y.at s).s.length e0, .slice E1 (y.at s).w.length e1, .slice E2 (y.at s).p.length e2] 41)) = wc at *
                        have HKc := Lib.hid (HKb.out.kept hbc)
                        have HYc := Lib.hid (yd_kept HYb.out hbc)
                        have HB13 := Lib.hid hB13
                        have HRC := Lib.hid (below_trans hba (below_trans hbb2 hbc))
                        clear hB13 HYb HKb cY lY hba hbb2 hbc
                        as_aux_lemma =>
                          go_wp2_with fail
                          go_loopw [126] (fun i W => ∃ m : Nat, m ≤ n1 ∧ i = .int .i64 m ∧ Below wc.heap.size wc W) (fun i _ => n1 - (intOf i).toNat)
                          case atStart => exact ⟨0, by omega, rfl, Below.refl _ _⟩
                          case round =>
                            rename World => wd
                            obtain ⟨m, hm, rfl, hbd⟩ := hrel
                            have hsd := hbd.size
                            have HKd := Lib.hid (HKc.out.kept hbd)
                            have HBd := Lib.hid hbd
                            by_cases hmn : m < n1
                            · skip
                              as_aux_lemma =>
                                have hmw : m < y.w.length := by rw [HL1.out]; exact hmn
                                obtain ⟨b5, o5, eA1, hb5, q0, q1, q2, q3, q4⟩ := (sw_at HY.out.hw).2 m hmw
                                have hs5 := HKd.out.low.size
                                rw [← HKd.out.low.cell (p := ⟨b5, o5 + m * 5, none⟩) hb5] at q0
                                rw [← HKd.out.low.cell (p := ⟨b5, o5 + m * 5 + 1, none⟩) hb5] at q1
                                rw [← HKd.out.low.cell (p := ⟨b5, o5 + m * 5 + 2, none⟩) hb5] at q2
                                rw [← HKd.out.low.cell (p := ⟨b5, o5 + m * 5 + 3, none⟩) hb5] at q3
                                rw [← HKd.out.low.cell (p := ⟨b5, o5 + m * 5 + 4, none⟩) hb5] at q4
                                have hb5w : b5 < wd.heap.size := by omega
                                have HMz := Lib.hid (fun W D0 D1 D2 d0 d1 d2 hy hW => HMa.out s HS.out m hmw W D0 D1 D2 d0 d1 d2 hy hW)
                                have HFr : Hid ((freeS y s m = true → nextS y s m ∈ reachB y)) := Lib.hid (fun h => free_next HS.out hmw h)
                                generalize y.w[m] = x at *
                                obtain ⟨xn, xk, xa, xb, xc⟩ := x
                                dsimp only at q0 q1 q2 q3 q4 HMz
                                have HEZ : Hid (((if freeS y s m then (0 : Int) else 21) = 0 ∧ okY (if freeS y s m then 0 else 21) (y.at (nextS y s m)) = y.at (nextS y s m) ∧ nextS y s m ∈ reachB y) ∨ (if freeS y s m then (0 : Int) else 21) = 21) := Lib.hid (by
                                  cases hf : freeS y s m with
                                  | true => exact .inl ⟨rfl, okY_ok _, HFr.out hf⟩
                                  | false => exact .inr rfl)
                                generalize okY (if freeS y s m then 0 else 21) (y.at (nextS y s m)) = zb at *
                                generalize (if freeS y s m then (0 : Int) else 21) = e2 at *
                                generalize nextS y s m = t at *
                                subst eA1
                                clear HFr
                                have d13 := HB13.out.kept hbd
                                have c13 := d13.cell
                                have l13 := d13.lt
                                clear d13
                                go_upto_region 18 with fail
                                have hbe : Below wd.heap.size wd (wd.alloc (.cells #[.string xn, .string xk, .int .i64 xa, .int .i64 xb, .bool xc] 68)) := (Below.refl _ wd).alloc (Nat.le_refl _) _
                                have hB16 := (Blk.new wd 68 #[.string xn, .string xk, .int .i64 xa, .int .i64 xb, .bool xc])
                                have hse : (wd.alloc (.cells #[.string xn, .string xk, .int .i64 xa, .int .i64 xb, .bool xc] 68)).heap.size = wd.heap.size + 1 := by simp
                                generalize (wd.alloc (.cells #[.string xn, .string xk, .int .i64 xa, .int .i64 xb, .bool xc] 68)) = we at *
                                have HIx := Lib.hid (HKd.out.kept hbe)
                                have HCE := Lib.hid (below_trans hbd hbe)
                                have HYd := Lib.hid (yd_kept HYc.out HCE.out)
                                have HTz := Lib.hid (HTa.out s)
                                have HOy := Lib.hid (HOa.out s)
                                clear c13 l13 q0 q1 q2 q3 q4 hbe
                                have c13 := (HB13.out.kept HCE.out).cell
                                have l13 := (HB13.out.kept HCE.out).lt
                                have c16 := hB16.cell
                                have l16 := hB16.lt
                                clear hB16
                                as_aux_lemma =>
                                  go_cut [17, 18] (fun s21 s22 wx => ∃ (b : Nat) (G0 G1 G2 : Option Addr) (g0 g1 g2 : Nat), s21 = .pointer (some ⟨b, 0, none⟩) ∧ s22 = .int .i64 e2 ∧ Blk wx b 41 #[.slice G0 zb.s.length g0, .slice G1 zb.w.length g1, .slice G2 zb.p.length g2] ∧ YdAt wx wx.heap.size G0 G1 G2 zb.s.length zb.w.length zb.p.length zb ∧ Below we.heap.size we wx)
                                  case first =>
                                    as_aux_lemma =>
                                      have HP := Lib.hid (Below.refl we.heap.size we)
                                      (refine wp_region_calm [] [0, 3, 4] 9 (by kernel_rfl) rfl (by kernel_rfl) (by kernel_rfl) (by kernel_rfl) ?_; simp only [pickB, List.filterMap_cons, List.filterMap_nil, List.getElem?_toArray, List.getElem?_cons_zero, List.getElem?_cons_succ]; (repeat (first | ((with_reducible refine quietL_plain rfl (fun K hK => ?_)); (apply Exists.intro; refine ⟨fun wx hx => ?_, ?_⟩; (· (have hcx := ifs_ex hx); simp [go_sem, *, ↓IntWalk.iteOmega] <;> (first | rfl | exact ⟨rfl, rfl⟩ | fail)); (simp only [Act.put, List.setIfInBounds_toArray, List.set_cons_zero, List.set_cons_succ]; refine hK _ ?_; clear hK K))) | ((with_reducible refine quietL_skip (by with_unfolding_all rfl) ?_); simp only [Act.put, List.setIfInBounds_toArray, List.set_cons_zero, List.set_cons_succ]) | ((with_reducible refine quietL_want (by with_unfolding_all rfl) (fun K hK => ?_)); (apply Exists.intro; refine ⟨fun wx hx => ?_, ?_⟩; (· (have hcx := ifs_ex hx); simp [go_sem, *, ↓IntWalk.iteOmega] <;> (first | rfl | exact ⟨rfl, rfl⟩ | fail)); (simp only [Act.put, List.setIfInBounds_toArray, List.set_cons_zero, List.set_cons_succ]; refine hK _ ?_; clear hK K))))); refine quietL_nil ?_)
                                      refine anyB_two (i := 1) (j := 9) (by kernel_rfl) rfl rfl rfl rfl ?_ ?_
                                      · skip
                                        intro wa hba K hK
                                        have hsa := hba.size
                                        (try simp at hsa)
                                        replace HP := Lib.hid (HP.out.trans (hba.mono HP.out.size))
                                        (try replace BB := Lib.hid (BB.out.kept hba))
                                        (try replace HYz := Lib.hid (yd_kept HYz.out hba))
                                        go_wp2_with fail
                                        refine (HTz.out _ _ _ _ _ _ _ (yd_kept HYd.out HP.out)).mono ?_
                                        rintro e wb ⟨F0b, F1b, F2b, f0b, f1b, f2b, rfl, hyd, hbb⟩
                                        have hsb := hbb.size
                                        have HYt := Lib.hid hyd
                                        replace HP := Lib.hid (HP.out.trans (hbb.mono HP.out.size))
                                        (try replace BB := Lib.hid (BB.out.kept hbb))
                                        clear hyd
                                        go_wp2
                                        refine ⟨xs_, ?_⟩
                                        refine anyB_two (i := 2) (j := 9) (by kernel_rfl) rfl rfl rfl rfl ?_ ?_
                                        · skip
                                          intro wc hbc K hK
                                          have hsc := hbc.size
                                          (try simp at hsc)
                                          replace HP := Lib.hid (HP.out.trans (hbc.mono HP.out.size))
                                          (try replace BB := Lib.hid (BB.out.kept hbc))
                                          (try replace HYt := Lib.hid (yd_kept HYt.out hbc))
                                          go_wp2_with fail
                                          refine (HOy.out _ _ _ _ _ _ _ HYt.out).mono ?_
                                          rintro e wd ⟨F0d, F1d, F2d, f0d, f1d, f2d, rfl, hyd, hbd⟩
                                          have hsd := hbd.size
                                          have HYo := Lib.hid hyd
                                          replace HP := Lib.hid (HP.out.trans (hbd.mono HP.out.size))
                                          (try replace BB := Lib.hid (BB.out.kept hbd))
                                          clear hyd
                                          go_wp2
                                          refine ⟨xs_, ?_⟩
                                          refine anyB_two (i := 5) (j := 9) (by kernel_rfl) rfl rfl rfl rfl ?_ ?_
                                          · skip
                                            intro we hbe K hK
                                            have hse := hbe.size
                                            (try simp at hse)
                                            replace HP := Lib.hid (HP.out.trans (hbe.mono HP.out.size))
                                            (try replace BB := Lib.hid (BB.out.kept hbe))
                                            (try replace HYo := Lib.hid (yd_kept HYo.out hbe))
                                            go_wp2_with fail
                                            refine (HMz.out _ _ _ _ _ _ _ HYo.out (HIx.out.low.trans (HP.out.mono HIx.out.low.size))).mono ?_
                                            rintro e wf ⟨F0f, F1f, F2f, f0f, f1f, f2f, rfl, hyd, hbf⟩
                                            have hsf := hbf.size
                                            have HYm := Lib.hid hyd
                                            replace HP := Lib.hid (HP.out.trans (hbf.mono HP.out.size))
                                            (try replace BB := Lib.hid (BB.out.kept hbf))
                                            clear hyd
                                            go_wp2
                                            refine ⟨xs_, ?_⟩
                                            (refine anyB_quiet_at (by kernel_rfl) calm_panic xs_ 3 [6, 7, 8] _ _ (by kernel_rfl) (by decide +kernel) ?_; simp only [pickB, List.filterMap_cons, List.filterMap_nil, List.getElem?_toArray, List.getElem?_cons_zero, List.getElem?_cons_succ]; (repeat ((with_reducible refine quietL_plain rfl (fun K hK => ?_)); (apply Exists.intro; refine ⟨fun wx hx => ?_, ?_⟩; (· (have hcx := ifs_ex hx); simp [go_sem, *, ↓IntWalk.iteOmega] <;> (first | rfl | exact ⟨rfl, rfl⟩ | fail)); (simp only [Act.put, List.setIfInBounds_toArray, List.set_cons_zero, List.set_cons_succ]; refine hK _ ?_; clear hK K)))); refine quietL_nil ?_)
                                            refine anyB_one (i := 9) (by kernel_rfl) rfl rfl ?_
                                            intro wh hbh K hK
                                            have hsh := hbh.size
                                            (try simp at hsh)
                                            replace HP := Lib.hid (HP.out.trans (hbh.mono HP.out.size))
                                            replace HP := Lib.hid (HP.out.alloc HP.out.size (.cells #[.slice none 0 0, .slice none 0 0, .slice none 0 0] 41))
                                            have BB := Lib.hid (Blk.new wh 41 #[.slice none 0 0, .slice none 0 0, .slice none 0 0])
                                            (try replace HYt := Lib.hid (yd_kept (yd_kept HYt.out hbh) ((Below.refl _ wh).alloc (Nat.le_refl _) (.cells #[.slice none 0 0, .slice none 0 0, .slice none 0 0] 41))))
                                            (try replace HYo := Lib.hid (yd_kept (yd_kept HYo.out hbh) ((Below.refl _ wh).alloc (Nat.le_refl _) (.cells #[.slice none 0 0, .slice none 0 0, .slice none 0 0] 41))))
                                            go_wp2
                                            refine ⟨xs_, ?_⟩
                                            refine anyB_one (i := 10) (by kernel_rfl) rfl rfl ?_
                                            intro wi hbi K hK
                                            have hsi := hbi.size
                                            (try simp at hsi)
                                            replace HP := Lib.hid (HP.out.trans (hbi.mono HP.out.size))
                                            replace BB := Lib.hid (BB.out.kept hbi)
                                            have HZ := Lib.hid (HYm.out [wh.heap.size] (fun x hx => by simp at hx; subst hx; first | (left; omega) | (right; omega)))
                                            have cB := BB.out.cell
                                            have fB := BB.out.frozen
                                            have lB := BB.out.lt
                                            go_wp2
                                            refine ⟨xs_, ?_⟩
                                            replace BB := Lib.hid (BB.out.set3 (.slice F0f zb.s.length f0f) (.slice F1f zb.w.length f1f) (.slice F2f zb.p.length f2f))
                                            replace HP := Lib.hid (below_set3 HP.out (show _ ≤ wh.heap.size by omega) (.slice F0f zb.s.length f0f) (.slice F1f zb.w.length f1f) (.slice F2f zb.p.length f2f))
                                            clear cB fB lB HYm
                                            refine anyB_one (i := 11) (by kernel_rfl) rfl rfl ?_
                                            intro wj hbj K hK
                                            have hsj := hbj.size
                                            (try simp at hsj)
                                            go_wp2
                                            refine ⟨xs_, ?_⟩
                                            refine anyB_end (by kernel_rfl) ?_
                                            intro wk hbk
                                            have hsk := hbk.size
                                            simp only [Calm]
                                            replace HP := Lib.hid (HP.out.trans (hbj.mono HP.out.size))
                                            replace HP := Lib.hid (HP.out.trans (hbk.mono HP.out.size))
                                            replace BB := Lib.hid ((BB.out.kept hbj).kept hbk)
                                            have HZk := Lib.hid (HZ.out _ (xs_ : Ex [wh.heap.size] wf wk))
                                            clear HZ
                                            go_wp2_with fail
                                            go_meet
                                            case rel => exact ⟨wh.heap.size, F0f, F1f, F2f, f0f, f1f, f2f, rfl, rfl, BB.out, HZk.out, HP.out⟩
                                          · skip
                                            intro wh hbh K hK
                                            have hsh := hbh.size
                                            (try simp at hsh)
                                            replace HP := Lib.hid (HP.out.trans (hbh.mono HP.out.size))
                                            replace HP := Lib.hid (HP.out.alloc HP.out.size (.cells #[.slice none 0 0, .slice none 0 0, .slice none 0 0] 41))
                                            have BB := Lib.hid (Blk.new wh 41 #[.slice none 0 0, .slice none 0 0, .slice none 0 0])
                                            (try replace HYt := Lib.hid (yd_kept (yd_kept HYt.out hbh) ((Below.refl _ wh).alloc (Nat.le_refl _) (.cells #[.slice none 0 0, .slice none 0 0, .slice none 0 0] 41))))
                                            (try replace HYo := Lib.hid (yd_kept (yd_kept HYo.out hbh) ((Below.refl _ wh).alloc (Nat.le_refl _) (.cells #[.slice none 0 0, .slice none 0 0, .slice none 0 0] 41))))
                                            go_wp2
                                            refine ⟨xs_, ?_⟩
                                            refine anyB_one (i := 5) (by kernel_rfl) rfl rfl ?_
                                            intro we hbe K hK
                                            have hse := hbe.size
                                            (try simp at hse)
                                            replace HP := Lib.hid (HP.out.trans (hbe.mono HP.out.size))
                                            (try replace BB := Lib.hid (BB.out.kept hbe))
                                            (try replace HYo := Lib.hid (yd_kept HYo.out hbe))
                                            go_wp2_with fail
                                            refine (HMz.out _ _ _ _ _ _ _ HYo.out (HIx.out.low.trans (HP.out.mono HIx.out.low.size))).mono ?_
                                            rintro e wf ⟨F0f, F1f, F2f, f0f, f1f, f2f, rfl, hyd, hbf⟩
                                            have hsf := hbf.size
                                            have HYm := Lib.hid hyd
                                            replace HP := Lib.hid (HP.out.trans (hbf.mono HP.out.size))
                                            (try replace BB := Lib.hid (BB.out.kept hbf))
                                            clear hyd
                                            go_wp2
                                            refine ⟨xs_, ?_⟩
                                            (refine anyB_quiet_at (by kernel_rfl) calm_panic xs_ 2 [6, 7, 8] _ _ (by kernel_rfl) (by decide +kernel) ?_; simp only [pickB, List.filterMap_cons, List.filterMap_nil, List.getElem?_toArray, List.getElem?_cons_zero, List.getElem?_cons_succ]; (repeat ((with_reducible refine quietL_plain rfl (fun K hK => ?_)); (apply Exists.intro; refine ⟨fun wx hx => ?_, ?_⟩; (· (have hcx := ifs_ex hx); simp [go_sem, *, ↓IntWalk.iteOmega] <;> (first | rfl | exact ⟨rfl, rfl⟩ | fail)); (simp only [Act.put, List.setIfInBounds_toArray, List.set_cons_zero, List.set_cons_succ]; refine hK _ ?_; clear hK K)))); refine quietL_nil ?_)
                                            refine anyB_one (i := 10) (by kernel_rfl) rfl rfl ?_
                                            intro wi hbi K hK
                                            have hsi := hbi.size
                                            (try simp at hsi)
                                            replace HP := Lib.hid (HP.out.trans (hbi.mono HP.out.size))
                                            replace BB := Lib.hid (BB.out.kept hbi)
                                            have HZ := Lib.hid (HYm.out [wh.heap.size] (fun x hx => by simp at hx; subst hx; first | (left; omega) | (right; omega)))
                                            have cB := BB.out.cell
                                            have fB := BB.out.frozen
                                            have lB := BB.out.lt
                                            go_wp2
                                            refine ⟨xs_, ?_⟩
                                            replace BB := Lib.hid (BB.out.set3 (.slice F0f zb.s.length f0f) (.slice F1f zb.w.length f1f) (.slice F2f zb.p.length f2f))
                                            replace HP := Lib.hid (below_set3 HP.out (show _ ≤ wh.heap.size by omega) (.slice F0f zb.s.length f0f) (.slice F1f zb.w.length f1f) (.slice F2f zb.p.length f2f))
                                            clear cB fB lB HYm
                                            refine anyB_one (i := 11) (by kernel_rfl) rfl rfl ?_
                                            intro wj hbj K hK
                                            have hsj := hbj.size
                                            (try simp at hsj)
                                            go_wp2
                                            refine ⟨xs_, ?_⟩
                                            refine anyB_end (by kernel_rfl) ?_
                                            intro wk hbk
                                            have hsk := hbk.size
                                            simp only [Calm]
                                            replace HP := Lib.hid (HP.out.trans (hbj.mono HP.out.size))
                                            replace HP := Lib.hid (HP.out.trans (hbk.mono HP.out.size))
                                            replace BB := Lib.hid ((BB.out.kept hbj).kept hbk)
                                            have HZk := Lib.hid (HZ.out _ (xs_ : Ex [wh.heap.size] wf wk))
                                            clear HZ
                                            go_wp2_with fail
                                            go_meet
                                            case rel => exact ⟨wh.heap.size, F0f, F1f, F2f, f0f, f1f, f2f, rfl, rfl, BB.out, HZk.out, HP.out⟩
                                        · skip
                                          intro wh hbh K hK
                                          have hsh := hbh.size
                                          (try simp at hsh)
                                          replace HP := Lib.hid (HP.out.trans (hbh.mono HP.out.size))
                                          replace HP := Lib.hid (HP.out.alloc HP.out.size (.cells #[.slice none 0 0, .slice none 0 0, .slice none 0 0] 41))
                                          have BB := Lib.hid (Blk.new wh 41 #[.slice none 0 0, .slice none 0 0, .slice none 0 0])
                                          (try replace HYt := Lib.hid (yd_kept (yd_kept HYt.out hbh) ((Below.refl _ wh).alloc (Nat.le_refl _) (.cells #[.slice none 0 0, .slice none 0 0, .slice none 0 0] 41))))
                                          (try replace HYo := Lib.hid (yd_kept (yd_kept HYo.out hbh) ((Below.refl _ wh).alloc (Nat.le_refl _) (.cells #[.slice none 0 0, .slice none 0 0, .slice none 0 0] 41))))
                                          go_wp2
                                          refine ⟨xs_, ?_⟩
                                          refine anyB_one (i := 2) (by kernel_rfl) rfl rfl ?_
                                          intro wc hbc K hK
                                          have hsc := hbc.size
                                          (try simp at hsc)
                                          replace HP := Lib.hid (HP.out.trans (hbc.mono HP.out.size))
                                          (try replace BB := Lib.hid (BB.out.kept hbc))
                                          (try replace HYt := Lib.hid (yd_kept HYt.out hbc))
                                          go_wp2_with fail
                                          refine (HOy.out _ _ _ _ _ _ _ HYt.out).mono ?_
                                          rintro e wd ⟨F0d, F1d, F2d, f0d, f1d, f2d, rfl, hyd, hbd⟩
                                          have hsd := hbd.size
                                          have HYo := Lib.hid hyd
                                          replace HP := Lib.hid (HP.out.trans (hbd.mono HP.out.size))
                                          (try replace BB := Lib.hid (BB.out.kept hbd))
                                          clear hyd
                                          go_wp2
                                          refine ⟨xs_, ?_⟩
                                          refine anyB_one (i := 5) (by kernel_rfl) rfl rfl ?_
                                          intro we hbe K hK
                                          have hse := hbe.size
                                          (try simp at hse)
                                          replace HP := Lib.hid (HP.out.trans (hbe.mono HP.out.size))
                                          (try replace BB := Lib.hid (BB.out.kept hbe))
                                          (try replace HYo := Lib.hid (yd_kept HYo.out hbe))
                                          go_wp2_with fail
                                          refine (HMz.out _ _ _ _ _ _ _ HYo.out (HIx.out.low.trans (HP.out.mono HIx.out.low.size))).mono ?_
                                          rintro e wf ⟨F0f, F1f, F2f, f0f, f1f, f2f, rfl, hyd, hbf⟩
                                          have hsf := hbf.size
                                          have HYm := Lib.hid hyd
                                          replace HP := Lib.hid (HP.out.trans (hbf.mono HP.out.size))
                                          (try replace BB := Lib.hid (BB.out.kept hbf))
                                          clear hyd
                                          go_wp2
                                          refine ⟨xs_, ?_⟩
                                          (refine anyB_quiet_at (by kernel_rfl) calm_panic xs_ 2 [6, 7, 8] _ _ (by kernel_rfl) (by decide +kernel) ?_; simp only [pickB, List.filterMap_cons, List.filterMap_nil, List.getElem?_toArray, List.getElem?_cons_zero, List.getElem?_cons_succ]; (repeat ((with_reducible refine quietL_plain rfl (fun K hK => ?_)); (apply Exists.intro; refine ⟨fun wx hx => ?_, ?_⟩; (· (have hcx := ifs_ex hx); simp [go_sem, *, ↓IntWalk.iteOmega] <;> (first | rfl | exact ⟨rfl, rfl⟩ | fail)); (simp only [Act.put, List.setIfInBounds_toArray, List.set_cons_zero, List.set_cons_succ]; refine hK _ ?_; clear hK K)))); refine quietL_nil ?_)
                                          refine anyB_one (i := 10) (by kernel_rfl) rfl rfl ?_
                                          intro wi hbi K hK
                                          have hsi := hbi.size
                                          (try simp at hsi)
                                          replace HP := Lib.hid (HP.out.trans (hbi.mono HP.out.size))
                                          replace BB := Lib.hid (BB.out.kept hbi)
                                          have HZ := Lib.hid (HYm.out [wh.heap.size] (fun x hx => by simp at hx; subst hx; first | (left; omega) | (right; omega)))
                                          have cB := BB.out.cell
                                          have fB := BB.out.frozen
                                          have lB := BB.out.lt
                                          go_wp2
                                          refine ⟨xs_, ?_⟩
                                          replace BB := Lib.hid (BB.out.set3 (.slice F0f zb.s.length f0f) (.slice F1f zb.w.length f1f) (.slice F2f zb.p.length f2f))
                                          replace HP := Lib.hid (below_set3 HP.out (show _ ≤ wh.heap.size by omega) (.slice F0f zb.s.length f0f) (.slice F1f zb.w.length f1f) (.slice F2f zb.p.length f2f))
                                          clear cB fB lB HYm
                                          refine anyB_one (i := 11) (by kernel_rfl) rfl rfl ?_
                                          intro wj hbj K hK
                                          have hsj := hbj.size
                                          (try simp at hsj)
                                          go_wp2
                                          refine ⟨xs_, ?_⟩
                                          refine anyB_end (by kernel_rfl) ?_
                                          intro wk hbk
                                          have hsk := hbk.size
                                          simp only [Calm]
                                          replace HP := Lib.hid (HP.out.trans (hbj.mono HP.out.size))
                                          replace HP := Lib.hid (HP.out.trans (hbk.mono HP.out.size))
                                          replace BB := Lib.hid ((BB.out.kept hbj).kept hbk)
                                          have HZk := Lib.hid (HZ.out _ (xs_ : Ex [wh.heap.size] wf wk))
                                          clear HZ
                                          go_wp2_with fail
                                          go_meet
                                          case rel => exact ⟨wh.heap.size, F0f, F1f, F2f, f0f, f1f, f2f, rfl, rfl, BB.out, HZk.out, HP.out⟩
                                      · skip
                                        intro wh hbh K hK
                                        have hsh := hbh.size
                                        (try simp at hsh)
                                        replace HP := Lib.hid (HP.out.trans (hbh.mono HP.out.size))
                                        replace HP := Lib.hid (HP.out.alloc HP.out.size (.cells #[.slice none 0 0, .slice none 0 0, .slice none 0 0] 41))
                                        have BB := Lib.hid (Blk.new wh 41 #[.slice none 0 0, .slice none 0 0, .slice none 0 0])
                                        (try replace HYt := Lib.hid (yd_kept (yd_kept HYt.out hbh) ((Below.refl _ wh).alloc (Nat.le_refl _) (.cells #[.slice none 0 0, .slice none 0 0, .slice none 0 0] 41))))
                                        (try replace HYo := Lib.hid (yd_kept (yd_kept HYo.out hbh) ((Below.refl _ wh).alloc (Nat.le_refl _) (.cells #[.slice none 0 0, .slice none 0 0, .slice none 0 0] 41))))
                                        go_wp2
                                        refine ⟨xs_, ?_⟩
                                        refine anyB_one (i := 1) (by kernel_rfl) rfl rfl ?_
                                        intro wa hba K hK
                                        have hsa := hba.size
                                        (try simp at hsa)
                                        replace HP := Lib.hid (HP.out.trans (hba.mono HP.out.size))
                                        (try replace BB := Lib.hid (BB.out.kept hba))
                                        (try replace HYz := Lib.hid (yd_kept HYz.out hba))
                                        go_wp2_with fail
                                        refine (HTz.out _ _ _ _ _ _ _ (yd_kept HYd.out HP.out)).mono ?_
                                        rintro e wb ⟨F0b, F1b, F2b, f0b, f1b, f2b, rfl, hyd, hbb⟩
                                        have hsb := hbb.size
                                        have HYt := Lib.hid hyd
                                        replace HP := Lib.hid (HP.out.trans (hbb.mono HP.out.size))
                                        (try replace BB := Lib.hid (BB.out.kept hbb))
                                        clear hyd
                                        go_wp2
                                        refine ⟨xs_, ?_⟩
                                        refine anyB_one (i := 2) (by kernel_rfl) rfl rfl ?_
                                        intro wc hbc K hK
                                        have hsc := hbc.size
                                        (try simp at hsc)
                                        replace HP := Lib.hid (HP.out.trans (hbc.mono HP.out.size))
                                        (try replace BB := Lib.hid (BB.out.kept hbc))
                                        (try replace HYt := Lib.hid (yd_kept HYt.out hbc))
                                        go_wp2_with fail
                                        refine (HOy.out _ _ _ _ _ _ _ HYt.out).mono ?_
                                        rintro e wd ⟨F0d, F1d, F2d, f0d, f1d, f2d, rfl, hyd, hbd⟩
                                        have hsd := hbd.size
                                        have HYo := Lib.hid hyd
                                        replace HP := Lib.hid (HP.out.trans (hbd.mono HP.out.size))
                                        (try replace BB := Lib.hid (BB.out.kept hbd))
                                        clear hyd
                                        go_wp2
                                        refine ⟨xs_, ?_⟩
                                        refine anyB_one (i := 5) (by kernel_rfl) rfl rfl ?_
                                        intro we hbe K hK
                                        have hse := hbe.size
                                        (try simp at hse)
                                        replace HP := Lib.hid (HP.out.trans (hbe.mono HP.out.size))
                                        (try replace BB := Lib.hid (BB.out.kept hbe))
                                        (try replace HYo := Lib.hid (yd_kept HYo.out hbe))
                                        go_wp2_with fail
                                        refine (HMz.out _ _ _ _ _ _ _ HYo.out (HIx.out.low.trans (HP.out.mono HIx.out.low.size))).mono ?_
                                        rintro e wf ⟨F0f, F1f, F2f, f0f, f1f, f2f, rfl, hyd, hbf⟩
                                        have hsf := hbf.size
                                        have HYm := Lib.hid hyd
                                        replace HP := Lib.hid (HP.out.trans (hbf.mono HP.out.size))
                                        (try replace BB := Lib.hid (BB.out.kept hbf))
                                        clear hyd
                                        go_wp2
                                        refine ⟨xs_, ?_⟩
                                        (refine anyB_quiet_at (by kernel_rfl) calm_panic xs_ 2 [6, 7, 8] _ _ (by kernel_rfl) (by decide +kernel) ?_; simp only [pickB, List.filterMap_cons, List.filterMap_nil, List.getElem?_toArray, List.getElem?_cons_zero, List.getElem?_cons_succ]; (repeat ((with_reducible refine quietL_plain rfl (fun K hK => ?_)); (apply Exists.intro; refine ⟨fun wx hx => ?_, ?_⟩; (· (have hcx := ifs_ex hx); simp [go_sem, *, ↓IntWalk.iteOmega] <;> (first | rfl | exact ⟨rfl, rfl⟩ | fail)); (simp only [Act.put, List.setIfInBounds_toArray, List.set_cons_zero, List.set_cons_succ]; refine hK _ ?_; clear hK K)))); refine quietL_nil ?_)
                                        refine anyB_one (i := 10) (by kernel_rfl) rfl rfl ?_
                                        intro wi hbi K hK
                                        have hsi := hbi.size
                                        (try simp at hsi)
                                        replace HP := Lib.hid (HP.out.trans (hbi.mono HP.out.size))
                                        replace BB := Lib.hid (BB.out.kept hbi)
                                        have HZ := Lib.hid (HYm.out [wh.heap.size] (fun x hx => by simp at hx; subst hx; first | (left; omega) | (right; omega)))
                                        have cB := BB.out.cell
                                        have fB := BB.out.frozen
                                        have lB := BB.out.lt
                                        go_wp2
                                        refine ⟨xs_, ?_⟩
                                        replace BB := Lib.hid (BB.out.set3 (.slice F0f zb.s.length f0f) (.slice F1f zb.w.length f1f) (.slice F2f zb.p.length f2f))
                                        replace HP := Lib.hid (below_set3 HP.out (show _ ≤ wh.heap.size by omega) (.slice F0f zb.s.length f0f) (.slice F1f zb.w.length f1f) (.slice F2f zb.p.length f2f))
                                        clear cB fB lB HYm
                                        refine anyB_one (i := 11) (by kernel_rfl) rfl rfl ?_
                                        intro wj hbj K hK
                                        have hsj := hbj.size
                                        (try simp at hsj)
                                        go_wp2
                                        refine ⟨xs_, ?_⟩
                                        refine anyB_end (by kernel_rfl) ?_
                                        intro wk hbk
                                        have hsk := hbk.size
                                        simp only [Calm]
                                        replace HP := Lib.hid (HP.out.trans (hbj.mono HP.out.size))
                                        replace HP := Lib.hid (HP.out.trans (hbk.mono HP.out.size))
                                        replace BB := Lib.hid ((BB.out.kept hbj).kept hbk)
                                        have HZk := Lib.hid (HZ.out _ (xs_ : Ex [wh.heap.size] wf wk))
                                        clear HZ
                                        go_wp2_with fail
                                        go_meet
                                        case rel => exact ⟨wh.heap.size, F0f, F1f, F2f, f0f, f1f, f2f, rfl, rfl, BB.out, HZk.out, HP.out⟩
                                  rename World => wm
                                  obtain ⟨bm, G0, G1, G2, k0, k1, k2, rfl, rfl, hbm, hym, hbw⟩ := hcut
                                  have hsm := hbw.size
                                  have HBm := Lib.hid (below_trans HCE.out hbw)
                                  have HKm := Lib.hid (HIx.out.kept hbw)
                                  have cm := hbm.cell
                                  have lm := hbm.lt
                                  have HYm := Lib.hid hym
                                  clear hym c13 l13 c16 l16 hbw HMz HTz HOy
                                  rcases HEZ.out with ⟨rfl, rfl, ht⟩ | rfl
                                  · skip
                                    as_aux_lemma =>
                                      go_wp2_with fail
                                      refine (HTa.out t _ _ _ _ _ _ _ HYm.out).mono ?_
                                      rintro e wn ⟨F0, F1, F2, f0, f1, f2, rfl, hyd, hbn⟩
                                      have hsn := hbn.size
                                      have HY1 := Lib.hid hyd
                                      clear hyd cm lm
                                      go_wp2_with fail
                                      refine (HOa.out t _ _ _ _ _ _ _ HY1.out).mono ?_
                                      rintro e wo ⟨F0', F1', F2', f0', f1', f2', rfl, hyd, hbo⟩
                                      have hso := hbo.size
                                      have HY2 := Lib.hid hyd
                                      have HKo := Lib.hid (HKm.out.kept (below_trans hbn hbo))
                                      clear hyd HY1
                                      go_wp2_with fail
                                      refine (HSa.out t ht _ _ _ _ _ _ _ HY2.out HKo.out.low).mono ?_
                                      rintro e wp ⟨rfl, hbp⟩
                                      have hsp := hbp.size
                                      have HHi := Lib.hid (HasInt_any _ (some ⟨b, o, none⟩) _ c7 (reachL y) t wp ((HKo.out.kept hbp).rd) (by unfold maxLen; omega))
                                      rw [(hasI_iff _ _).2 (mem_reachL.2 ht)] at HHi
                                      go_wp2_with fail
                                      refine HHi.out.mono ?_
                                      rintro e w' ⟨rfl, rfl⟩
                                      have hfin := below_trans HBm.out (below_trans hbn (below_trans hbo hbp))
                                      go_wp2_with fail
                                      go_roundw
                                      case rel => exact ⟨m + 1, by omega, by go_num, hfin⟩
                                      case measure => simp [intOf]; omega
                                  · skip
                                    as_aux_lemma =>
                                      have hfin := HBm.out
                                      go_wp2_with fail
                                      go_roundw
                                      case rel => exact ⟨m + 1, by omega, by go_num, hfin⟩
                                      case measure => simp [intOf]; omega
                            · obtain rfl : m = n1 := by omega
                              have hfin := below_trans HBr.out (below_trans HRC.out hbd)
                              go_wp2_with fail
                              go_roundw
                              case rel => exact ⟨k + 1, by omega, by go_num, hfin⟩
                              case measure => simp [intOf]; omega
                  · obtain rfl : k = (reachL y).length := by omega
                    go_wp2_with fail
                    go_meet
                    case rel => exact HBr.out
            rename World => w11
            have hb11 := hcut
            clear hcut cY lY
            replace HK := Lib.hid (HK.out.kept hb11)
            clear hb11 HN HNx HWi HMa HSa HTa HOa hp9
            have cY := HK.out.box.cell
            have lY := HK.out.box.lt
            have cG := HK.out.gol.cell
            have lG := HK.out.gol.lt
            generalize olD y gk gs = ol at *
            generalize blD y gk gs = bl at *
            generalize orderE y gk gs = oe at *
            generalize barrE y gk gs = be at *
            as_aux_lemma =>
              go_upto_region 25 with fail
              go_cut [21, 22] (fun s21 s22 wx => ∃ (A : Option Addr) (cap : Nat), s21 = .slice A ol.length cap ∧ s22 = .int .i64 oe ∧ Reads wx wx.heap.size 1 A ol.length (ol.map .string) ∧ ol.length ≤ cap ∧ cap ≤ maxLen ∧ Below w11.heap.size w11 wx)
              case first =>
                as_aux_lemma =>
                  (refine wp_region_calm [] [0, 2] 7 (by kernel_rfl) rfl (by kernel_rfl) (by kernel_rfl) (by kernel_rfl) ?_; simp only [pickB, List.filterMap_cons, List.filterMap_nil, List.getElem?_toArray, List.getElem?_cons_zero, List.getElem?_cons_succ]; (repeat (first | ((with_reducible refine quietL_plain rfl (fun K hK => ?_)); (apply Exists.intro; refine ⟨fun wx hx => ?_, ?_⟩; (· (have hcx := ifs_ex hx); simp [go_sem, *, ↓IntWalk.iteOmega] <;> (first | rfl | exact ⟨rfl, rfl⟩ | fail)); (simp only [Act.put, List.setIfInBounds_toArray, List.set_cons_zero, List.set_cons_succ]; refine hK _ ?_; clear hK K))) | ((with_reducible refine quietL_skip (by with_unfolding_all rfl) ?_); simp only [Act.put, List.setIfInBounds_toArray, List.set_cons_zero, List.set_cons_succ]) | ((with_reducible refine quietL_want (by with_unfolding_all rfl) (fun K hK => ?_)); (apply Exists.intro; refine ⟨fun wx hx => ?_, ?_⟩; (· (have hcx := ifs_ex hx); simp [go_sem, *, ↓IntWalk.iteOmega] <;> (first | rfl | exact ⟨rfl, rfl⟩ | fail)); (simp only [Act.put, List.setIfInBounds_toArray, List.set_cons_zero, List.set_cons_succ]; refine hK _ ?_; clear hK K))))); refine quietL_nil ?_)
                  (refine anyB_one (i := 1) (by kernel_rfl) rfl rfl ?_; intro wa hba K hK; have hsa := hba.size; (try simp at hsa); go_wp2_with fail)
                  refine (HO.out _ (HK.out.low.trans (hba.mono HK.out.low.size))).mono ?_
                  rintro e wb ⟨D0, D1, D2, d0, d1, d2, rfl, hyd, hbb⟩
                  have hsb := hbb.size
                  have HYb := Lib.hid hyd
                  clear hyd
                  (go_wp2; refine ⟨xs_, ?_⟩)
                  (refine anyB_one (i := 3) (by kernel_rfl) rfl rfl ?_; intro wc hbc K hK; have hsc := hbc.size; (try simp at hsc); go_wp2_with fail)
                  refine (HOd.out _ _ _ _ _ _ _ (yd_kept HYb.out hbc) (HK.out.low.trans ((below_trans hba (below_trans hbb hbc)).mono HK.out.low.size))).mono ?_
                  rintro e wd ⟨A3, cap3, rfl, hr3, hq1, hq2, hbd⟩
                  have hsd := hbd.size
                  have HR3 := Lib.hid hr3
                  clear hr3
                  (go_wp2; refine ⟨xs_, ?_⟩)
                  (refine anyB_quiet_at (by kernel_rfl) calm_panic xs_ 2 [4, 5, 6] _ _ (by kernel_rfl) (by decide +kernel) ?_; simp only [pickB, List.filterMap_cons, List.filterMap_nil, List.getElem?_toArray, List.getElem?_cons_zero, List.getElem?_cons_succ]; (repeat ((with_reducible refine quietL_plain rfl (fun K hK => ?_)); (apply Exists.intro; refine ⟨fun wx hx => ?_, ?_⟩; (· (have hcx := ifs_ex hx); simp [go_sem, *, ↓IntWalk.iteOmega] <;> (first | rfl | exact ⟨rfl, rfl⟩ | fail)); (simp only [Act.put, List.setIfInBounds_toArray, List.set_cons_zero, List.set_cons_succ]; refine hK _ ?_; clear hK K)))); refine quietL_nil ?_)
                  (refine anyB_one (i := 7) (by kernel_rfl) rfl rfl ?_; intro we hbe K hK; have hse := hbe.size; (try simp at hse); go_wp2; refine ⟨xs_, ?_⟩)
                  (refine anyB_one (i := 8) (by kernel_rfl) rfl rfl ?_; intro wf hbf K hK; have hsf := hbf.size; (try simp at hsf); go_wp2; refine ⟨xs_, ?_⟩)
                  (refine anyB_end (by kernel_rfl) ?_; intro wg hbg; have hsg := hbg.size; (try simp at hsg); simp only [Calm])
                  go_wp2_with fail
                  go_meet
                  case rel => exact ⟨A3, cap3, rfl, rfl, rd_kept HR3.out (below_trans hbe (below_trans hbf hbg)), hq1, hq2, below_trans hba (below_trans hbb (below_trans hbc (below_trans hbd (below_trans hbe (below_trans hbf hbg)))))⟩
              rename World => w12
              obtain ⟨A21, cap21, rfl, rfl, hr21, hcp1, hcp2, hb12⟩ := hcut
              replace HK := Lib.hid (HK.out.kept hb12)
              have HR21 := Lib.hid hr21
              have HCp := Lib.hid (And.intro hcp1 hcp2)
              clear hr21 hcp1 hcp2 hb12 cY lY cG lG
              have cY := HK.out.box.cell
              have lY := HK.out.box.lt
              have cG := HK.out.gol.cell
              have lG := HK.out.gol.lt
              go_upto_region 26 with fail
              go_cut [23, 24] (fun s23 s24 wx => ∃ (A : Option Addr) (cap : Nat), s23 = .slice A bl.length cap ∧ s24 = .int .i64 be ∧ Reads wx wx.heap.size 1 A bl.length (bl.map (.int .i64)) ∧ Below w12.heap.size w12 wx)
              case first =>
                as_aux_lemma =>
                  (refine wp_region_calm [] [0, 2] 7 (by kernel_rfl) rfl (by kernel_rfl) (by kernel_rfl) (by kernel_rfl) ?_; simp only [pickB, List.filterMap_cons, List.filterMap_nil, List.getElem?_toArray, List.getElem?_cons_zero, List.getElem?_cons_succ]; (repeat (first | ((with_reducible refine quietL_plain rfl (fun K hK => ?_)); (apply Exists.intro; refine ⟨fun wx hx => ?_, ?_⟩; (· (have hcx := ifs_ex hx); simp [go_sem, *, ↓IntWalk.iteOmega] <;> (first | rfl | exact ⟨rfl, rfl⟩ | fail)); (simp only [Act.put, List.setIfInBounds_toArray, List.set_cons_zero, List.set_cons_succ]; refine hK _ ?_; clear hK K))) | ((with_reducible refine quietL_skip (by with_unfolding_all rfl) ?_); simp only [Act.put, List.setIfInBounds_toArray, List.set_cons_zero, List.set_cons_succ]) | ((with_reducible refine quietL_want (by with_unfolding_all rfl) (fun K hK => ?_)); (apply Exists.intro; refine ⟨fun wx hx => ?_, ?_⟩; (· (have hcx := ifs_ex hx); simp [go_sem, *, ↓IntWalk.iteOmega] <;> (first | rfl | exact ⟨rfl, rfl⟩ | fail)); (simp only [Act.put, List.setIfInBounds_toArray, List.set_cons_zero, List.set_cons_succ]; refine hK _ ?_; clear hK K))))); refine quietL_nil ?_)
                  (refine anyB_one (i := 1) (by kernel_rfl) rfl rfl ?_; intro wa hba K hK; have hsa := hba.size; (try simp at hsa); go_wp2_with fail)
                  refine (HO.out _ (HK.out.low.trans (hba.mono HK.out.low.size))).mono ?_
                  rintro e wb ⟨D0, D1, D2, d0, d1, d2, rfl, hyd, hbb⟩
                  have hsb := hbb.size
                  have HYb := Lib.hid hyd
                  clear hyd
                  (go_wp2; refine ⟨xs_, ?_⟩)
                  (refine anyB_one (i := 3) (by kernel_rfl) rfl rfl ?_; intro wc hbc K hK; have hsc := hbc.size; (try simp at hsc); go_wp2_with fail)
                  refine (HBr.out _ _ _ _ _ _ _ (yd_kept HYb.out hbc) (HK.out.low.trans ((below_trans hba (below_trans hbb hbc)).mono HK.out.low.size))).mono ?_
                  rintro e wd ⟨A3, cap3, rfl, hr3, hbd⟩
                  have hsd := hbd.size
                  have HR3 := Lib.hid hr3
                  clear hr3
                  (go_wp2; refine ⟨xs_, ?_⟩)
                  (refine anyB_quiet_at (by kernel_rfl) calm_panic xs_ 2 [4, 5, 6] _ _ (by kernel_rfl) (by decide +kernel) ?_; simp only [pickB, List.filterMap_cons, List.filterMap_nil, List.getElem?_toArray, List.getElem?_cons_zero, List.getElem?_cons_succ]; (repeat ((with_reducible refine quietL_plain rfl (fun K hK => ?_)); (apply Exists.intro; refine ⟨fun wx hx => ?_, ?_⟩; (· (have hcx := ifs_ex hx); simp [go_sem, *, ↓IntWalk.iteOmega] <;> (first | rfl | exact ⟨rfl, rfl⟩ | fail)); (simp only [Act.put, List.setIfInBounds_toArray, List.set_cons_zero, List.set_cons_succ]; refine hK _ ?_; clear hK K)))); refine quietL_nil ?_)
                  (refine anyB_one (i := 7) (by kernel_rfl) rfl rfl ?_; intro we hbe K hK; have hse := hbe.size; (try simp at hse); go_wp2; refine ⟨xs_, ?_⟩)
                  (refine anyB_one (i := 8) (by kernel_rfl) rfl rfl ?_; intro wf hbf K hK; have hsf := hbf.size; (try simp at hsf); go_wp2; refine ⟨xs_, ?_⟩)
                  (refine anyB_end (by kernel_rfl) ?_; intro wg hbg; have hsg := hbg.size; (try simp at hsg); simp only [Calm])
                  go_wp2_with fail
                  go_meet
                  case rel => exact ⟨A3, cap3, rfl, rfl, rd_kept HR3.out (below_trans hbe (below_trans hbf hbg)), below_trans hba (below_trans hbb (below_trans hbc (below_trans hbd (below_trans hbe (below_trans hbf hbg)))))⟩
              rename World => w13
              obtain ⟨A23, cap23, rfl, rfl, hr23, hb13⟩ := hcut
              replace HK := Lib.hid (HK.out.kept hb13)
              replace HR21 := Lib.hid (rd_kept HR21.out hb13)
              have HR23 := Lib.hid hr23
              clear hr23 hb13 cY lY cG lG
              have cY := HK.out.box.cell
              have lY := HK.out.box.lt
              have cG := HK.out.gol.cell
              have lG := HK.out.gol.lt
              as_aux_lemma =>
                go_upto_if 177 with fail
                go_cut [] (fun wx => Below w13.heap.size w13 wx)
                case first =>
                  rcases HOF.out with ⟨rfl, rfl, k1, k2, k3, k4⟩ | ⟨rfl, rfl, rfl, k4⟩
                  · skip
                    as_aux_lemma =>
                      have hge : ¬ (((reachL y).length : Int) ≤ (ol.length : Int)) := by omega
                      have HC1 := Lib.hid (fun A' c' W D0 D1 D2 d0 d1 d2 hy hr' hW => HCO.out ol ol.length A' c' W D0 D1 D2 d0 d1 d2 hy hr' (by omega) hW)
                      rw [k2] at HC1
                      have HC2 := Lib.hid (fun A' c' W D0 D1 D2 d0 d1 d2 hy hr' hW => HCB.out (reachL y) (reachL y).length A' c' W D0 D1 D2 d0 d1 d2 hy hr' (by unfold maxLen; omega) hW)
                      rw [k4] at HC2
                      have HK3 := Lib.hid k3
                      clear k2 k3 k4
                      go_upto_region 28 with fail
                      go_cut [204] (fun s wx => s = .bool false ∧ Below w13.heap.size w13 wx)
                      case first =>
                        as_aux_lemma =>
                          (refine wp_region_calm [] [0, 1, 2, 3, 4, 5, 6, 7, 8, 9, 10, 12, 13] 14 (by kernel_rfl) rfl (by kernel_rfl) (by kernel_rfl) (by kernel_rfl) ?_; simp only [pickB, List.filterMap_cons, List.filterMap_nil, List.getElem?_toArray, List.getElem?_cons_zero, List.getElem?_cons_succ]; (repeat (first | ((with_reducible refine quietL_plain rfl (fun K hK => ?_)); (apply Exists.intro; refine ⟨fun wx hx => ?_, ?_⟩; (· (have hcx := ifs_ex hx); simp [go_sem, *, ↓IntWalk.iteOmega] <;> (first | rfl | exact ⟨rfl, rfl⟩ | fail)); (simp only [Act.put, List.setIfInBounds_toArray, List.set_cons_zero, List.set_cons_succ]; refine hK _ ?_; clear hK K))) | ((with_reducible refine quietL_skip (by with_unfolding_all rfl) ?_); simp only [Act.put, List.setIfInBounds_toArray, List.set_cons_zero, List.set_cons_succ]) | ((with_reducible refine quietL_want (by with_unfolding_all rfl) (fun K hK => ?_)); (apply Exists.intro; refine ⟨fun wx hx => ?_, ?_⟩; (· (have hcx := ifs_ex hx); simp [go_sem, *, ↓IntWalk.iteOmega] <;> (first | rfl | exact ⟨rfl, rfl⟩ | fail)); (simp only [Act.put, List.setIfInBounds_toArray, List.set_cons_zero, List.set_cons_succ]; refine hK _ ?_; clear hK K))))); refine quietL_nil ?_)
                          (refine anyB_one_want (i := 11) (by kernel_rfl) rfl (by kernel_rfl) ?_; intro wa hba K hK; have hsa := hba.size; (try simp at hsa); go_wp2_with fail)
                          refine (HO.out _ (HK.out.low.trans (hba.mono HK.out.low.size))).mono ?_
                          rintro e wb ⟨D0, D1, D2, d0, d1, d2, rfl, hyd, hbb⟩
                          have hsb := hbb.size
                          have HYb := Lib.hid hyd
                          clear hyd
                          (go_wp2; refine ⟨xs_, ?_⟩)
                          (refine anyB_one_want (i := 14) (by kernel_rfl) rfl (by kernel_rfl) ?_; intro wc hbc K hK; have hsc := hbc.size; (try simp at hsc); go_wp2_with fail)
                          have hac := below_trans hba (below_trans hbb hbc)
                          have HAC := Lib.hid hac
                          refine (words_any _ A21 ol.length cap21 ol _ (rd_kept HR21.out hac) (Nat.le_refl _) (by omega)).mono ?_
                          rintro e wd ⟨A', cap', rfl, hrd, hbd⟩
                          have hsd := hbd.size
                          have HRd := Lib.hid hrd
                          clear hrd hac
                          (go_wp2; refine ⟨xs_, ?_⟩)
                          (refine anyB_one_want (i := 15) (by kernel_rfl) rfl (by kernel_rfl) ?_; intro we hbe K hK; have hse := hbe.size; (try simp at hse); go_wp2_with fail)
                          refine (HC1.out _ _ _ _ _ _ _ _ _ (yd_kept (yd_kept (yd_kept HYb.out hbc) hbd) hbe) (rd_kept HRd.out hbe) (HK.out.low.trans ((below_trans HAC.out (below_trans hbd hbe)).mono HK.out.low.size))).mono ?_
                          rintro e wf ⟨rfl, hbf⟩
                          have hsf := hbf.size
                          (go_wp2; refine ⟨xs_, ?_⟩)
                          have HAF := Lib.hid (below_trans HAC.out (below_trans hbd (below_trans hbe hbf)))
                          (refine anyB_quiet_at (by kernel_rfl) calm_panic xs_ 5 [16, 17, 18, 19, 21, 22] _ _ (by kernel_rfl) (by decide +kernel) ?_; simp only [pickB, List.filterMap_cons, List.filterMap_nil, List.getElem?_toArray, List.getElem?_cons_zero, List.getElem?_cons_succ]; (repeat (first | ((with_reducible refine quietL_plain rfl (fun K hK => ?_)); (apply Exists.intro; refine ⟨fun wx hx => ?_, ?_⟩; (· (have hcx := ifs_ex hx); simp [go_sem, *, ↓IntWalk.iteOmega] <;> (first | rfl | exact ⟨rfl, rfl⟩ | fail)); (simp only [Act.put, List.setIfInBounds_toArray, List.set_cons_zero, List.set_cons_succ]; refine hK _ ?_; clear hK K))) | ((with_reducible refine quietL_skip (by with_unfolding_all rfl) ?_); simp only [Act.put, List.setIfInBounds_toArray, List.set_cons_zero, List.set_cons_succ]) | ((with_reducible refine quietL_want (by with_unfolding_all rfl) (fun K hK => ?_)); (apply Exists.intro; refine ⟨fun wx hx => ?_, ?_⟩; (· (have hcx := ifs_ex hx); simp [go_sem, *, ↓IntWalk.iteOmega] <;> (first | rfl | exact ⟨rfl, rfl⟩ | fail)); (simp only [Act.put, List.setIfInBounds_toArray, List.set_cons_zero, List.set_cons_succ]; refine hK _ ?_; clear hK K))))); refine quietL_nil ?_)
                          (refine anyB_one_want (i := 20) (by kernel_rfl) rfl (by kernel_rfl) ?_; intro wg hbg K hK; have hsg := hbg.size; (try simp at hsg); go_wp2_with fail)
                          refine (HO.out _ (HK.out.low.trans ((below_trans HAF.out hbg).mono HK.out.low.size))).mono ?_
                          rintro e wh ⟨D0', D1', D2', d0', d1', d2', rfl, hyd, hbh⟩
                          have hsh := hbh.size
                          have HYh := Lib.hid hyd
                          clear hyd
                          (go_wp2; refine ⟨xs_, ?_⟩)
                          (refine anyB_one_want (i := 23) (by kernel_rfl) rfl (by kernel_rfl) ?_; intro wi hbi K hK; have hsi := hbi.size; (try simp at hsi); go_wp2_with fail)
                          have HAI := Lib.hid (below_trans HAF.out (below_trans hbg (below_trans hbh hbi)))
                          refine (ints_any _ A7 (reachL y).length c7 (reachL y) _ (rd_kept HK.out.rd HAI.out) (Nat.le_refl _) (by omega)).mono ?_
                          rintro e wj ⟨A'', cap'', rfl, hrd, hbj⟩
                          have hsj := hbj.size
                          have HRj := Lib.hid hrd
                          clear hrd
                          (go_wp2; refine ⟨xs_, ?_⟩)
                          (refine anyB_one_want (i := 24) (by kernel_rfl) rfl (by kernel_rfl) ?_; intro wk hbk K hK; have hsk := hbk.size; (try simp at hsk); go_wp2_with fail)
                          refine (HC2.out _ _ _ _ _ _ _ _ _ (yd_kept (yd_kept (yd_kept HYh.out hbi) hbj) hbk) (rd_kept HRj.out hbk) (HK.out.low.trans ((below_trans HAI.out (below_trans hbj hbk)).mono HK.out.low.size))).mono ?_
                          rintro e wl ⟨rfl, hbl⟩
                          have hsl := hbl.size
                          (go_wp2; refine ⟨xs_, ?_⟩)
                          have HAL := Lib.hid (below_trans HAI.out (below_trans hbj (below_trans hbk hbl)))
                          (refine anyB_quiet_at (by kernel_rfl) calm_panic xs_ 0 [25, 26] _ _ (by kernel_rfl) (by decide +kernel) ?_; simp only [pickB, List.filterMap_cons, List.filterMap_nil, List.getElem?_toArray, List.getElem?_cons_zero, List.getElem?_cons_succ]; (repeat (first | ((with_reducible refine quietL_plain rfl (fun K hK => ?_)); (apply Exists.intro; refine ⟨fun wx hx => ?_, ?_⟩; (· (have hcx := ifs_ex hx); simp [go_sem, *, ↓IntWalk.iteOmega] <;> (first | rfl | exact ⟨rfl, rfl⟩ | fail)); (simp only [Act.put, List.setIfInBounds_toArray, List.set_cons_zero, List.set_cons_succ]; refine hK _ ?_; clear hK K))) | ((with_reducible refine quietL_skip (by with_unfolding_all rfl) ?_); simp only [Act.put, List.setIfInBounds_toArray, List.set_cons_zero, List.set_cons_succ]) | ((with_reducible refine quietL_want (by with_unfolding_all rfl) (fun K hK => ?_)); (apply Exists.intro; refine ⟨fun wx hx => ?_, ?_⟩; (· (have hcx := ifs_ex hx); simp [go_sem, *, ↓IntWalk.iteOmega] <;> (first | rfl | exact ⟨rfl, rfl⟩ | fail)); (simp only [Act.put, List.setIfInBounds_toArray, List.set_cons_zero, List.set_cons_succ]; refine hK _ ?_; clear hK K))))); refine quietL_nil ?_)
                          (refine anyB_end (by kernel_rfl) ?_; intro wm hbm; have hsm := hbm.size; (try simp at hsm); simp only [Calm])
                          go_wp2_with fail
                          go_meet
                          case rel => exact ⟨by first | rfl | (simp; done), below_trans HAL.out hbm⟩
                      rename World => wx
                      obtain ⟨rfl, hbx⟩ := hcut
                      have HKx := Lib.hid (HK.out.kept hbx)
                      have HRx := Lib.hid (rd_kept HR21.out hbx)
                      have HBx := Lib.hid hbx
                      clear cY lY cG lG hbx HC1 HC2
                      have cY := HKx.out.box.cell
                      have lY := HKx.out.box.lt
                      have cG := HKx.out.gol.cell
                      have lG := HKx.out.gol.lt
                      go_upto_region 30 with fail
                      go_cut [220] (fun s wy => s = .bool false ∧ Below wx.heap.size wx wy)
                      case first =>
                        as_aux_lemma =>
                          by_cases hol : ol.length = 0
                          · have hol0 : ¬ (0 : Int) < (ol.length : Int) := by omega
                            have hol1 : decide (0 < ol.length) = false := decide_eq_false (by omega)
                            clear HK3 hge k1 HCp hol
                            as_aux_lemma =>
                              (refine wp_region_calm [] [0, 1, 2, 3, 4, 5, 6, 7, 8, 9, 10, 11, 12, 13, 14, 15] 0 (by kernel_rfl) rfl (by kernel_rfl) (by kernel_rfl) (by kernel_rfl) ?_; simp only [pickB, List.filterMap_cons, List.filterMap_nil, List.getElem?_toArray, List.getElem?_cons_zero, List.getElem?_cons_succ]; (repeat (first | ((with_reducible refine quietL_plain rfl (fun K hK => ?_)); (apply Exists.intro; refine ⟨fun wx hx => ?_, ?_⟩; (· (have hcx := ifs_ex hx); simp [go_sem, *, ↓IntWalk.iteOmega] <;> (first | rfl | exact ⟨rfl, rfl⟩ | fail)); (simp only [Act.put, List.setIfInBounds_toArray, List.set_cons_zero, List.set_cons_succ]; refine hK _ ?_; clear hK K))) | ((with_reducible refine quietL_skip (by with_unfolding_all rfl) ?_); simp only [Act.put, List.setIfInBounds_toArray, List.set_cons_zero, List.set_cons_succ]) | ((with_reducible refine quietL_want (by with_unfolding_all rfl) (fun K hK => ?_)); (apply Exists.intro; refine ⟨fun wx hx => ?_, ?_⟩; (· (have hcx := ifs_ex hx); simp [go_sem, *, ↓IntWalk.iteOmega] <;> (first | rfl | exact ⟨rfl, rfl⟩ | fail)); (simp only [Act.put, List.setIfInBounds_toArray, List.set_cons_zero, List.set_cons_succ]; refine hK _ ?_; clear hK K))))); refine quietL_nil ?_)
                              (refine anyB_end (by kernel_rfl) ?_; intro wm hbm; have hsm := hbm.size; (try simp at hsm); simp only [Calm])
                              go_wp2_with fail
                              go_meet
                              case rel => exact ⟨by first | rfl | (simp; done), hbm⟩
                          · obtain ⟨n3, hl⟩ : ∃ n, ol.length = n + 1 := ⟨ol.length - 1, by omega⟩
                            have h3 := HK3.out (by omega)
                            have HC3 := Lib.hid (fun A' c' W D0 D1 D2 d0 d1 d2 hy hr' hW => HCO.out (ol.take (ol.length - 1)) (ol.length - 1) A' c' W D0 D1 D2 d0 d1 d2 hy hr' (by omega) hW)
                            rw [h3] at HC3
                            have hcp := HCp.out
                            rw [hl] at HC3 hcp
                            have hsub : (ol.length : Int) - 1 = (n3 : Int) := by omega
                            have hol0 : (0 : Int) < (ol.length : Int) := by omega
                            have hol1 : decide (0 < ol.length) = true := decide_eq_true (by omega)
                            rw [show n3 + 1 - 1 = n3 by omega] at HC3
                            have HTk := Lib.hid (fun W (hW : Below wx.heap.size wx W) => rd_take (m := n3) (rd_kept HRx.out hW) (by omega))
                            have hcp1 := hcp.1
                            have hcp2 := hcp.2
                            simp only [← List.map_take] at HTk
                            generalize ol.take n3 = ot at *
                            have hn64 : n3 ≤ 64 := by omega
                            clear hcp h3 hol HCp HK3 hge k1
                            obtain ⟨b21, o21, rfl, _⟩ := HRx.out.2 (by omega)
                            have hcp3 : n3 ≤ cap21 := by omega
                            have hcp4 : ¬ cap21 < n3 := by omega
                            have hwr : IntKind.i64.wrap (n3 : Int) = (n3 : Int) := wrap_nat64 (by omega)
                            have HHl := Lib.hid hl
                            clear hl
                            as_aux_lemma =>
                              (refine wp_region_calm [] [0, 1, 2, 3, 4, 6, 7, 8, 9, 10, 11] 5 (by kernel_rfl) rfl (by kernel_rfl) (by kernel_rfl) (by kernel_rfl) ?_; simp only [pickB, List.filterMap_cons, List.filterMap_nil, List.getElem?_toArray, List.getElem?_cons_zero, List.getElem?_cons_succ]; (repeat (first | ((with_reducible refine quietL_plain rfl (fun K hK => ?_)); (apply Exists.intro; refine ⟨fun wx hx => ?_, ?_⟩; (· (have hcx := ifs_ex hx); simp [go_sem, *, ↓IntWalk.iteOmega] <;> (first | rfl | exact ⟨rfl, rfl⟩ | fail)); (simp only [Act.put, List.setIfInBounds_toArray, List.set_cons_zero, List.set_cons_succ]; refine hK _ ?_; clear hK K))) | ((with_reducible refine quietL_skip (by with_unfolding_all rfl) ?_); simp only [Act.put, List.setIfInBounds_toArray, List.set_cons_zero, List.set_cons_succ]) | ((with_reducible refine quietL_want (by with_unfolding_all rfl) (fun K hK => ?_)); (apply Exists.intro; refine ⟨fun wx hx => ?_, ?_⟩; (· (have hcx := ifs_ex hx); simp [go_sem, *, ↓IntWalk.iteOmega] <;> (first | rfl | exact ⟨rfl, rfl⟩ | fail)); (simp only [Act.put, List.setIfInBounds_toArray, List.set_cons_zero, List.set_cons_succ]; refine hK _ ?_; clear hK K))))); refine quietL_nil ?_)
                              (refine anyB_one_want (i := 5) (by kernel_rfl) rfl (by kernel_rfl) ?_; intro wa hba K hK; have hsa := hba.size; (try simp at hsa); go_wp2_with fail)
                              refine (HO.out _ (HKx.out.low.trans (hba.mono HKx.out.low.size))).mono ?_
                              rintro e wb ⟨D0, D1, D2, d0, d1, d2, rfl, hyd, hbb⟩
                              have hsb := hbb.size
                              have HYb := Lib.hid hyd
                              clear hyd
                              (go_wp2; refine ⟨xs_, ?_⟩)
                              (refine anyB_one_want (i := 12) (by kernel_rfl) rfl (by kernel_rfl) ?_; intro wc hbc K hK; have hsc := hbc.size; (try simp at hsc); go_wp2_with fail)
                              have HAC := Lib.hid (below_trans hba (below_trans hbb hbc))
                              refine (words_any _ (some ⟨b21, o21, none⟩) n3 cap21 ot _ (HTk.out _ HAC.out) (Nat.le_refl _) (by omega)).mono ?_
                              rintro e wd ⟨A', cap', rfl, hrd, hbd⟩
                              have hsd := hbd.size
                              have HRd := Lib.hid hrd
                              clear hrd
                              (go_wp2; refine ⟨xs_, ?_⟩)
                              (refine anyB_one_want (i := 13) (by kernel_rfl) rfl (by kernel_rfl) ?_; intro we hbe K hK; have hse := hbe.size; (try simp at hse); go_wp2_with fail)
                              refine (HC3.out _ _ _ _ _ _ _ _ _ (yd_kept (yd_kept (yd_kept HYb.out hbc) hbd) hbe) (rd_kept HRd.out hbe) (HKx.out.low.trans ((below_trans HAC.out (below_trans hbd hbe)).mono HKx.out.low.size))).mono ?_
                              rintro e wf ⟨rfl, hbf⟩
                              have hsf := hbf.size
                              (go_wp2; refine ⟨xs_, ?_⟩)
                              have HAF := Lib.hid (below_trans HAC.out (below_trans hbd (below_trans hbe hbf)))
                              (refine anyB_quiet_at (by kernel_rfl) calm_panic xs_ 0 [14, 15] _ _ (by kernel_rfl) (by decide +kernel) ?_; simp only [pickB, List.filterMap_cons, List.filterMap_nil, List.getElem?_toArray, List.getElem?_cons_zero, List.getElem?_cons_succ]; (repeat (first | ((with_reducible refine quietL_plain rfl (fun K hK => ?_)); (apply Exists.intro; refine ⟨fun wx hx => ?_, ?_⟩; (· (have hcx := ifs_ex hx); simp [go_sem, *, ↓IntWalk.iteOmega] <;> (first | rfl | exact ⟨rfl, rfl⟩ | fail)); (simp only [Act.put, List.setIfInBounds_toArray, List.set_cons_zero, List.set_cons_succ]; refine hK _ ?_; clear hK K))) | ((with_reducible refine quietL_skip (by with_unfolding_all rfl) ?_); simp only [Act.put, List.setIfInBounds_toArray, List.set_cons_zero, List.set_cons_succ]) | ((with_reducible refine quietL_want (by with_unfolding_all rfl) (fun K hK => ?_)); (apply Exists.intro; refine ⟨fun wx hx => ?_, ?_⟩; (· (have hcx := ifs_ex hx); simp [go_sem, *, ↓IntWalk.iteOmega] <;> (first | rfl | exact ⟨rfl, rfl⟩ | fail)); (simp only [Act.put, List.setIfInBounds_toArray, List.set_cons_zero, List.set_cons_succ]; refine hK _ ?_; clear hK K))))); refine quietL_nil ?_)
                              (refine anyB_end (by kernel_rfl) ?_; intro wm hbm; have hsm := hbm.size; (try simp at hsm); simp only [Calm])
                              go_wp2_with fail
                              go_meet
                              case rel => exact ⟨by first | rfl | (simp; done), below_trans HAF.out hbm⟩
                      rename World => wy
                      obtain ⟨rfl, hby⟩ := hcut
                      go_wp2_with fail
                      go_meet
                      case rel => exact below_trans HBx.out hby
                  · skip
                    as_aux_lemma =>
                      have HC2 := Lib.hid (fun A' c' W D0 D1 D2 d0 d1 d2 hy hr' hW => HCB.out (reachL y) (reachL y).length A' c' W D0 D1 D2 d0 d1 d2 hy hr' (by unfold maxLen; omega) hW)
                      rw [k4] at HC2
                      clear k4
                      go_upto_region 32 with fail
                      go_cut [241] (fun s wx => s = .bool false ∧ Below w13.heap.size w13 wx)
                      case first =>
                        as_aux_lemma =>
                          (refine wp_region_calm [] [0, 1, 2, 3, 4, 5, 6, 7, 8] 12 (by kernel_rfl) rfl (by kernel_rfl) (by kernel_rfl) (by kernel_rfl) ?_; simp only [pickB, List.filterMap_cons, List.filterMap_nil, List.getElem?_toArray, List.getElem?_cons_zero, List.getElem?_cons_succ]; (repeat (first | ((with_reducible refine quietL_plain rfl (fun K hK => ?_)); (apply Exists.intro; refine ⟨fun wx hx => ?_, ?_⟩; (· (have hcx := ifs_ex hx); simp [go_sem, *, ↓IntWalk.iteOmega] <;> (first | rfl | exact ⟨rfl, rfl⟩ | fail)); (simp only [Act.put, List.setIfInBounds_toArray, List.set_cons_zero, List.set_cons_succ]; refine hK _ ?_; clear hK K))) | ((with_reducible refine quietL_skip (by with_unfolding_all rfl) ?_); simp only [Act.put, List.setIfInBounds_toArray, List.set_cons_zero, List.set_cons_succ]) | ((with_reducible refine quietL_want (by with_unfolding_all rfl) (fun K hK => ?_)); (apply Exists.intro; refine ⟨fun wx hx => ?_, ?_⟩; (· (have hcx := ifs_ex hx); simp [go_sem, *, ↓IntWalk.iteOmega] <;> (first | rfl | exact ⟨rfl, rfl⟩ | fail)); (simp only [Act.put, List.setIfInBounds_toArray, List.set_cons_zero, List.set_cons_succ]; refine hK _ ?_; clear hK K))))); refine quietL_nil ?_)
                          (refine anyB_one_want (i := 9) (by kernel_rfl) rfl (by kernel_rfl) ?_; intro wa hba K hK; have hsa := hba.size; (try simp at hsa); go_wp2_with fail)
                          refine (SameInts_any _ _ A23 A7 _ _ cap23 c7 (reachL y) (reachL y) _ (rd_kept HR23.out hba) (rd_kept HK.out.rd hba) (Nat.le_refl _) (Nat.le_refl _) (by unfold maxLen; omega) (by unfold maxLen; omega)).mono ?_
                          rw [sameI_self]
                          rintro e wb ⟨rfl, hbb⟩
                          have hsb := hbb.size
                          (go_wp2; refine ⟨xs_, ?_⟩)
                          (refine anyB_quiet_at (by kernel_rfl) calm_panic xs_ 5 [10, 11, 12, 13, 15, 16] _ _ (by kernel_rfl) (by decide +kernel) ?_; simp only [pickB, List.filterMap_cons, List.filterMap_nil, List.getElem?_toArray, List.getElem?_cons_zero, List.getElem?_cons_succ]; (repeat (first | ((with_reducible refine quietL_plain rfl (fun K hK => ?_)); (apply Exists.intro; refine ⟨fun wx hx => ?_, ?_⟩; (· (have hcx := ifs_ex hx); simp [go_sem, *, ↓IntWalk.iteOmega] <;> (first | rfl | exact ⟨rfl, rfl⟩ | fail)); (simp only [Act.put, List.setIfInBounds_toArray, List.set_cons_zero, List.set_cons_succ]; refine hK _ ?_; clear hK K))) | ((with_reducible refine quietL_skip (by with_unfolding_all rfl) ?_); simp only [Act.put, List.setIfInBounds_toArray, List.set_cons_zero, List.set_cons_succ]) | ((with_reducible refine quietL_want (by with_unfolding_all rfl) (fun K hK => ?_)); (apply Exists.intro; refine ⟨fun wx hx => ?_, ?_⟩; (· (have hcx := ifs_ex hx); simp [go_sem, *, ↓IntWalk.iteOmega] <;> (first | rfl | exact ⟨rfl, rfl⟩ | fail)); (simp only [Act.put, List.setIfInBounds_toArray, List.set_cons_zero, List.set_cons_succ]; refine hK _ ?_; clear hK K))))); refine quietL_nil ?_)
                          (refine anyB_one_want (i := 14) (by kernel_rfl) rfl (by kernel_rfl) ?_; intro wc hbc K hK; have hsc := hbc.size; (try simp at hsc); go_wp2_with fail)
                          have HAC := Lib.hid (below_trans hba (below_trans hbb hbc))
                          refine (HO.out _ (HK.out.low.trans (HAC.out.mono HK.out.low.size))).mono ?_
                          rintro e wd ⟨D0, D1, D2, d0, d1, d2, rfl, hyd, hbd⟩
                          have hsd := hbd.size
                          have HYd := Lib.hid hyd
                          clear hyd
                          (go_wp2; refine ⟨xs_, ?_⟩)
                          (refine anyB_one_want (i := 17) (by kernel_rfl) rfl (by kernel_rfl) ?_; intro we hbe K hK; have hse := hbe.size; (try simp at hse); go_wp2_with fail)
                          have HAE := Lib.hid (below_trans HAC.out (below_trans hbd hbe))
                          refine (ints_any _ A23 (reachL y).length cap23 (reachL y) _ (rd_kept HR23.out HAE.out) (Nat.le_refl _) (by omega)).mono ?_
                          rintro e wf ⟨A'', cap'', rfl, hrd, hbf⟩
                          have hsf := hbf.size
                          have HRf := Lib.hid hrd
                          clear hrd
                          (go_wp2; refine ⟨xs_, ?_⟩)
                          (refine anyB_one_want (i := 18) (by kernel_rfl) rfl (by kernel_rfl) ?_; intro wg hbg K hK; have hsg := hbg.size; (try simp at hsg); go_wp2_with fail)
                          refine (HC2.out _ _ _ _ _ _ _ _ _ (yd_kept (yd_kept (yd_kept HYd.out hbe) hbf) hbg) (rd_kept HRf.out hbg) (HK.out.low.trans ((below_trans HAE.out (below_trans hbf hbg)).mono HK.out.low.size))).mono ?_
                          rintro e wh ⟨rfl, hbh⟩
                          have hsh := hbh.size
                          (go_wp2; refine ⟨xs_, ?_⟩)
                          have HAH := Lib.hid (below_trans HAE.out (below_trans hbf (below_trans hbg hbh)))
                          (refine anyB_quiet_at (by kernel_rfl) calm_panic xs_ 0 [19, 20] _ _ (by kernel_rfl) (by decide +kernel) ?_; simp only [pickB, List.filterMap_cons, List.filterMap_nil, List.getElem?_toArray, List.getElem?_cons_zero, List.getElem?_cons_succ]; (repeat (first | ((with_reducible refine quietL_plain rfl (fun K hK => ?_)); (apply Exists.intro; refine ⟨fun wx hx => ?_, ?_⟩; (· (have hcx := ifs_ex hx); simp [go_sem, *, ↓IntWalk.iteOmega] <;> (first | rfl | exact ⟨rfl, rfl⟩ | fail)); (simp only [Act.put, List.setIfInBounds_toArray, List.set_cons_zero, List.set_cons_succ]; refine hK _ ?_; clear hK K))) | ((with_reducible refine quietL_skip (by with_unfolding_all rfl) ?_); simp only [Act.put, List.setIfInBounds_toArray, List.set_cons_zero, List.set_cons_succ]) | ((with_reducible refine quietL_want (by with_unfolding_all rfl) (fun K hK => ?_)); (apply Exists.intro; refine ⟨fun wx hx => ?_, ?_⟩; (· (have hcx := ifs_ex hx); simp [go_sem, *, ↓IntWalk.iteOmega] <;> (first | rfl | exact ⟨rfl, rfl⟩ | fail)); (simp only [Act.put, List.setIfInBounds_toArray, List.set_cons_zero, List.set_cons_succ]; refine hK _ ?_; clear hK K))))); refine quietL_nil ?_)
                          (refine anyB_end (by kernel_rfl) ?_; intro wm hbm; have hsm := hbm.size; (try simp at hsm); simp only [Calm])
                          go_wp2_with fail
                          go_meet
                          case rel => exact ⟨by first | rfl | (simp; done), below_trans HAH.out hbm⟩
                      rename World => wx
                      obtain ⟨rfl, hbx⟩ := hcut
                      go_wp2_with fail
                      go_meet
                      case rel => exact hbx
                rename World => w14
                have hb14 := hcut
                clear hcut cY lY cG lG
                replace HK := Lib.hid (HK.out.kept hb14)
                clear hb14 HR21 HR23 HOF HCp HOd HBr HCO HCB
                have cY := HK.out.box.cell
                have lY := HK.out.box.lt
                have cG := HK.out.gol.cell
                have lG := HK.out.gol.lt
                generalize hge : grantE y nm gs = e2 at *
                generalize hzb : okY e2 (grantY y nm gs) = zb at *
                have HGE := Lib.hid (And.intro hge hzb)
                clear hge hzb
                as_aux_lemma =>
                  go_upto_region 34 with fail
                  go_cut [25, 26] (fun s21 s22 wx => ∃ (b : Nat) (G0 G1 G2 : Option Addr) (g0 g1 g2 : Nat), s21 = .pointer (some ⟨b, 0, none⟩) ∧ s22 = .int .i64 e2 ∧ Blk wx b 41 #[.slice G0 zb.s.length g0, .slice G1 zb.w.length g1, .slice G2 zb.p.length g2] ∧ YdAt wx wx.heap.size G0 G1 G2 zb.s.length zb.w.length zb.p.length zb ∧ Below w14.heap.size w14 wx)
                  case first =>
                    as_aux_lemma =>
                      have HIx := HK
                      have HP := Lib.hid (Below.refl w14.heap.size w14)
                      (refine wp_region_calm [] [0, 2, 3, 4] 8 (by kernel_rfl) rfl (by kernel_rfl) (by kernel_rfl) (by kernel_rfl) ?_; simp only [pickB, List.filterMap_cons, List.filterMap_nil, List.getElem?_toArray, List.getElem?_cons_zero, List.getElem?_cons_succ]; (repeat (first | ((with_reducible refine quietL_plain rfl (fun K hK => ?_)); (apply Exists.intro; refine ⟨fun wx hx => ?_, ?_⟩; (· (have hcx := ifs_ex hx); simp [go_sem, *, ↓IntWalk.iteOmega] <;> (first | rfl | exact ⟨rfl, rfl⟩ | fail)); (simp only [Act.put, List.setIfInBounds_toArray, List.set_cons_zero, List.set_cons_succ]; refine hK _ ?_; clear hK K))) | ((with_reducible refine quietL_skip (by with_unfolding_all rfl) ?_); simp only [Act.put, List.setIfInBounds_toArray, List.set_cons_zero, List.set_cons_succ]) | ((with_reducible refine quietL_want (by with_unfolding_all rfl) (fun K hK => ?_)); (apply Exists.intro; refine ⟨fun wx hx => ?_, ?_⟩; (· (have hcx := ifs_ex hx); simp [go_sem, *, ↓IntWalk.iteOmega] <;> (first | rfl | exact ⟨rfl, rfl⟩ | fail)); (simp only [Act.put, List.setIfInBounds_toArray, List.set_cons_zero, List.set_cons_succ]; refine hK _ ?_; clear hK K))))); refine quietL_nil ?_)
                      refine anyB_two (i := 1) (j := 9) (by kernel_rfl) rfl rfl rfl rfl ?_ ?_
                      · skip
                        intro wc hbc K hK
                        have hsc := hbc.size
                        (try simp at hsc)
                        replace HP := Lib.hid (HP.out.trans (hbc.mono HP.out.size))
                        (try replace BB := Lib.hid (BB.out.kept hbc))
                        (try replace HYt := Lib.hid (yd_kept HYt.out hbc))
                        go_wp2_with fail
                        refine (HO.out _ (HIx.out.low.trans (HP.out.mono HIx.out.low.size))).mono ?_
                        rintro e wd ⟨F0d, F1d, F2d, f0d, f1d, f2d, rfl, hyd, hbd⟩
                        have hsd := hbd.size
                        have HYo := Lib.hid hyd
                        replace HP := Lib.hid (HP.out.trans (hbd.mono HP.out.size))
                        (try replace BB := Lib.hid (BB.out.kept hbd))
                        clear hyd
                        go_wp2
                        refine ⟨xs_, ?_⟩
                        refine anyB_two (i := 5) (j := 9) (by kernel_rfl) rfl rfl rfl rfl ?_ ?_
                        · skip
                          intro we hbe K hK
                          have hse := hbe.size
                          (try simp at hse)
                          replace HP := Lib.hid (HP.out.trans (hbe.mono HP.out.size))
                          (try replace BB := Lib.hid (BB.out.kept hbe))
                          (try replace HYo := Lib.hid (yd_kept HYo.out hbe))
                          go_wp2_with fail
                          refine (HGr.out _ _ _ _ _ _ _ HYo.out (HIx.out.low.trans (HP.out.mono HIx.out.low.size))).mono ?_
                          rintro e wf ⟨F0f, F1f, F2f, f0f, f1f, f2f, rfl, hyd, hbf⟩
                          have hsf := hbf.size
                          have HYm := Lib.hid hyd
                          replace HP := Lib.hid (HP.out.trans (hbf.mono HP.out.size))
                          (try replace BB := Lib.hid (BB.out.kept hbf))
                          clear hyd
                          go_wp2
                          refine ⟨xs_, ?_⟩
                          (refine anyB_quiet_at (by kernel_rfl) calm_panic xs_ 3 [6, 7, 8] _ _ (by kernel_rfl) (by decide +kernel) ?_; simp only [pickB, List.filterMap_cons, List.filterMap_nil, List.getElem?_toArray, List.getElem?_cons_zero, List.getElem?_cons_succ]; (repeat ((with_reducible refine quietL_plain rfl (fun K hK => ?_)); (apply Exists.intro; refine ⟨fun wx hx => ?_, ?_⟩; (· (have hcx := ifs_ex hx); simp [go_sem, *, ↓IntWalk.iteOmega] <;> (first | rfl | exact ⟨rfl, rfl⟩ | fail)); (simp only [Act.put, List.setIfInBounds_toArray, List.set_cons_zero, List.set_cons_succ]; refine hK _ ?_; clear hK K)))); refine quietL_nil ?_)
                          refine anyB_one (i := 9) (by kernel_rfl) rfl rfl ?_
                          intro wh hbh K hK
                          have hsh := hbh.size
                          (try simp at hsh)
                          replace HP := Lib.hid (HP.out.trans (hbh.mono HP.out.size))
                          replace HP := Lib.hid (HP.out.alloc HP.out.size (.cells #[.slice none 0 0, .slice none 0 0, .slice none 0 0] 41))
                          have BB := Lib.hid (Blk.new wh 41 #[.slice none 0 0, .slice none 0 0, .slice none 0 0])
                          (try replace HYt := Lib.hid (yd_kept (yd_kept HYt.out hbh) ((Below.refl _ wh).alloc (Nat.le_refl _) (.cells #[.slice none 0 0, .slice none 0 0, .slice none 0 0] 41))))
                          (try replace HYo := Lib.hid (yd_kept (yd_kept HYo.out hbh) ((Below.refl _ wh).alloc (Nat.le_refl _) (.cells #[.slice none 0 0, .slice none 0 0, .slice none 0 0] 41))))
                          go_wp2
                          refine ⟨xs_, ?_⟩
                          refine anyB_one (i := 10) (by kernel_rfl) rfl rfl ?_
                          intro wi hbi K hK
                          have hsi := hbi.size
                          (try simp at hsi)
                          replace HP := Lib.hid (HP.out.trans (hbi.mono HP.out.size))
                          replace BB := Lib.hid (BB.out.kept hbi)
                          have HZ := Lib.hid (HYm.out [wh.heap.size] (fun x hx => by simp at hx; subst hx; first | (left; omega) | (right; omega)))
                          have cB := BB.out.cell
                          have fB := BB.out.frozen
                          have lB := BB.out.lt
                          go_wp2
                          refine ⟨xs_, ?_⟩
                          replace BB := Lib.hid (BB.out.set3 (.slice F0f zb.s.length f0f) (.slice F1f zb.w.length f1f) (.slice F2f zb.p.length f2f))
                          replace HP := Lib.hid (below_set3 HP.out (show _ ≤ wh.heap.size by omega) (.slice F0f zb.s.length f0f) (.slice F1f zb.w.length f1f) (.slice F2f zb.p.length f2f))
                          clear cB fB lB HYm
                          refine anyB_one (i := 11) (by kernel_rfl) rfl rfl ?_
                          intro wj hbj K hK
                          have hsj := hbj.size
                          (try simp at hsj)
                          go_wp2
                          refine ⟨xs_, ?_⟩
                          refine anyB_end (by kernel_rfl) ?_
                          intro wk hbk
                          have hsk := hbk.size
                          simp only [Calm]
                          replace HP := Lib.hid (HP.out.trans (hbj.mono HP.out.size))
                          replace HP := Lib.hid (HP.out.trans (hbk.mono HP.out.size))
                          replace BB := Lib.hid ((BB.out.kept hbj).kept hbk)
                          have HZk := Lib.hid (HZ.out _ (xs_ : Ex [wh.heap.size] wf wk))
                          clear HZ
                          go_wp2_with fail
                          go_meet
                          case rel => exact ⟨wh.heap.size, F0f, F1f, F2f, f0f, f1f, f2f, rfl, rfl, BB.out, HZk.out, HP.out⟩
                        · skip
                          intro wh hbh K hK
                          have hsh := hbh.size
                          (try simp at hsh)
                          replace HP := Lib.hid (HP.out.trans (hbh.mono HP.out.size))
                          replace HP := Lib.hid (HP.out.alloc HP.out.size (.cells #[.slice none 0 0, .slice none 0 0, .slice none 0 0] 41))
                          have BB := Lib.hid (Blk.new wh 41 #[.slice none 0 0, .slice none 0 0, .slice none 0 0])
                          (try replace HYt := Lib.hid (yd_kept (yd_kept HYt.out hbh) ((Below.refl _ wh).alloc (Nat.le_refl _) (.cells #[.slice none 0 0, .slice none 0 0, .slice none 0 0] 41))))
                          (try replace HYo := Lib.hid (yd_kept (yd_kept HYo.out hbh) ((Below.refl _ wh).alloc (Nat.le_refl _) (.cells #[.slice none 0 0, .slice none 0 0, .slice none 0 0] 41))))
                          go_wp2
                          refine ⟨xs_, ?_⟩
                          refine anyB_one (i := 5) (by kernel_rfl) rfl rfl ?_
                          intro we hbe K hK
                          have hse := hbe.size
                          (try simp at hse)
                          replace HP := Lib.hid (HP.out.trans (hbe.mono HP.out.size))
                          (try replace BB := Lib.hid (BB.out.kept hbe))
                          (try replace HYo := Lib.hid (yd_kept HYo.out hbe))
                          go_wp2_with fail
                          refine (HGr.out _ _ _ _ _ _ _ HYo.out (HIx.out.low.trans (HP.out.mono HIx.out.low.size))).mono ?_
                          rintro e wf ⟨F0f, F1f, F2f, f0f, f1f, f2f, rfl, hyd, hbf⟩
                          have hsf := hbf.size
                          have HYm := Lib.hid hyd
                          replace HP := Lib.hid (HP.out.trans (hbf.mono HP.out.size))
                          (try replace BB := Lib.hid (BB.out.kept hbf))
                          clear hyd
                          go_wp2
                          refine ⟨xs_, ?_⟩
                          (refine anyB_quiet_at (by kernel_rfl) calm_panic xs_ 2 [6, 7, 8] _ _ (by kernel_rfl) (by decide +kernel) ?_; simp only [pickB, List.filterMap_cons, List.filterMap_nil, List.getElem?_toArray, List.getElem?_cons_zero, List.getElem?_cons_succ]; (repeat ((with_reducible refine quietL_plain rfl (fun K hK => ?_)); (apply Exists.intro; refine ⟨fun wx hx => ?_, ?_⟩; (· (have hcx := ifs_ex hx); simp [go_sem, *, ↓IntWalk.iteOmega] <;> (first | rfl | exact ⟨rfl, rfl⟩ | fail)); (simp only [Act.put, List.setIfInBounds_toArray, List.set_cons_zero, List.set_cons_succ]; refine hK _ ?_; clear hK K)))); refine quietL_nil ?_)
                          refine anyB_one (i := 10) (by kernel_rfl) rfl rfl ?_
                          intro wi hbi K hK
                          have hsi := hbi.size
                          (try simp at hsi)
                          replace HP := Lib.hid (HP.out.trans (hbi.mono HP.out.size))
                          replace BB := Lib.hid (BB.out.kept hbi)
                          have HZ := Lib.hid (HYm.out [wh.heap.size] (fun x hx => by simp at hx; subst hx; first | (left; omega) | (right; omega)))
                          have cB := BB.out.cell
                          have fB := BB.out.frozen
                          have lB := BB.out.lt
                          go_wp2
                          refine ⟨xs_, ?_⟩
                          replace BB := Lib.hid (BB.out.set3 (.slice F0f zb.s.length f0f) (.slice F1f zb.w.length f1f) (.slice F2f zb.p.length f2f))
                          replace HP := Lib.hid (below_set3 HP.out (show _ ≤ wh.heap.size by omega) (.slice F0f zb.s.length f0f) (.slice F1f zb.w.length f1f) (.slice F2f zb.p.length f2f))
                          clear cB fB lB HYm
                          refine anyB_one (i := 11) (by kernel_rfl) rfl rfl ?_
                          intro wj hbj K hK
                          have hsj := hbj.size
                          (try simp at hsj)
                          go_wp2
                          refine ⟨xs_, ?_⟩
                          refine anyB_end (by kernel_rfl) ?_
                          intro wk hbk
                          have hsk := hbk.size
                          simp only [Calm]
                          replace HP := Lib.hid (HP.out.trans (hbj.mono HP.out.size))
                          replace HP := Lib.hid (HP.out.trans (hbk.mono HP.out.size))
                          replace BB := Lib.hid ((BB.out.kept hbj).kept hbk)
                          have HZk := Lib.hid (HZ.out _ (xs_ : Ex [wh.heap.size] wf wk))
                          clear HZ
                          go_wp2_with fail
                          go_meet
                          case rel => exact ⟨wh.heap.size, F0f, F1f, F2f, f0f, f1f, f2f, rfl, rfl, BB.out, HZk.out, HP.out⟩
                      · skip
                        intro wh hbh K hK
                        have hsh := hbh.size
                        (try simp at hsh)
                        replace HP := Lib.hid (HP.out.trans (hbh.mono HP.out.size))
                        replace HP := Lib.hid (HP.out.alloc HP.out.size (.cells #[.slice none 0 0, .slice none 0 0, .slice none 0 0] 41))
                        have BB := Lib.hid (Blk.new wh 41 #[.slice none 0 0, .slice none 0 0, .slice none 0 0])
                        (try replace HYt := Lib.hid (yd_kept (yd_kept HYt.out hbh) ((Below.refl _ wh).alloc (Nat.le_refl _) (.cells #[.slice none 0 0, .slice none 0 0, .slice none 0 0] 41))))
                        (try replace HYo := Lib.hid (yd_kept (yd_kept HYo.out hbh) ((Below.refl _ wh).alloc (Nat.le_refl _) (.cells #[.slice none 0 0, .slice none 0 0, .slice none 0 0] 41))))
                        go_wp2
                        refine ⟨xs_, ?_⟩
                        refine anyB_one (i := 1) (by kernel_rfl) rfl rfl ?_
                        intro wc hbc K hK
                        have hsc := hbc.size
                        (try simp at hsc)
                        replace HP := Lib.hid (HP.out.trans (hbc.mono HP.out.size))
                        (try replace BB := Lib.hid (BB.out.kept hbc))
                        (try replace HYt := Lib.hid (yd_kept HYt.out hbc))
                        go_wp2_with fail
                        refine (HO.out _ (HIx.out.low.trans (HP.out.mono HIx.out.low.size))).mono ?_
                        rintro e wd ⟨F0d, F1d, F2d, f0d, f1d, f2d, rfl, hyd, hbd⟩
                        have hsd := hbd.size
                        have HYo := Lib.hid hyd
                        replace HP := Lib.hid (HP.out.trans (hbd.mono HP.out.size))
                        (try replace BB := Lib.hid (BB.out.kept hbd))
                        clear hyd
                        go_wp2
                        refine ⟨xs_, ?_⟩
                        refine anyB_one (i := 5) (by kernel_rfl) rfl rfl ?_
                        intro we hbe K hK
                        have hse := hbe.size
                        (try simp at hse)
                        replace HP := Lib.hid (HP.out.trans (hbe.mono HP.out.size))
                        (try replace BB := Lib.hid (BB.out.kept hbe))
                        (try replace HYo := Lib.hid (yd_kept HYo.out hbe))
                        go_wp2_with fail
                        refine (HGr.out _ _ _ _ _ _ _ HYo.out (HIx.out.low.trans (HP.out.mono HIx.out.low.size))).mono ?_
                        rintro e wf ⟨F0f, F1f, F2f, f0f, f1f, f2f, rfl, hyd, hbf⟩
                        have hsf := hbf.size
                        have HYm := Lib.hid hyd
                        replace HP := Lib.hid (HP.out.trans (hbf.mono HP.out.size))
                        (try replace BB := Lib.hid (BB.out.kept hbf))
                        clear hyd
                        go_wp2
                        refine ⟨xs_, ?_⟩
                        (refine anyB_quiet_at (by kernel_rfl) calm_panic xs_ 2 [6, 7, 8] _ _ (by kernel_rfl) (by decide +kernel) ?_; simp only [pickB, List.filterMap_cons, List.filterMap_nil, List.getElem?_toArray, List.getElem?_cons_zero, List.getElem?_cons_succ]; (repeat ((with_reducible refine quietL_plain rfl (fun K hK => ?_)); (apply Exists.intro; refine ⟨fun wx hx => ?_, ?_⟩; (· (have hcx := ifs_ex hx); simp [go_sem, *, ↓IntWalk.iteOmega] <;> (first | rfl | exact ⟨rfl, rfl⟩ | fail)); (simp only [Act.put, List.setIfInBounds_toArray, List.set_cons_zero, List.set_cons_succ]; refine hK _ ?_; clear hK K)))); refine quietL_nil ?_)
                        refine anyB_one (i := 10) (by kernel_rfl) rfl rfl ?_
                        intro wi hbi K hK
                        have hsi := hbi.size
                        (try simp at hsi)
                        replace HP := Lib.hid (HP.out.trans (hbi.mono HP.out.size))
                        replace BB := Lib.hid (BB.out.kept hbi)
                        have HZ := Lib.hid (HYm.out [wh.heap.size] (fun x hx => by simp at hx; subst hx; first | (left; omega) | (right; omega)))
                        have cB := BB.out.cell
                        have fB := BB.out.frozen
                        have lB := BB.out.lt
                        go_wp2
                        refine ⟨xs_, ?_⟩
                        replace BB := Lib.hid (BB.out.set3 (.slice F0f zb.s.length f0f) (.slice F1f zb.w.length f1f) (.slice F2f zb.p.length f2f))
                        replace HP := Lib.hid (below_set3 HP.out (show _ ≤ wh.heap.size by omega) (.slice F0f zb.s.length f0f) (.slice F1f zb.w.length f1f) (.slice F2f zb.p.length f2f))
                        clear cB fB lB HYm
                        refine anyB_one (i := 11) (by kernel_rfl) rfl rfl ?_
                        intro wj hbj K hK
                        have hsj := hbj.size
                        (try simp at hsj)
                        go_wp2
                        refine ⟨xs_, ?_⟩
                        refine anyB_end (by kernel_rfl) ?_
                        intro wk hbk
                        have hsk := hbk.size
                        simp only [Calm]
                        replace HP := Lib.hid (HP.out.trans (hbj.mono HP.out.size))
                        replace HP := Lib.hid (HP.out.trans (hbk.mono HP.out.size))
                        replace BB := Lib.hid ((BB.out.kept hbj).kept hbk)
                        have HZk := Lib.hid (HZ.out _ (xs_ : Ex [wh.heap.size] wf wk))
                        clear HZ
                        go_wp2_with fail
                        go_meet
                        case rel => exact ⟨wh.heap.size, F0f, F1f, F2f, f0f, f1f, f2f, rfl, rfl, BB.out, HZk.out, HP.out⟩
                  rename World => wm
                  obtain ⟨bm, G0, G1, G2, k0, k1, k2, rfl, rfl, hbm, hym, hbw⟩ := hcut
                  replace HK := Lib.hid (HK.out.kept hbw)
                  clear cY lY cG lG hbw
                  by_cases hz0 : e2 = 0
                  case neg =>
                    as_aux_lemma =>
                      have hlow := HK.out.low
                      go_wp2_with fail
                      go_ret
                      exact ⟨by first | rfl | (simp; done), hlow⟩
                  case pos =>
                    obtain ⟨hge, hzb⟩ := HGE.out
                    rw [hz0] at hzb
                    rw [okY_ok] at hzb
                    obtain ⟨m1, m2, m3, m4⟩ := HGM.out hz0
                    rw [hzb] at m1 m2 m3 m4
                    subst hz0
                    have HTg := Lib.hid (fun W D0 D1 D2 d0 d1 d2 (hy : YdAt W W.heap.size D0 D1 D2 zb.s.length zb.w.length zb.p.length zb) => (told_any W.heap.size D0 D1 D2 zb.s.length zb.w.length zb.p.length d0 d1 d2 zb W hy (Nat.le_refl _) (by have := m1.s9; omega) (by have := m1.w9; omega) (by have := m1.p9; omega)).mono fun _ _ h => h.sh)
                    have HOg := Lib.hid (fun W D0 D1 D2 d0 d1 d2 (hy : YdAt W W.heap.size D0 D1 D2 zb.s.length zb.w.length zb.p.length zb) => (own_any W.heap.size D0 D1 D2 zb.s.length zb.w.length zb.p.length d0 d1 d2 zb W hy (Nat.le_refl _) (by have := m1.s9; omega) (by have := m1.w9; omega) (by have := m1.p9; omega)).mono fun _ _ h => h.sh)
                    have HRg := Lib.hid (fun W D0 D1 D2 d0 d1 d2 (hy : YdAt W W.heap.size D0 D1 D2 zb.s.length zb.w.length zb.p.length zb) (hW : Below w.heap.size w W) => Reached_any W.heap.size D0 D1 D2 zb.s.length zb.w.length zb.p.length d0 d1 d2 zb W hy (Nat.le_refl _) (HT.out W hW) m1)
                    simp only [m2, resI, if_true] at HRg
                    change Hid (∀ W D0 D1 D2 d0 d1 d2 hy hW, Calls _ _ _ W (IntsERes W (reachL zb) 0)) at HRg
                    generalize reachL zb = fl at *
                    have HM4 := Lib.hid m4
                    have hfl : ¬ (((reachL y).length : Int) < (fl.length : Int)) := by omega
                    have hfl64 : fl.length ≤ 64 := by omega
                    have hfd : decide ((reachL y).length < fl.length) = false := decide_eq_false (by omega)
                    have HYm := Lib.hid hym
                    have cm := hbm.cell
                    have lm := hbm.lt
                    clear m1 m2 m3 m4 hge hzb hym HGE HGM
                    as_aux_lemma =>
                      go_wp2_with fail
                      refine (HTg.out _ _ _ _ _ _ _ HYm.out).mono ?_
                      rintro e wa ⟨F0, F1, F2, f0, f1, f2, rfl, hyd, hba⟩
                      have hsa := hba.size
                      have HY1 := Lib.hid hyd
                      clear hyd cm lm
                      as_aux_lemma =>
                        go_wp2_with fail
                        refine (HOg.out _ _ _ _ _ _ _ HY1.out).mono ?_
                        rintro e wb ⟨F0', F1', F2', f0', f1', f2', rfl, hyd, hbb⟩
                        have hsb := hbb.size
                        have HY2 := Lib.hid hyd
                        replace HK := Lib.hid (HK.out.kept (below_trans hba hbb))
                        clear hyd HY1
                        as_aux_lemma =>
                          go_wp2_with fail
                          refine (HRg.out _ _ _ _ _ _ _ HY2.out HK.out.low).mono ?_
                          rintro e wc ⟨A27, cap27, rfl, hr27, hbc⟩
                          have hsc := hbc.size
                          have HR27 := Lib.hid hr27
                          replace HK := Lib.hid (HK.out.kept hbc)
                          clear hr27 HY2
                          as_aux_lemma =>
                            go_upto_block 4 with fail
                            as_aux_lemma =>
                              go_wp2_with fail
                              go_loopw [271] (fun i W => ∃ j : Nat, j ≤ fl.length ∧ i = .int .i64 j ∧ Below wc.heap.size wc W) (fun i _ => fl.length - (intOf i).toNat)
                              case atStart => exact ⟨0, by omega, rfl, Below.refl _ _⟩
                              case round =>
                                rename World => wr
                                obtain ⟨j, hj, rfl, hbr⟩ := hrel
                                have hsr := hbr.size
                                by_cases hjn : j < fl.length
                                · skip
                                  as_aux_lemma =>
                                    obtain ⟨b, o, u, rfl, hbb2, hu, hc⟩ := (rd_kept HR27.out hbr).at_ hjn
                                    obtain rfl : u = .int .i64 fl[j] := by simpa [hjn] using hu.symm
                                    have hin := HM4.out fl[j] (List.getElem_mem hjn)
                                    generalize fl[j] = z at *
                                    have HHi := Lib.hid (HasInt_any _ A7 _ c7 (reachL y) z wr ((HK.out.kept hbr).rd) (by unfold maxLen; omega))
                                    rw [hin] at HHi
                                    clear hin hu hfl hfd
                                    go_wp2_with fail
                                    as_aux_lemma =>
                                      refine HHi.out.mono ?_
                                      rintro e w' ⟨rfl, rfl⟩
                                      as_aux_lemma =>
                                        go_wp2_with fail
                                        as_aux_lemma =>
                                          go_roundw
                                          case rel => exact ⟨j + 1, by omega, by go_num, hbr⟩
                                          case measure => simp [intOf]; omega
                                · skip
                                  as_aux_lemma =>
                                    obtain rfl : j = fl.length := by omega
                                    clear hfl hfd
                                    have hlow := (HK.out.kept hbr).low
                                    go_wp2_with fail
                                    go_ret
                                    exact ⟨by first | rfl | (simp; done), hlow⟩
end Go.Proofs.YtphlojgmfkgeiaaGreatDoor
