/- Reference of the arm: Bound, Guaranteed. -/
import Derived.Test.YtfpjcnkfoehhmaaGreatDoorEC
import Derived.Test.YtfpjcnkfoehhmaaGreatDoorPM
import Derived.Test.YtfpjcnkfoehhmaaGreatDoorQg
import Derived.Test.YtfpjcnkfoehhmaaGreatDoorQk
import Derived.Deep.DeepCutAuto
import Derived.Deep.CutBlock
namespace Go.Proofs.YtfpjcnkfoehhmaaGreatDoor
open Go.RowKit Go.Sort Go.Shelf
set_option linter.unusedSimpArgs false
set_option linter.unusedVariables false
attribute [local go_sem] cell_if frozen_if grow_cell
theorem spread_small {a : Ar} (hE : armE a = 0) : 0 ≤ spreadL a ∧ spreadL a ≤ 16384 := by
  have hfq := (fit_of hE).q
  refine ⟨spread_nonneg a, spread_le (by omega) (fun i hi j hj => ?_)⟩
  obtain ⟨i', rfl, hi'⟩ := us_nat hi
  obtain ⟨j', rfl, hj'⟩ := us_nat hj
  rw [ckA_q hi', ckA_q hj']
  have q1 := hfq _ (List.getElem_mem hi')
  have q2 := hfq _ (List.getElem_mem hj')
  omega
set_option maxRecDepth 100000 in
set_option maxHeartbeats 4000000 in
theorem rBound_any (B : Nat) (A : Option Addr) (n c : Nat) (a : Ar) (o : Od) (w : World) (hM : MsAt w B A n a.m) (hB : B ≤ w.heap.size) (hn : n ≤ 17) (hE : armE a = 0) (ho : orderE o = 0) :
    Calls Tryz.prog 53 #[.agg #[.slice A n c, .int .i64 a.lo, .int .i64 a.hi, .int .i64 a.cur, .int .i64 a.lim], .agg #[.int .i64 o.n, .int .i64 o.c]] w fun e w' => e = .returned (.int .i64 (boundL a o)) ∧ Below w.heap.size w w' := by
  have hl := (md_at hM).1
  have HSp := Lib.hid (fun W (hW : Below w.heap.size w W) => rSpread_any B A n c a W (hM.below (hW.mono hB)) (by have := hW.size; omega) hn hE)
  have hoc := (order_zero ho).2
  obtain ⟨hsn, hsle⟩ := spread_small hE
  have HBd : Hid (boundL a o = if (n : Int) ≤ a.lim then max (spreadL a) (absI o.c) else spreadL a + absI o.c) := Lib.hid (by unfold boundL; rw [hl])
  have hab : 0 ≤ absI o.c ∧ absI o.c ≤ 1000 := by unfold absI; omega
  have hsg : (o.c < -o.c ∧ absI o.c = -o.c) ∨ (¬ o.c < -o.c ∧ absI o.c = o.c) := by unfold absI; omega
  have hw0 : IntKind.i64.wrap (-o.c) = -o.c := by rw [IntKind.wrap_i64]; omega
  have hw1 : IntKind.i64.wrap (0 - o.c) = -o.c := by rw [IntKind.wrap_i64]; omega
  generalize spreadL a = sp at *
  obtain ⟨ab, hab0⟩ : ∃ ab, absI o.c = ab := ⟨_, rfl⟩
  rw [hab0] at HBd hab hsg
  have hwr : IntKind.i64.wrap (sp + ab) = sp + ab := by rw [IntKind.wrap_i64]; omega
  clear hM hE ho hab0 hl
  go_enter Tryz.func53, Tryz.ntmps53
  go_upto_region 1 with fail
  refine wp_world ?_
  intro W0 hW0
  have bA0 : Blk W0 w.heap.size 26 #[.slice A n c, .int .i64 a.lo, .int .i64 a.hi, .int .i64 a.cur, .int .i64 a.lim] := by rw [hW0]; exact bk_
  have bO0 : Blk W0 (w.heap.size + 1) 68 #[.int .i64 o.n, .int .i64 o.c] := by rw [hW0]; exact bk_
  have HB0 : Hid (Below w.heap.size w W0) := by rw [hW0]; exact Lib.hid bl_
  clear hW0
  go_cut [5] (fun s5 wx => s5 = .int .i64 ab ∧ Below W0.heap.size W0 wx)
  case first =>
    have cO := bO0.cell
    have lO := bO0.lt
    clear HBd hwr hab
    rcases hsg with ⟨hd, e⟩ | ⟨hd, e⟩
    · go_wp2_with fail
      go_meet
      case rel => exact ⟨by rw [e, Int.max_eq_right (by omega)], Below.refl _ _⟩
    · go_wp2_with fail
      go_meet
      case rel => exact ⟨by rw [e, Int.max_eq_left (by omega)], Below.refl _ _⟩
  rename World => w1
  obtain ⟨rfl, hb1⟩ := hcut
  have hs1 := hb1.size
  have bA1 := bA0.kept hb1
  have HB1 := Lib.hid (HB0.out.trans (hb1.mono HB0.out.size))
  have cA := bA1.cell
  have lA := bA1.lt
  clear hsg hw0 hw1 bO0 bA0 hb1
  by_cases hq : (n : Int) ≤ a.lim
  · rw [if_pos hq] at HBd
    go_wp2_with fail
    refine (HSp.out _ HB1.out).mono ?_
    rintro e w2 ⟨rfl, hb2⟩
    go_wp2_with fail
    go_ret
    exact ⟨by rw [HBd.out]; rfl, HB1.out.trans (hb2.mono HB1.out.size)⟩
  · rw [if_neg hq] at HBd
    go_wp2_with fail
    refine (HSp.out _ HB1.out).mono ?_
    rintro e w2 ⟨rfl, hb2⟩
    go_wp2_with fail
    go_ret
    exact ⟨by rw [HBd.out]; rfl, HB1.out.trans (hb2.mono HB1.out.size)⟩
set_option maxRecDepth 100000 in
set_option maxHeartbeats 4000000 in
theorem rGuaranteed_any (B : Nat) (A : Option Addr) (n c : Nat) (a : Ar) (w : World) (hM : MsAt w B A n a.m) (hB : B ≤ w.heap.size) (hn : n ≤ 17) (hE : armE a = 0) :
    Calls Tryz.prog 61 #[.agg #[.slice A n c, .int .i64 a.lo, .int .i64 a.hi, .int .i64 a.cur, .int .i64 a.lim]] w fun e w' => e = .returned (.int .i64 (guarL a : Int)) ∧ Below w.heap.size w w' := by
  obtain ⟨hl, hat⟩ := md_at hM
  have hFit := fit_of hE
  have hcu := hFit.cur
  have hlo := hFit.lo
  have hhi := hFit.hi
  have HL := Lib.hid hl
  have HA := Lib.hid hat
  have HQ := Lib.hid hFit.q
  have HBd := Lib.hid hFit.band
  clear hat hM hE hFit hl
  go_enter Tryz.func61, Tryz.ntmps61
  go_wp2_with fail
  go_loopw [3, 4] (fun s3 s4 wr => ∃ k : Nat, k ≤ 256 ∧ s3 = .int .i64 ((k : Int) + 1) ∧ Hid (guarL a = guarGo a (256 - k) k) ∧ Below w.heap.size w wr ∧ Blk wr w.heap.size 26 #[.slice A n c, .int .i64 a.lo, .int .i64 a.hi, .int .i64 a.cur, .int .i64 a.lim]) (fun s3 _ _ => 258 - (intOf s3).toNat)
  case atStart => exact ⟨0, by omega, rfl, Lib.hid rfl, bl_, bk_⟩
  case round =>
    obtain ⟨k, hk, rfl, hg, hb, bA⟩ := hrel
    have hsr := hb.size
    have HBr := Lib.hid hb
    have BA := Lib.hid bA
    clear bA hb
    by_cases hlt : k < 256
    · have hlt' : (k : Int) + 1 ≤ 256 := by omega
      obtain ⟨m, hm⟩ : ∃ m, ((k : Int) + 1) * a.cur = m := ⟨_, rfl⟩
      have hmb : 0 ≤ m ∧ m ≤ 256000 := by
        have e := Int.natAbs_mul ((k : Int) + 1) a.cur
        have h1 := Nat.mul_le_mul (show ((k : Int) + 1).natAbs ≤ 256 by omega) (show a.cur.natAbs ≤ 1000 by omega)
        have h2 : 0 ≤ ((k : Int) + 1) * a.cur := Int.mul_nonneg (by omega) (by omega)
        rw [hm] at e h2
        omega
      have hw1 : IntKind.i64.wrap ((k : Int) + 1 + 1) = (k : Int) + 1 + 1 := by rw [IntKind.wrap_i64]; omega
      have hw2 : IntKind.i64.wrap (((k : Int) + 1) * a.cur) = m := by rw [hm, IntKind.wrap_i64]; omega
      have HMk := Lib.hid hm
      clear hm
      have cA := BA.out.cell
      have lA := BA.out.lt
      go_upto_block 1 with fail
      go_cut [4] (fun s4 wx => Below wr.heap.size wr wx ∧ Hid (∀ i, (hi : i < a.m.length) → hitB a m a.m[i] = false))
      case first =>
        clear cA lA
        go_wp2_with fail
        go_loopw [4] (fun s4 wq => ∃ i : Nat, i ≤ n ∧ s4 = .int .i64 (i : Int) ∧ Below wr.heap.size wr wq ∧ Hid (∀ j, (hj : j < a.m.length) → j < i → hitB a m a.m[j] = false)) (fun s4 _ => n - (intOf s4).toNat)
        case atStart => exact ⟨0, by omega, rfl, Below.refl _ _, Lib.hid (fun j _ h => absurd h (Nat.not_lt_zero _))⟩
        case round =>
          rename World => wq
          obtain ⟨i, hi, rfl, hbq, hno⟩ := hrel
          have hsq := hbq.size
          have HBq := Lib.hid hbq
          have bAq := BA.out.kept hbq
          have hBw := HBr.out.trans (hbq.mono hsr)
          have cA := bAq.cell
          have lA := bAq.lt
          by_cases hin : i < n
          · have hil : i < a.m.length := by rw [HL.out]; exact hin
            obtain ⟨b, o, eA, hbb, z0, z1, z2, z3⟩ := HA.out i hil
            have kb : ∀ i, wq.cell? ⟨b, i, none⟩ = w.cell? ⟨b, i, none⟩ := fun i => hBw.cell (p := ⟨b, i, none⟩) (by simp; omega)
            rw [← kb] at z0 z1 z2 z3
            clear kb
            have hbw : b < wq.heap.size := by omega
            have hxq := HQ.out _ (List.getElem_mem hil)
            have hxb := HBd.out _ (List.getElem_mem hil)
            have HHit : Hid (∀ h : Bool, hitB a m a.m[i] = h → (h = true → guarL a = k) ∧ (h = false → ∀ j, (hj : j < a.m.length) → j < i + 1 → hitB a m a.m[j] = false)) := Lib.hid (fun h e => ⟨fun ht => guar_at (f := 256 - k) (by omega) hg.out hil (by rw [HMk.out, e, ht]) (by omega), fun hf j hj hji => by
              by_cases hjlt : j < i
              · exact hno.out j hj hjlt
              · obtain rfl : j = i := by omega
                rw [e, hf]⟩)
            have hhb : hitB a m a.m[i] = (!(a.m[i]).by_ && (decide ((a.m[i]).q - m < a.lo) || decide (a.hi < (a.m[i]).q + m))) := rfl
            subst eA
            clear hBw hbq hno bAq
            generalize a.m[i] = x at *
            obtain ⟨xn, xq, xo, xb⟩ := x
            dsimp only at z0 z1 z2 z3 hxq hxb hhb
            have HH2 := Lib.hid hhb
            clear hhb hil
            have hw3 : IntKind.i64.wrap (xq + m) = xq + m := by rw [IntKind.wrap_i64]; omega
            have hw4 : IntKind.i64.wrap (xq - m) = xq - m := by rw [IntKind.wrap_i64]; omega
            have hw5 : IntKind.i64.wrap ((k : Int) + 1 - 1) = (k : Int) := by rw [IntKind.wrap_i64]; omega
            have hw6 : IntKind.i64.wrap (k : Int) = (k : Int) := by rw [IntKind.wrap_i64]; omega
            cases xb with
            | true =>
              have HR := Lib.hid ((HHit.out false (HH2.out.trans rfl)).2 rfl)
              clear hxb
              go_wp2_with fail
              go_roundw
              case rel => exact ⟨i + 1, by omega, by go_num, HBq.out.trans ((show Below wq.heap.size wq _ from bl_).mono HBq.out.size), HR⟩
              case measure => simp [intOf]; omega
            | false =>
              have hband := hxb rfl
              clear hxb
              by_cases h1 : xq + m ≤ a.hi
              · have HI1 : Hid (inB a.lo a.hi (xq + m) = true) := Lib.hid (by unfold inB; rw [decide_eq_true (by omega), decide_eq_true h1]; rfl)
                by_cases h2 : a.lo ≤ xq - m
                · have HI2 : Hid (inB a.lo a.hi (xq - m) = true) := Lib.hid (by unfold inB; rw [decide_eq_true h2, decide_eq_true (by omega)]; rfl)
                  have HR := Lib.hid ((HHit.out false (HH2.out.trans (by rw [decide_eq_false (by omega), decide_eq_false (by omega)]; rfl))).2 rfl)
                  clear h1 h2
                  go_wp2_with fail
                  refine (rinBand_any _ _ _ a (xq + m) _).mono ?_
                  rintro e w2 ⟨rfl, hb2⟩
                  rw [HI1.out]
                  have hb2' : Below wq.heap.size wq w2 := bl_
                  have HB2 := Lib.hid hb2'
                  have hs2 := hb2'.size
                  have bA2 := (BA.out.kept HBq.out).kept hb2'
                  have bM2 : Blk w2 wq.heap.size 74 #[.string xn, .int .i64 xq, .bool xo, .bool false] := (Blk.new wq _ _).kept hb2
                  clear hb2 hb2' cA lA z0 z1 z2 z3
                  have cA := bA2.cell
                  have lA := bA2.lt
                  have cM := bM2.cell
                  have lM := bM2.lt
                  clear bA2 bM2
                  go_wp2_with fail
                  refine (rinBand_any _ _ _ a (xq - m) _).mono ?_
                  rintro e w3 ⟨rfl, hb3⟩
                  rw [HI2.out]
                  have HB3 := Lib.hid (HBq.out.trans ((HB2.out.trans (hb3.mono HB2.out.size)).mono HBq.out.size))
                  clear hb3
                  go_wp2_with fail
                  go_roundw
                  case rel => exact ⟨i + 1, by omega, by go_num, HB3.out, HR⟩
                  case measure => simp [intOf]; omega
                · have HI2 : Hid (inB a.lo a.hi (xq - m) = false) := Lib.hid (by unfold inB; rw [decide_eq_false h2]; rfl)
                  have HR := Lib.hid ((HHit.out true (HH2.out.trans (by rw [decide_eq_true (by omega)]; rfl))).1 rfl)
                  clear h1 h2
                  go_wp2_with fail
                  refine (rinBand_any _ _ _ a (xq + m) _).mono ?_
                  rintro e w2 ⟨rfl, hb2⟩
                  rw [HI1.out]
                  have hb2' : Below wq.heap.size wq w2 := bl_
                  have HB2 := Lib.hid hb2'
                  have hs2 := hb2'.size
                  have bA2 := (BA.out.kept HBq.out).kept hb2'
                  have bM2 : Blk w2 wq.heap.size 74 #[.string xn, .int .i64 xq, .bool xo, .bool false] := (Blk.new wq _ _).kept hb2
                  clear hb2 hb2' cA lA z0 z1 z2 z3
                  have cA := bA2.cell
                  have lA := bA2.lt
                  have cM := bM2.cell
                  have lM := bM2.lt
                  clear bA2 bM2
                  go_wp2_with fail
                  refine (rinBand_any _ _ _ a (xq - m) _).mono ?_
                  rintro e w3 ⟨rfl, hb3⟩
                  rw [HI2.out]
                  have HB3 := Lib.hid (HBr.out.trans ((HBq.out.trans ((HB2.out.trans (hb3.mono HB2.out.size)).mono HBq.out.size)).mono HBr.out.size))
                  clear hb3
                  go_wp2_with fail
                  go_ret
                  exact ⟨by rw [HR.out]; rfl, HB3.out⟩
              · have HI1 : Hid (inB a.lo a.hi (xq + m) = false) := Lib.hid (by unfold inB; rw [decide_eq_false h1, Bool.and_false])
                have HR := Lib.hid ((HHit.out true (HH2.out.trans (by rw [decide_eq_true (show a.hi < xq + m by omega), Bool.or_true]; rfl))).1 rfl)
                clear h1
                go_wp2_with fail
                refine (rinBand_any _ _ _ a (xq + m) _).mono ?_
                rintro e w2 ⟨rfl, hb2⟩
                rw [HI1.out]
                have hb2' : Below wq.heap.size wq w2 := bl_
                have HB3 := Lib.hid (HBr.out.trans ((HBq.out.trans (hb2'.mono HBq.out.size)).mono HBr.out.size))
                clear hb2 hb2' cA lA z0 z1 z2 z3
                go_wp2_with fail
                go_ret
                exact ⟨by rw [HR.out]; rfl, HB3.out⟩
          · obtain rfl : i = n := by omega
            clear hBw hbq bAq
            go_wp2_with fail
            go_meet
            case rel => exact ⟨HBq.out, Lib.hid (fun j hj => hno.out j hj (by rw [← HL.out]; exact hj))⟩
      rename World => wx
      obtain ⟨hbx, hno⟩ := hcut
      have HBx := Lib.hid (HBr.out.trans (hbx.mono hsr))
      have BX := Lib.hid (BA.out.kept hbx)
      have HG : Hid (guarL a = guarGo a (256 - (k + 1)) (k + 1)) := Lib.hid (guar_on (f := 256 - (k + 1)) (by rw [show 256 - (k + 1) + 1 = 256 - k by omega]; exact hg.out) (fun i hi => by rw [HMk.out]; exact hno.out i hi))
      clear hbx hno cA lA
      go_wp2_with fail
      go_roundw
      case rel => exact ⟨k + 1, by omega, by go_num, HG, HBx.out, BX.out⟩
      case measure => simp [intOf]; omega
    · obtain rfl : k = 256 := by omega
      have hlt' : ¬ ((256 : Nat) : Int) + 1 ≤ 256 := by omega
      have hlt2 : ¬ (256 : Int) + 1 ≤ 256 := by omega
      go_wp2_with fail
      go_ret
      exact ⟨by rw [hg.out]; rfl, HBr.out⟩
end Go.Proofs.YtfpjcnkfoehhmaaGreatDoor
