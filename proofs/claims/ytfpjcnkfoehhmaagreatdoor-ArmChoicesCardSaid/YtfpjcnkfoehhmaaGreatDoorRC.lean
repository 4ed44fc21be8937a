/- The law's checkSet: the error of a set of a valid arm. -/
import Derived.Test.YtfpjcnkfoehhmaaGreatDoorPC
import Derived.Test.YtfpjcnkfoehhmaaGreatDoorEC
import Derived.Deep.DeepCutAuto
import Derived.Deep.CutBlock
namespace Go.Proofs.YtfpjcnkfoehhmaaGreatDoor
open Go.RowKit Go.Sort Go.Shelf
set_option linter.unusedSimpArgs false
set_option linter.unusedVariables false
attribute [local go_sem] cell_if frozen_if grow_cell
set_option maxRecDepth 100000 in
set_option maxHeartbeats 4000000 in
theorem checkSet_any (B B2 : Nat) (A A2 : Option Addr) (n c n2 c2 : Nat) (a : Ar) (set : List Int) (w : World) (hM : MsAt w B A n a.m) (hB : B ≤ w.heap.size) (hn : n ≤ 17) (hE : armE a = 0) (h2 : Reads w B2 1 A2 n2 (set.map (.int .i64))) (hB2 : B2 ≤ w.heap.size) (hn2 : n2 ≤ 1000) :
    Calls Tryz.prog 49 #[.agg #[.slice A n c, .int .i64 a.lo, .int .i64 a.hi, .int .i64 a.cur, .int .i64 a.lim], .slice A2 n2 c2] w fun e w' => e = .returned (.int .i64 (chsE a set)) ∧ Below w.heap.size w w' := by
  obtain ⟨hl2, hat⟩ := int_at h2
  have hus := idxs_len usB a.m 0
  rw [(md_at hM).1] at hus
  have HU := Lib.hid (fun W (hW : Below w.heap.size w W) => rUsable_any B A n c a W (hM.below (hW.mono hB)) (by have := hW.size; omega) (by omega))
  have hUS : usL a = idxs usB 0 a.m := rfl
  rw [← hUS] at HU hus
  have HCh := Lib.hid (chsE_ok hE set)
  have HIn := Lib.hid (us_in (fit_of hE))
  have HL2 := Lib.hid hl2
  have HA2 := Lib.hid hat
  clear hM hE h2 hat hUS
  by_cases h16 : 16 < set.length
  · have hd : (16 : Int) < (n2 : Int) := by omega
    have hd2 : decide ((16 : Int) < (n2 : Int)) = true := decide_eq_true hd
    have HV : Hid (chsE a set = 5) := Lib.hid (by rw [HCh.out, if_pos h16])
    go_enter Tryz.func49, Tryz.ntmps49
    go_wp2_with fail
    go_ret
    exact ⟨by rw [HV.out]; rfl, bl_⟩
  · have hd : ¬ (16 : Int) < (n2 : Int) := by omega
    have hd2 : decide ((16 : Int) < (n2 : Int)) = false := decide_eq_false hd
    have HV : Hid (chsE a set = setGo a (-1) set) := Lib.hid (by rw [HCh.out, if_neg h16])
    clear hl2
    go_enter Tryz.func49, Tryz.ntmps49
    go_wp2_with fail
    go_loopw [5, 6, 12] (fun s5 s6 s12 wr => ∃ k : Nat, k ≤ n2 ∧ s12 = .int .i64 (k : Int) ∧ Hid (setGo a (-1) set = setGo a (lastAt set k) (set.drop k)) ∧ Below w.heap.size w wr ∧ Blk wr w.heap.size 26 #[.slice A n c, .int .i64 a.lo, .int .i64 a.hi, .int .i64 a.cur, .int .i64 a.lim]) (fun _ _ s12 _ => n2 - (intOf s12).toNat)
    case atStart => exact ⟨0, by omega, rfl, Lib.hid rfl, bl_, bk_⟩
    case round =>
      obtain ⟨k, hk, rfl, hg, hb, bA⟩ := hrel
      have hsr := hb.size
      have HBr := Lib.hid hb
      have BA := Lib.hid bA
      have cA := bA.cell
      have lA := bA.lt
      clear bA hb
      by_cases hlt : k < n2
      · have hkl : k < set.length := by rw [HL2.out]; exact hlt
        obtain ⟨b, o, eA, hbb, z0⟩ := HA2.out k hkl
        have kb : ∀ i, wr.cell? ⟨b, i, none⟩ = w.cell? ⟨b, i, none⟩ := fun i => HBr.out.cell (p := ⟨b, i, none⟩) (by simp; omega)
        have HP : Hid (∀ p : Nat, p + 1 = k → lastAt set k = (set[p]?).getD 0 ∧ w.cell? ⟨b, o + p, none⟩ = some (.int .i64 ((set[p]?).getD 0))) := Lib.hid (fun p hp => by
          have hpl : p < set.length := by omega
          obtain ⟨b', o', eA', _, y0⟩ := HA2.out p hpl
          rw [eA] at eA'
          cases eA'
          rw [List.getElem?_eq_getElem hpl]
          refine ⟨?_, y0⟩
          subst hp
          exact lastAt_succ hpl)
        rw [← kb] at z0
        have HKb := Lib.hid kb
        have hbw : b < wr.heap.size := by omega
        have HGo := Lib.hid (setGo_pos (a := a) hkl (lastAt set k))
        have HLs := Lib.hid (lastAt_succ hkl)
        have HMu : Hid (hasI (usL a) set[k] = true → 0 ≤ set[k]) := Lib.hid (fun h => (HIn.out _ ((hasI_iff _ _).1 h)).1)
        clear kb
        subst eA
        generalize set[k] = z at *
        obtain ⟨hu, hhu⟩ : ∃ hu, hasI (usL a) z = hu := ⟨_, rfl⟩
        rw [hhu] at HGo HMu
        have HHu := Lib.hid hhu
        clear hhu
        go_wp2_with fail
        refine (HU.out _ (HBr.out.trans ((show Below wr.heap.size wr _ from bl_).mono hsr))).mono ?_
        rintro e w2 ⟨v, rfl, hr, hb2⟩
        have hb2' : Below wr.heap.size wr w2 := bl_
        obtain ⟨A3, c3, rfl, _, _, hrd⟩ := own_form hr
        have HHi := Lib.hid (HasInt_any _ A3 (usL a).length c3 (usL a) z w2 hrd (by unfold maxLen; omega))
        rw [HHu.out] at HHi
        have HB2 := Lib.hid hb2'
        have hs2 := hb2'.size
        have BA2 := Lib.hid (BA.out.kept hb2')
        have hbw2 : b < w2.heap.size := by omega
        have HKc : Hid (∀ i, w2.cell? ⟨b, i, none⟩ = w.cell? ⟨b, i, none⟩) := Lib.hid (fun i => (hb2'.cell (p := ⟨b, i, none⟩) hbw).trans (HKb.out i))
        clear hr hrd hb2 hb2' cA lA z0 HKb
        have cA := BA2.out.cell
        have lA := BA2.out.lt
        go_wp2_with fail
        refine HHi.out.mono ?_
        rintro e w2' ⟨rfl, rfl⟩
        cases hu with
        | false =>
          go_wp2_with fail
          go_ret
          exact ⟨by rw [HV.out, hg.out, HGo.out]; rfl, HBr.out.trans (HB2.out.mono HBr.out.size)⟩
        | true =>
          have hz0 := HMu.out rfl
          rw [if_pos rfl] at HGo
          rcases Nat.eq_zero_or_pos k with hk0 | hk0
          · have hkz : ¬ (0 : Int) < (k : Int) := by omega
            have hkz2 : ¬ 0 < k := by omega
            have hkd : decide ((0 : Int) < (k : Int)) = false := decide_eq_false hkz
            have HR : Hid (setGo a (-1) set = setGo a (lastAt set (k + 1)) (set.drop (k + 1))) := Lib.hid (by
              rw [hg.out, HGo.out, HLs.out, if_neg]
              unfold lastAt
              rw [if_pos hk0]
              omega)
            clear hk0
            go_wp2_with fail
            go_roundw
            case rel => exact ⟨k + 1, by omega, by go_num, HR, HBr.out.trans (HB2.out.mono HBr.out.size), BA2.out⟩
            case measure => simp [intOf]; omega
          · obtain ⟨p, hp⟩ : ∃ p, p + 1 = k := ⟨k - 1, by omega⟩
            obtain ⟨hla, y0⟩ := HP.out p hp
            rw [← HKc.out] at y0
            have hkz : (0 : Int) < (k : Int) := by omega
            have hkd : decide ((0 : Int) < (k : Int)) = true := decide_eq_true hkz
            have hsub : (k : Int) - 1 = (p : Int) := by omega
            have hwp : IntKind.i64.wrap (p : Int) = (p : Int) := by rw [IntKind.wrap_i64]; omega
            have hpk : (p : Int) < (n2 : Int) := by omega
            have hpk2 : p < n2 := by omega
            have HLa := Lib.hid hla
            generalize (set[p]?).getD 0 = y at *
            have HP2 := Lib.hid hp
            clear hla hp HP
            by_cases hzy : z ≤ y
            · have HR : Hid (setGo a (-1) set = 11) := Lib.hid (by rw [hg.out, HGo.out, HLa.out, if_pos hzy])
              go_wp2_with fail
              go_ret
              exact ⟨by rw [HV.out, HR.out]; rfl, HBr.out.trans (HB2.out.mono HBr.out.size)⟩
            · have HR : Hid (setGo a (-1) set = setGo a (lastAt set (k + 1)) (set.drop (k + 1))) := Lib.hid (by rw [hg.out, HGo.out, HLs.out, HLa.out, if_neg hzy])
              go_wp2_with fail
              go_roundw
              case rel => exact ⟨k + 1, by omega, by go_num, HR, HBr.out.trans (HB2.out.mono HBr.out.size), BA2.out⟩
              case measure => simp [intOf]; omega
      · obtain rfl : k = n2 := by omega
        have HR : Hid (setGo a (-1) set = 0) := Lib.hid (by rw [hg.out, ← HL2.out]; exact setGo_fin _)
        go_wp2_with fail
        go_ret
        exact ⟨by rw [HV.out, HR.out]; rfl, HBr.out⟩
end Go.Proofs.YtfpjcnkfoehhmaaGreatDoor
