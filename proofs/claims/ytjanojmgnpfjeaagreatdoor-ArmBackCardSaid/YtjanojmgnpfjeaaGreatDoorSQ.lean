/- The reference's Digits. -/
import Derived.Test.YtjanojmgnpfjeaaGreatDoorSG
namespace Go.Proofs.YtjanojmgnpfjeaaGreatDoor
open Go.RowKit Go.Sort Go.Shelf
set_option linter.unusedSimpArgs false
set_option linter.unusedVariables false
attribute [local go_sem] cell_if frozen_if grow_cell
def digR (s : ByteArray) : Int := if intOk s.data.toList then decV s.data.toList else 0
set_option maxRecDepth 100000 in
set_option maxHeartbeats 4000000 in
theorem Digits_any (s : ByteArray) (w : World) (hs : s.size ≤ maxLen) :
    Calls Tryz.prog 90 #[.string s] w fun e w' => e = .returned (.tuple #[.int .i64 (digR s), .bool (intOk s.data.toList)]) ∧ w = w' := by
  unfold maxLen at hs
  have hlen : s.data.toList.length = s.size := by simp
  by_cases h0 : s.size = 0
  · have HH : Hid (intOk s.data.toList = false ∧ digR s = 0) := Lib.hid (by
      have hl : s.data.toList = [] := List.length_eq_zero_iff.1 (by omega)
      unfold digR
      rw [hl]
      exact ⟨rfl, rfl⟩)
    have e0 : ((s.size : Int) == 0) = true := by rw [h0]; rfl
    clear h0 hlen
    go_enter Tryz.func90, Tryz.ntmps90
    go_wp2_with fail
    go_ret2
    exact ⟨by simp only [HH.out.1, HH.out.2]; rfl, rfl⟩
  have e0 : ((s.size : Int) == 0) = false := beq_eq_false_iff_ne.2 (by omega)
  by_cases h9 : 9 < s.size
  · have hh := (int_no (s := s) (.inr h9)).1
    have HH : Hid (intOk s.data.toList = false ∧ digR s = 0) := Lib.hid ⟨hh, by unfold digR; rw [hh]; rfl⟩
    have d9 : (9 : Int) < (s.size : Int) := by omega
    clear h0 hlen hh h9
    go_enter Tryz.func90, Tryz.ntmps90
    go_wp2_with fail
    go_ret2
    exact ⟨by simp only [HH.out.1, HH.out.2]; rfl, rfl⟩
  have d9 : ¬ (9 : Int) < (s.size : Int) := by omega
  have hsp : 0 < s.size := by omega
  by_cases hz : zeroB s.data.toList = true
  · have h1 : 1 < s.size := by
      rcases Nat.lt_or_ge 1 s.size with h | h
      · exact h
      · rw [zero_one (by omega)] at hz; cases hz
    have hzz := zero_more h1
    rw [hz] at hzz
    have hu : (((s[0]).toNat : Int) == 48) = true := by
      have := eq_of_beq hzz.symm
      rw [this]; rfl
    have hh : intOk s.data.toList = false := by unfold intOk; rw [hz]; simp
    have HH : Hid (intOk s.data.toList = false ∧ digR s = 0) := Lib.hid ⟨hh, by unfold digR; rw [hh]; rfl⟩
    have d1 : (1 : Int) < (s.size : Int) := by omega
    clear hh hz hzz
    go_enter Tryz.func90, Tryz.ntmps90
    go_wp2_with fail
    go_ret2
    exact ⟨by simp only [HH.out.1, HH.out.2]; rfl, rfl⟩
  have hz : zeroB s.data.toList = false := by simpa using hz
  have hcond : (1 : Int) < (s.size : Int) → (((s[0]).toNat : Int) == 48) = false := fun h => by
    have hzz := zero_more (s := s) (by omega)
    rw [hz] at hzz
    rw [Bool.eq_false_iff]
    intro hc
    have h1 : (s[0]).toNat = 48 := by have := eq_of_beq hc; omega
    have h2 : s[0] = 48 := by rw [← UInt8.toNat_inj]; exact h1
    rw [h2] at hzz
    exact absurd hzz (by decide)
  have HG : Hid (s.data.toList.all digB = true → intOk s.data.toList = true ∧ digR s = digV 0 s.data.toList) := Lib.hid (fun ha => by
    have he : s.data.toList.isEmpty = false := by
      cases hl : s.data.toList with
      | nil => rw [hl] at hlen; simp at hlen; omega
      | cons a b => rfl
    have hh : intOk s.data.toList = true := by unfold intOk; rw [ha, hz, he, hlen]; simp; omega
    exact ⟨hh, by unfold digR; rw [hh]; rfl⟩)
  have HN : Hid (s.data.toList.all digB = false → intOk s.data.toList = false ∧ digR s = 0) := Lib.hid (fun ha => by
    have hh := (int_no (s := s) (.inl ha)).1
    exact ⟨hh, by unfold digR; rw [hh]; rfl⟩)
  have Hall := Lib.hid (fun p hp => all_no (s := s) (p := p) hp)
  have Htk := Lib.hid (fun p hp => take_at s (p := p) hp)
  have Hbd := Lib.hid (fun p => digs_bd (s := s) (p := p))
  have HFull : Hid (s.data.toList.take s.size = s.data.toList) := Lib.hid (List.take_of_length_le (by simp))
  have HS9 : Hid (s.size ≤ 9) := Lib.hid (by omega)
  have hgo : ((1 : Int) < (s.size : Int) ∧ (((s[0]).toNat : Int) == 48) = false) ∨ ¬ (1 : Int) < (s.size : Int) := by
    by_cases h : (1 : Int) < (s.size : Int)
    · exact .inl ⟨h, hcond h⟩
    · exact .inr h
  clear hz hcond hlen h9
  rcases hgo with ⟨d1, d2⟩ | d1
  all_goals
    go_enter Tryz.func90, Tryz.ntmps90
    go_wp2_with fail
    go_loop [4, 5] (fun s4 s5 => ∃ p : Nat, p ≤ s.size ∧ s5 = .int .i64 (p : Int) ∧ s4 = .int .i64 (digV 0 (s.data.toList.take p)) ∧ (s.data.toList.take p).all digB = true) (fun _ i => s.size - (intOf i).toNat)
    case atStart => exact ⟨0, by omega, rfl, rfl, rfl⟩
    case round =>
      obtain ⟨p, hp, rfl, rfl, hf⟩ := hrel
      have Hf := Lib.hid hf
      clear hf
      by_cases hlt : p < s.size
      · have hps : (p : Int) < (s.size : Int) := by omega
        cases hq : digB s[p] with
        | false =>
          have HC : Hid (∀ w, Calls Tryz.prog 142 #[.int .u8 (s[p]).toNat] w fun e w' => e = .returned (.bool false) ∧ w = w') := Lib.hid (fun w => by rw [← hq]; exact isDigit_any s[p] w)
          have HH := Lib.hid (HN.out (Hall.out p hlt hq))
          clear hq
          go_wp2_with (go_at_call 142; refine (HC.out _).mono ?_; rintro e w1 ⟨rfl, rfl⟩)
          go_ret2
          exact ⟨by simp only [HH.out.1, HH.out.2]; rfl, rfl⟩
        | true =>
          have HC : Hid (∀ w, Calls Tryz.prog 142 #[.int .u8 (s[p]).toNat] w fun e w' => e = .returned (.bool true) ∧ w = w') := Lib.hid (fun w => by rw [← hq]; exact isDigit_any s[p] w)
          have hp9 : p ≤ 9 := by have := HS9.out; omega
          obtain ⟨hb1, hb2⟩ := Hbd.out p Hf.out hp9
          obtain ⟨z, hz⟩ : ∃ z : Int, ((s[p]).toNat : Int) = z := ⟨_, rfl⟩
          have hd := dig_z hz
          rw [hq] at hd
          have hzb : 48 ≤ z ∧ z ≤ 57 := by simpa using hd.symm
          have hnew : Hid (digV 0 (s.data.toList.take (p + 1)) = 10 * digV 0 (s.data.toList.take p) + (z - 48)) := Lib.hid (by rw [Htk.out p hlt, digV_snoc, hz])
          have hall : Hid ((s.data.toList.take (p + 1)).all digB = true) := Lib.hid (by rw [Htk.out p hlt, List.all_append, Hf.out, List.all_cons, hq]; rfl)
          generalize hv : digV 0 (s.data.toList.take p) = v at *
          have HVV := Lib.hid hv
          clear hv hd hq
          have e1 : IntKind.i64.wrap (10 * v) = 10 * v := by rw [IntKind.wrap_i64]; omega
          have e2 : IntKind.u8.wrap (z - 48) = z - 48 := by rw [IntKind.wrap_u8]; omega
          have e3 : IntKind.i64.wrap (z - 48) = z - 48 := by rw [IntKind.wrap_i64]; omega
          have e4 : IntKind.i64.wrap (10 * v + (z - 48)) = 10 * v + (z - 48) := by rw [IntKind.wrap_i64]; omega
          rw [hz] at HC
          clear hb1 hb2 hzb
          go_wp2_with (go_at_call 142; refine (HC.out _).mono ?_; rintro e w1 ⟨rfl, rfl⟩)
          go_round
          case rel => exact ⟨p + 1, by omega, by go_num, by rw [hnew.out], hall.out⟩
          case measure => simp [intOf]; omega
      · obtain rfl : p = s.size := by omega
        have HH := Lib.hid (HG.out (by have := Hf.out; rw [HFull.out] at this; exact this))
        rw [HFull.out]
        go_wp2
        go_ret2
        exact ⟨by simp only [HH.out.1, HH.out.2]; rfl, rfl⟩
end Go.Proofs.YtjanojmgnpfjeaaGreatDoor
