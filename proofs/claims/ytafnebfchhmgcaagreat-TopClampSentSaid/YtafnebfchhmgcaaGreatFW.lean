/- Samples in plain words: what both checks of a float compute. -/
import Derived.Test.YtafnebfchhmgcaaGreatFV
namespace Go.Proofs.YtafnebfchhmgcaaGreat
open Go Ieee
set_option linter.unusedSimpArgs false
set_option linter.unusedVariables false
set_option exponentiation.threshold 2000
def tenK : Nat := 2 ^ 1400
theorem tenK_pos : (0 : Int) < (tenK : Int) := by
  have : 0 < tenK := Nat.two_pow_pos _
  omega
theorem cmp_gt (a b : Int) : (some (compare a b) == some Ordering.gt) = decide (b < a) := by
  show (some (compareOfLessAndEq a b) == some Ordering.gt) = _
  unfold compareOfLessAndEq
  split
  · rw [decide_eq_false (by omega)]; rfl
  · split
    · rw [decide_eq_false (by omega)]; rfl
    · rw [decide_eq_true (by omega)]; rfl
theorem cmp_lt (a b : Int) : (some (compare a b) == some Ordering.lt) = decide (a < b) := by
  show (some (compareOfLessAndEq a b) == some Ordering.lt) = _
  unfold compareOfLessAndEq
  split
  · rw [decide_eq_true (by omega)]; rfl
  · split
    · rw [decide_eq_false (by omega)]; rfl
    · rw [decide_eq_false (by omega)]; rfl
theorem cmp_eq (a b : Int) : (some (compare a b) == some Ordering.eq) = decide (a = b) := by
  show (some (compareOfLessAndEq a b) == some Ordering.eq) = _
  unfold compareOfLessAndEq
  split
  · rw [decide_eq_false (by omega)]; rfl
  · split
    · rw [decide_eq_true (by omega)]; rfl
    · rw [decide_eq_false (by omega)]; rfl
theorem single_consts : single.fractionBits = 23 ∧ single.leastPlace = -149 ∧ 2 ^ single.exponentBits - 1 = 255 := ⟨rfl, rfl, rfl⟩
theorem double_consts : double.fractionBits = 52 ∧ double.leastPlace = -1074 ∧ 2 ^ double.exponentBits - 1 = 2047 := ⟨rfl, rfl, rfl⟩
/-- A finite float32. -/
structure Fin32 (x : Nat) (s : Bool) (m : Nat) (i : Int) : Prop where
  rd : single.read x = .number s m i
  m24 : m < 2 ^ 24
  lo : -149 ≤ i
  hi : i ≤ 104
theorem single_read (x : Nat) : (∃ s m i, Fin32 x s m i) ∨ (∃ s, single.read x = .infinity s) ∨ (∃ s t, single.read x = .nan s t) := by
  have e1 : single.binade = 8388608 := rfl
  have e2 : single.infRung = 2139095040 := rfl
  have e3 : single.leastPlace = -149 := rfl
  have h : single.read x = (if x % single.signWeight < single.binade then .number (x / single.signWeight % 2 == 1) (x % single.signWeight) single.leastPlace
    else if x % single.signWeight < single.infRung then .number (x / single.signWeight % 2 == 1) (single.binade + x % single.signWeight % single.binade) (single.leastPlace + (x % single.signWeight / single.binade - 1 : Nat))
    else if x % single.signWeight = single.infRung then .infinity (x / single.signWeight % 2 == 1) else .nan (x / single.signWeight % 2 == 1) (x % single.signWeight - single.infRung)) := rfl
  rw [e1, e2, e3] at h
  generalize x % single.signWeight = r at *
  generalize (x / single.signWeight % 2 == 1) = s at *
  split at h
  · exact .inl ⟨s, r, -149, h, by omega, by omega, by omega⟩
  · split at h
    · refine .inl ⟨s, _, _, h, by omega, by omega, by omega⟩
    · split at h
      · exact .inr (.inl ⟨s, h⟩)
      · exact .inr (.inr ⟨s, _, h⟩)
section
variable {x : Nat} {s : Bool} {m : Nat} {i : Int}
theorem vnum_abs (s : Bool) (m : Nat) (i : Int) : (vnum s m i).natAbs = m * 2 ^ (i + 1400).toNat := by
  unfold vnum
  rw [signed_eq, Int.natAbs_mul, Int.natAbs_natCast]
  cases s <;> simp
theorem Fin32.sub (h : Fin32 x s m i) : floatBits .sub .f32 x x = some 0 := by
  show ((single.read x).sum (single.read x).opposite).map single.write = some 0
  rw [h.rd]
  show (Datum.sum (.number s m i) (.number (!s) m i)).map single.write = some 0
  unfold Datum.sum
  dsimp only
  rw [signed_eq, signed_eq]
  have e : (if s then (-1 : Int) else 1) * ((m * 2 ^ (i - min i i).toNat : Nat) : Int) + (if (!s) then (-1 : Int) else 1) * ((m * 2 ^ (i - min i i).toNat : Nat) : Int) = 0 := by
    cases s <;> simp <;> omega
  rw [e]
  cases s <;> rfl
theorem val_1024 : vnum false 8388608 (-13) = 1024 * (tenK : Int) ∧ vnum true 8388608 (-13) = -1024 * (tenK : Int) := by
  constructor <;> decide +kernel
theorem Fin32.gt (h : Fin32 x s m i) : (FloatKind.f32.format.order x 1149239296 == some .gt) = decide (1024 * (tenK : Int) < vnum s m i) := by
  have e : single.read 1149239296 = .number false 8388608 (-13) := by decide +kernel
  show ((single.read x).order (single.read 1149239296) == some .gt) = _
  rw [h.rd, e, order_val (by have := h.lo; omega) (by omega), cmp_gt, val_1024.1]
theorem Fin32.lt (h : Fin32 x s m i) : (FloatKind.f32.format.order x 3296722944 == some .lt) = decide (vnum s m i < -1024 * (tenK : Int)) := by
  have e : single.read 3296722944 = .number true 8388608 (-13) := by decide +kernel
  show ((single.read x).order (single.read 3296722944) == some .lt) = _
  rw [h.rd, e, order_val (by have := h.lo; omega) (by omega), cmp_lt, val_1024.2]
/-- In range: its digits. -/
theorem Fin32.small (h : Fin32 x s m i) (hm : m ≠ 0) (hr : -1024 * (tenK : Int) ≤ vnum s m i ∧ vnum s m i ≤ 1024 * (tenK : Int)) : i + m.log2 ≤ 10 := by
  have h1 := vnum_abs s m i
  have h2 : (vnum s m i).natAbs ≤ 1024 * tenK := by omega
  rw [h1] at h2
  have h3 := Nat.log2_self_le hm
  have h4 : 2 ^ m.log2 * 2 ^ (i + 1400).toNat ≤ 2 ^ 10 * 2 ^ 1400 := Nat.le_trans (Nat.mul_le_mul_right _ h3) h2
  rw [← Nat.pow_add, ← Nat.pow_add] at h4
  have h5 := (Nat.pow_le_pow_iff_right (by decide)).1 h4
  have := h.lo
  omega
theorem vnum_zero (s : Bool) (i : Int) : vnum s 0 i = 0 := by
  unfold vnum
  rw [signed_eq]
  simp
theorem vnum_scale (s : Bool) (m a b : Nat) (i : Int) (hi : -1400 ≤ i - b) : vnum s (2 ^ (a + b) * m) (i - b) = ((2 ^ a : Nat) : Int) * vnum s m i := by
  unfold vnum
  rw [signed_eq, signed_eq]
  have e : (2 ^ (a + b) * m * 2 ^ (i - b + 1400).toNat : Nat) = 2 ^ a * (m * 2 ^ (i + 1400).toNat) := by
    have e1 : (i + 1400).toNat = b + (i - b + 1400).toNat := by omega
    rw [e1, Nat.pow_add, Nat.pow_add]
    ac_rfl
  rw [e, Int.natCast_mul, ← Int.mul_assoc, ← Int.mul_assoc, Int.mul_comm (if s then (-1 : Int) else 1)]
/-- Sixteen times it. -/
theorem Fin32.mul (h : Fin32 x s m i) (hr : -1024 * (tenK : Int) ≤ vnum s m i ∧ vnum s m i ≤ 1024 * (tenK : Int)) : ∃ p k l, floatBits .mul .f32 1098907648 x = some p ∧ single.read p = .number s k l ∧ -149 ≤ l ∧ vnum s k l = 16 * vnum s m i := by
  have e : single.read 1098907648 = .number false 8388608 (-19) := by decide +kernel
  have hlo := h.lo
  refine ⟨single.write (.number s (8388608 * m) (-19 + i)), ?_⟩
  have e1 : floatBits .mul .f32 1098907648 x = some (single.write (.number s (8388608 * m) (-19 + i))) := by
    show ((single.read 1098907648).product (single.read x)).map single.write = _
    rw [h.rd, e]
    show some (single.write (.number (false ^^ s) (8388608 * m) (-19 + i))) = _
    rw [Bool.false_xor]
  have hv : vnum s (8388608 * m) (-19 + i) = 16 * vnum s m i := by
    have := vnum_scale s m 4 19 i (by omega)
    rw [show (-19 : Int) + i = i - (19 : Nat) by omega]
    exact this
  by_cases hm : m = 0
  · subst hm
    refine ⟨0, -149, e1, ?_, by omega, by rw [vnum_zero, vnum_zero]; rfl⟩
    have e0 : single.write (.number s (8388608 * 0) (-19 + i)) = single.word s 0 := by
      show single.nearest s (8388608 * 0) (-19 + i) = _
      unfold Format.nearest
      rw [if_pos (by decide)]
    rw [e0]
    cases s <;> decide +kernel
  · have h1 := h.small hm hr
    have hne : 8388608 * m ≠ 0 := by omega
    have hl : (8388608 * m).log2 = m.log2 + 23 := by
      rw [show 8388608 * m = m * 2 ^ 23 by omega]
      rw [Nat.log2_eq_iff (by omega)]
      have a1 := Nat.log2_self_le hm
      have a2 := Nat.lt_log2_self (n := m)
      refine ⟨?_, ?_⟩
      · rw [Nat.pow_add]; exact Nat.mul_le_mul_right _ a1
      · rw [show m.log2 + 23 + 1 = (m.log2 + 1) + 23 by omega, Nat.pow_add]; exact Nat.mul_lt_mul_of_pos_right a2 (by decide)
    obtain ⟨k, l, r1, r2, r3, _⟩ := nearest_read single s (mag := 8388608 * m) (q := m) (t := 23) (place := -19 + i) (by omega) (by omega) h.m24 (by show (-149 : Int) ≤ _; omega) (by
      rw [hl]
      rw [single_consts.1, single_consts.2.1, single_consts.2.2]
      omega) (by decide) (by omega) (by decide)
    exact ⟨k, l, e1, r1, r2, by rw [r3, hv]⟩
/-- Cut towards zero. -/
theorem cut_zero (neg : Bool) (k : Nat) (l : Int) (hl : -1400 ≤ l) : Toward.zero.cut neg (k <<< l.toNat) (-l).toNat = k * 2 ^ (l + 1400).toNat / tenK := by
  unfold Toward.cut tenK
  dsimp only
  simp only [Bool.toNat_false, Nat.add_zero]
  rw [Nat.shiftLeft_eq, Nat.shiftLeft_eq, Nat.one_mul]
  generalize hn : k * 2 ^ l.toNat = n
  have h1 : n / 2 ^ min (-l).toNat (n.log2 + 2) = n / 2 ^ (-l).toNat := by
    rcases Nat.le_total (-l).toNat (n.log2 + 2) with h | h
    · rw [Nat.min_eq_left h]
    · rw [Nat.min_eq_right h]
      have a2 := Nat.lt_log2_self (n := n)
      rw [Nat.div_eq_of_lt (Nat.lt_of_lt_of_le a2 (Nat.pow_le_pow_right (by decide) (by omega))), Nat.div_eq_of_lt (Nat.lt_of_lt_of_le a2 (Nat.pow_le_pow_right (by decide) (by omega)))]
  rw [h1, ← hn]
  have e : k * 2 ^ (l + 1400).toNat * 2 ^ (-l).toNat = k * 2 ^ l.toNat * 2 ^ 1400 := by
    rw [Nat.mul_assoc, Nat.mul_assoc, ← Nat.pow_add, ← Nat.pow_add]
    congr 2
    omega
  have p1 := Nat.two_pow_pos (-l).toNat
  have p2 := Nat.two_pow_pos 1400
  rw [← Nat.mul_div_mul_right (k * 2 ^ l.toNat) (2 ^ (-l).toNat) p2, ← e, Nat.mul_comm (2 ^ (-l).toNat) (2 ^ 1400), Nat.mul_div_mul_right _ _ p1]
theorem toInt_val (s : Bool) (k : Nat) (l : Int) (hl : -1400 ≤ l) : (Datum.number s k l).toInt .zero = some ((vnum s k l).tdiv (tenK : Int)) := by
  unfold Datum.toInt Datum.integral
  dsimp only
  rw [cut_zero s k l hl, signed_eq]
  unfold vnum
  rw [signed_eq]
  simp only [Nat.pow_zero, Nat.mul_one]
  generalize k * 2 ^ (l + 1400).toNat = z
  cases s with
  | false => simp only [Bool.false_eq_true, if_false, Int.one_mul]; rfl
  | true =>
    simp only [if_true]
    rw [Int.neg_mul, Int.one_mul, Int.neg_mul, Int.one_mul, Int.neg_tdiv]
    rfl
theorem f32_int {v : Int} (hv : -16384 ≤ v ∧ v ≤ 16384) : ∃ s k l, single.read (floatOfInt .f32 v) = .number s k l ∧ -149 ≤ l ∧ vnum s k l = v * (tenK : Int) := by
  have e : floatOfInt .f32 v = single.nearest (v < 0) v.natAbs 0 := rfl
  have hval : vnum (decide (v < 0)) v.natAbs 0 = v * (tenK : Int) := by
    unfold vnum
    rw [signed_eq, Int.natCast_mul, ← Int.mul_assoc]
    have h1 : (if decide (v < 0) = true then (-1 : Int) else 1) * (v.natAbs : Int) = v := by
      split
      · rename_i h; have := of_decide_eq_true h; omega
      · rename_i h; have := of_decide_eq_false (by simpa using h : decide (v < 0) = false); omega
    rw [h1]
    rfl
  by_cases h0 : v = 0
  · subst h0
    exact ⟨false, 0, -149, by decide +kernel, by omega, by rw [vnum_zero]; simp⟩
  · have hlog : v.natAbs.log2 ≤ 14 := by
      have : v.natAbs < 2 ^ 15 := by omega
      have := (Nat.log2_lt (by omega)).2 this
      omega
    obtain ⟨k, l, r1, r2, r3, _⟩ := nearest_read single (decide (v < 0)) (mag := v.natAbs) (q := v.natAbs) (t := 0) (place := 0) (by omega) (by omega) (by show _ < 2 ^ 24; omega) (by show (-149 : Int) ≤ _; omega) (by
      rw [single_consts.1, single_consts.2.1, single_consts.2.2]
      omega) (by decide) (by omega) (by decide)
    exact ⟨_, k, l, by rw [e]; exact r1, r2, by rw [r3, hval]⟩
theorem tdiv_bd {a c : Int} {n : Nat} (hc : 0 < c) (h : -(n * c) ≤ a ∧ a ≤ n * c) : -(n : Int) ≤ a.tdiv c ∧ a.tdiv c ≤ n := by
  have h1 := Int.natAbs_tdiv a c
  have h2 : a.natAbs ≤ n * c.natAbs := by
    have e : ((n * c.natAbs : Nat) : Int) = n * c := by rw [Int.natCast_mul, Int.natAbs_of_nonneg (Int.le_of_lt hc)]
    omega
  have h3 : a.natAbs / c.natAbs ≤ n := Nat.div_le_of_le_mul (by rw [Nat.mul_comm]; exact h2)
  have h4 : (a.tdiv c).natAbs ≤ n := by rw [h1]; exact h3
  omega
theorem tdiv_dvd {a c : Int} (hc : 0 < c) : decide (a.tdiv c * c = a) = decide (a % c = 0) := by
  rw [decide_eq_decide]
  constructor
  · intro h
    rw [← h]
    exact Int.mul_emod_left _ _
  · intro h
    have := Int.dvd_of_emod_eq_zero h
    exact Int.tdiv_mul_cancel this
/-- What the program computes of a sample in range. -/
theorem Fin32.whole (h : Fin32 x s m i) (hr : -1024 * (tenK : Int) ≤ vnum s m i ∧ vnum s m i ≤ 1024 * (tenK : Int)) : ∃ p v, floatBits .mul .f32 1098907648 x = some p ∧ floatToIntVal .f32 p .i64 = some v ∧ (-16384 ≤ v ∧ v ≤ 16384) ∧ (FloatKind.f32.format.order (floatOfInt .f32 v) p == some .eq) = decide (16 * vnum s m i % (tenK : Int) = 0) ∧ (16 * vnum s m i % (tenK : Int) = 0 → v = 16 * vnum s m i / (tenK : Int)) := by
  obtain ⟨p, k, l, h1, h2, h3, h4⟩ := h.mul hr
  have hT := tenK_pos
  generalize vnum s m i = V at *
  generalize hTT : (tenK : Int) = T at *
  have hb := tdiv_bd (a := 16 * V) (c := T) (n := 16384) hT (by constructor <;> simp <;> omega)
  refine ⟨p, (16 * V).tdiv T, h1, ?_, by simpa using hb, ?_, fun hd => ?_⟩
  · unfold floatToIntVal
    have e : FloatKind.f32.decode p = .number s k l := h2
    rw [e, toInt_val _ _ _ (by omega), h4, hTT]
    dsimp only
    rw [if_pos ⟨by show (-9223372036854775808 : Int) ≤ _; simp at hb; omega, by show _ ≤ (9223372036854775807 : Int); simp at hb; omega⟩]
  · obtain ⟨s', k', l', r1, r2, r3⟩ := f32_int (v := (16 * V).tdiv T) (by simpa using hb)
    show ((single.read _).order (single.read p) == some .eq) = _
    rw [r1, h2, order_val (by omega) (by omega), cmp_eq, r3, h4, hTT, tdiv_dvd hT]
  · obtain ⟨c, hc⟩ := Int.dvd_of_emod_eq_zero hd
    rw [hc, Int.mul_tdiv_cancel_left _ (by omega), Int.mul_ediv_cancel_left _ (by omega)]
end
end Go.Proofs.YtafnebfchhmgcaaGreat
