/- Floats in plain words: a word's number, and which numbers are written exactly. -/
import Derived.Laws.FloatArith
namespace Go.Proofs.YtafnebfchhmgcaaGreat
open Go Ieee
set_option linter.unusedSimpArgs false
set_option linter.unusedVariables false
/-- A number, scaled by 2 ^ 1400. -/
def vnum (s : Bool) (m : Nat) (i : Int) : Int := signed s m (i + 1400).toNat
theorem signed_eq (s : Bool) (m k : Nat) : signed s m k = (if s then -1 else 1) * ((m * 2 ^ k : Nat) : Int) := by
  unfold signed
  rw [Nat.shiftLeft_eq]
  cases s <;> simp
theorem signed_add (s : Bool) (m a b : Nat) : signed s m (a + b) = signed s m a * ((2 ^ b : Nat) : Int) := by
  rw [signed_eq, signed_eq, Nat.pow_add, ← Nat.mul_assoc, Int.natCast_mul (m * 2 ^ a), Int.mul_assoc]
theorem compare_mul (a b : Int) {c : Nat} (hc : 0 < c) : compare (a * (c : Int)) (b * (c : Int)) = compare a b := by
  have hc' : (0 : Int) < (c : Int) := by omega
  show compareOfLessAndEq _ _ = compareOfLessAndEq _ _
  unfold compareOfLessAndEq
  have h1 : a * (c : Int) < b * (c : Int) ↔ a < b := ⟨fun h => Int.lt_of_mul_lt_mul_right h (Int.le_of_lt hc'), fun h => Int.mul_lt_mul_of_pos_right h hc'⟩
  have h2 : a * (c : Int) = b * (c : Int) ↔ a = b := ⟨fun h => Int.eq_of_mul_eq_mul_right (by omega) h, fun h => by rw [h]⟩
  simp only [h1, h2]
theorem order_val {s t : Bool} {m n : Nat} {i j : Int} (hi : -1400 ≤ i) (hj : -1400 ≤ j) : Datum.order (.number s m i) (.number t n j) = some (compare (vnum s m i) (vnum t n j)) := by
  unfold Datum.order vnum
  dsimp only
  have e1 : (i + 1400).toNat = (i - min i j).toNat + (min i j + 1400).toNat := by omega
  have e2 : (j + 1400).toNat = (j - min i j).toNat + (min i j + 1400).toNat := by omega
  rw [e1, e2, signed_add, signed_add, compare_mul _ _ (Nat.two_pow_pos _)]
/-- A finite number that a format has, written and read again. -/
theorem nearest_read (f : Format) (neg : Bool) {mag q t : Nat} {place : Int} (hm : mag = q * 2 ^ t) (hq : 0 < q) (hb : q < 2 ^ (f.fractionBits + 1)) (hlo : f.leastPlace ≤ place + t)
    (hhi : (place + mag.log2 - f.fractionBits - f.leastPlace + 2).toNat ≤ 2 ^ f.exponentBits - 1) (hmin : (2 : Nat) ≤ 2 ^ f.exponentBits - 1) (hplace : -1400 ≤ place) (hlp : -1400 ≤ f.leastPlace) :
    ∃ k l, f.read (f.nearest neg mag place) = .number neg k l ∧ f.leastPlace ≤ l ∧ vnum neg k l = vnum neg mag place ∧ k < 2 ^ (f.fractionBits + 1) := by
  have hp := Nat.two_pow_pos t
  have hmag : mag ≠ 0 := by
    rw [hm]
    exact Nat.mul_ne_zero (by omega) (by omega)
  have hlog : mag.log2 ≤ f.fractionBits + t := by
    have h1 : mag < 2 ^ (f.fractionBits + 1 + t) := by
      rw [hm, Nat.pow_add]
      exact Nat.mul_lt_mul_of_pos_right hb hp
    have := (Nat.log2_lt hmag).2 h1
    omega
  have hl1 := Nat.log2_self_le hmag
  have hl2 := Nat.lt_log2_self (n := mag)
  unfold Format.nearest
  rw [if_neg hmag]
  dsimp only
  obtain ⟨last, hlast⟩ : ∃ last, max (place + (mag.log2 : Int) - (f.fractionBits : Int)) f.leastPlace = last := ⟨_, rfl⟩
  rw [hlast]
  have hl3 : last ≤ place + t := by omega
  have hl4 : f.leastPlace ≤ last := by omega
  -- what is kept
  obtain ⟨kept, hk, hkv⟩ : ∃ kept, Toward.even.cut neg (mag <<< (place - last).toNat) (last - place).toNat = kept ∧ kept * 2 ^ (last - place).toNat = mag * 2 ^ (place - last).toNat := by
    refine ⟨_, rfl, ?_⟩
    rcases Int.le_total last place with h | h
    · have e : (last - place).toNat = 0 := by omega
      rw [e]
      unfold Toward.cut
      have h0 : (decide ((1 : Nat) < 2 * (mag <<< (place - last).toNat % 1)) || 1 == 2 * (mag <<< (place - last).toNat % 1) && mag <<< (place - last).toNat % 2 == 1) = false := by
        rw [Nat.mod_one]
        rfl
      simp only [Nat.zero_min, Nat.shiftLeft_zero, Nat.div_one, h0, Nat.pow_zero, Nat.mul_one, Bool.toNat_false, Nat.add_zero]
      rw [Nat.shiftLeft_eq]
    · have e : (place - last).toNat = 0 := by omega
      obtain ⟨d, hd⟩ : ∃ d, (last - place).toNat = d := ⟨_, rfl⟩
      rw [e, hd, Nat.shiftLeft_zero]
      have hdt : d ≤ t := by omega
      have ht : t ≤ mag.log2 := by
        rw [Nat.le_log2 hmag, hm]
        exact Nat.le_mul_of_pos_left _ hq
      have hmin2 : min d (mag.log2 + 2) = d := by omega
      have hdiv : mag = (q * 2 ^ (t - d)) * 2 ^ d := by
        rw [hm, Nat.mul_assoc, ← Nat.pow_add]
        congr 2
        omega
      have hpd := Nat.two_pow_pos d
      unfold Toward.cut
      dsimp only
      rw [hmin2, Nat.shiftLeft_eq, Nat.one_mul]
      have hr : mag % 2 ^ d = 0 := by rw [hdiv]; exact Nat.mul_mod_left _ _
      have hq2 : mag / 2 ^ d = q * 2 ^ (t - d) := by
        conv => lhs; rw [hdiv]
        exact Nat.mul_div_cancel _ hpd
      rw [hr, hq2]
      have h0 : (decide (2 ^ d < 2 * 0) || (2 ^ d == 2 * 0 && q * 2 ^ (t - d) % 2 == 1)) = false := by
        have : (2 ^ d == 2 * 0) = false := by simp
        rw [this]
        simp
      rw [h0]
      simp
      rw [Nat.mul_assoc, ← Nat.pow_add, hm]
      congr 2
      omega
  rw [hk]
  clear hk
  have hb2 : 0 < f.binade := Nat.two_pow_pos _
  have hkb : kept < 2 * f.binade := by
    -- kept * 2 ^ (last - place) < 2 ^ (log2 + 1) * 2 ^ (place - last)
    have h1 : kept * 2 ^ (last - place).toNat < 2 ^ (mag.log2 + 1) * 2 ^ (place - last).toNat := by
      rw [hkv]
      exact Nat.mul_lt_mul_of_pos_right hl2 (Nat.two_pow_pos _)
    rw [← Nat.pow_add] at h1
    have h2 : 2 ^ (mag.log2 + 1 + (place - last).toNat) ≤ 2 ^ (f.fractionBits + 1) * 2 ^ (last - place).toNat := by
      rw [← Nat.pow_add]
      exact Nat.pow_le_pow_right (by decide) (by omega)
    have h3 := Nat.lt_of_lt_of_le h1 h2
    have h4 := Nat.lt_of_mul_lt_mul_right h3
    unfold Format.binade
    rw [Nat.pow_succ] at h4
    omega
  have hval : vnum neg kept last = vnum neg mag place := by
    unfold vnum
    rw [signed_eq, signed_eq]
    congr 2
    have e1 : (last + 1400).toNat + (place - last).toNat = (place + 1400).toNat + (last - place).toNat := by omega
    have h1 : kept * 2 ^ (last + 1400).toNat * 2 ^ ((last - place).toNat + (place - last).toNat) = mag * 2 ^ (place + 1400).toNat * 2 ^ ((last - place).toNat + (place - last).toNat) := by
      calc kept * 2 ^ (last + 1400).toNat * 2 ^ ((last - place).toNat + (place - last).toNat) = (kept * 2 ^ (last - place).toNat) * 2 ^ ((last + 1400).toNat + (place - last).toNat) := by
            rw [Nat.mul_assoc, Nat.mul_assoc, ← Nat.pow_add, ← Nat.pow_add]
            congr 2
            omega
        _ = (mag * 2 ^ (place - last).toNat) * 2 ^ ((place + 1400).toNat + (last - place).toNat) := by rw [hkv, e1]
        _ = _ := by
            rw [Nat.mul_assoc, Nat.mul_assoc, ← Nat.pow_add, ← Nat.pow_add]
            congr 2
            omega
    exact Nat.eq_of_mul_eq_mul_right (Nat.two_pow_pos _) h1
  obtain ⟨d, hd⟩ : ∃ d, (last - f.leastPlace).toNat = d := ⟨_, rfl⟩
  rw [hd]
  have hbig : last ≠ f.leastPlace → f.binade ≤ kept := by
    intro hne
    have e : last = place + (mag.log2 : Int) - (f.fractionBits : Int) := by omega
    have h1 : 2 ^ mag.log2 * 2 ^ (place - last).toNat ≤ kept * 2 ^ (last - place).toNat := by
      rw [hkv]
      exact Nat.mul_le_mul_right _ hl1
    rw [← Nat.pow_add] at h1
    have h2 : 2 ^ f.fractionBits * 2 ^ (last - place).toNat ≤ 2 ^ (mag.log2 + (place - last).toNat) := by
      rw [← Nat.pow_add]
      exact Nat.pow_le_pow_right (by decide) (by omega)
    exact Nat.le_of_mul_le_mul_right (Nat.le_trans h2 h1) (Nat.two_pow_pos _)
  have hdb : d + 2 ≤ 2 ^ f.exponentBits - 1 := by omega
  have hrung : d * f.binade + kept < f.infRung := by
    unfold Format.infRung
    have h1 : (d + 2) * f.binade ≤ (2 ^ f.exponentBits - 1) * f.binade := Nat.mul_le_mul_right _ hdb
    rw [Nat.add_mul] at h1
    omega
  have hinf : f.infRung < f.signWeight := by
    unfold Format.infRung Format.signWeight Format.binade
    rw [Nat.pow_add]
    exact Nat.mul_lt_mul_of_pos_right (by omega) (Nat.two_pow_pos _)
  rw [Nat.min_eq_left (Nat.le_of_lt hrung)]
  obtain ⟨rung, hr⟩ : ∃ rung, d * f.binade + kept = rung := ⟨_, rfl⟩
  rw [hr]
  rw [hr] at hrung
  have hw : f.word neg rung / f.signWeight % 2 = (if neg then 1 else 0) ∧ f.word neg rung % f.signWeight = rung := by
    have hpos : 0 < f.signWeight := by omega
    unfold Format.word
    cases neg with
    | true =>
      simp only [if_true]
      rw [Nat.add_div_left _ hpos, Nat.add_mod_left, Nat.div_eq_of_lt (by omega)]
      exact ⟨rfl, Nat.mod_eq_of_lt (by omega)⟩
    | false =>
      simp only [Bool.false_eq_true, if_false]
      rw [Nat.div_eq_of_lt (by omega)]
      exact ⟨rfl, Nat.mod_eq_of_lt (by omega)⟩
  have hneg : ((f.word neg rung / f.signWeight % 2) == 1) = neg := by rw [hw.1]; cases neg <;> rfl
  have hkb' : kept < 2 ^ (f.fractionBits + 1) := by
    rw [Nat.pow_succ]
    unfold Format.binade at hkb
    omega
  unfold Format.read
  dsimp only
  rw [hw.2, hneg]
  by_cases hsmall : rung < f.binade
  · rw [if_pos hsmall]
    have hd0 : d = 0 := by
      rcases Nat.eq_zero_or_pos d with h | h
      · exact h
      · have : 1 * f.binade ≤ d * f.binade := Nat.mul_le_mul_right _ h
        omega
    subst hd0
    have e1 : rung = kept := by omega
    have e2 : last = f.leastPlace := by omega
    exact ⟨_, _, rfl, by omega, by rw [e1, ← e2]; exact hval, by rw [e1]; exact hkb'⟩
  · rw [if_neg hsmall, if_pos hrung]
    have hkb3 : f.binade ≤ kept := by
      by_cases he : last = f.leastPlace
      · have : d = 0 := by omega
        subst this
        omega
      · exact hbig he
    have e1 : rung / f.binade = d + 1 := by
      rw [← hr, Nat.mul_comm, Nat.mul_add_div hb2, Nat.div_eq_of_lt_le (k := 1) (by omega) (by omega)]
    have e2 : rung % f.binade = kept - f.binade := by
      rw [← hr, Nat.mul_comm, Nat.mul_add_mod, Nat.mod_eq_sub_mod (by omega), Nat.mod_eq_of_lt (by omega)]
    rw [e1, e2]
    refine ⟨_, _, rfl, by omega, ?_, ?_⟩
    · have h1 : f.binade + (kept - f.binade) = kept := by omega
      have h2 : f.leastPlace + ((d + 1 - 1 : Nat) : Int) = last := by omega
      rw [h1, h2]
      exact hval
    · rw [show f.binade + (kept - f.binade) = kept by omega]
      exact hkb'
end Go.Proofs.YtafnebfchhmgcaaGreat
