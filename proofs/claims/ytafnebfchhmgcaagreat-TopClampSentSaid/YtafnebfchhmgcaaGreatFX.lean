/- Samples in plain words: what the reference's check computes, in the wider format. -/
import Derived.Test.YtafnebfchhmgcaaGreatFW
namespace Go.Proofs.YtafnebfchhmgcaaGreat
open Go Ieee
set_option linter.unusedSimpArgs false
set_option linter.unusedVariables false
set_option exponentiation.threshold 2000
/-- A finite float64 in the reach of a float32. -/
structure Fin64 (y : Nat) (s : Bool) (V : Int) (k : Nat) (l : Int) : Prop where
  rd : double.read y = .number s k l
  k53 : k < 2 ^ 53
  lo : -1074 ≤ l
  val : vnum s k l = V
  lt : y < 2 ^ 64
theorem Fin32.wide {x m : Nat} {s : Bool} {i : Int} (h : Fin32 x s m i) : ∃ y k l, floatToFloatBits .f32 x .f64 = some y ∧ Fin64 y s (vnum s m i) k l := by
  have hlo := h.lo
  have hhi := h.hi
  obtain ⟨k, l, h1, h2, h3, h4⟩ : ∃ k l, double.read (double.write (.number s m i)) = .number s k l ∧ -1074 ≤ l ∧ vnum s k l = vnum s m i ∧ k < 2 ^ 53 := by
    by_cases hm : m = 0
    · subst hm
      refine ⟨0, -1074, ?_, by omega, by rw [vnum_zero, vnum_zero], by decide⟩
      have e0 : double.write (.number s 0 i) = double.word s 0 := by
        show double.nearest s 0 i = _
        unfold Format.nearest
        rw [if_pos rfl]
      rw [e0]
      cases s <;> decide +kernel
    · have hlog : m.log2 ≤ 23 := by
        have := (Nat.log2_lt hm).2 h.m24
        omega
      obtain ⟨k, l, r1, r2, r3, r4⟩ := nearest_read double s (mag := m) (q := m) (t := 0) (place := i) (by omega) (by omega) (Nat.lt_trans h.m24 (by rw [double_consts.1]; decide)) (by rw [double_consts.2.1]; omega) (by
        rw [double_consts.1, double_consts.2.1, double_consts.2.2]
        omega) (by decide) (by omega) (by decide)
      exact ⟨k, l, r1, r2, r3, r4⟩
  refine ⟨_, k, l, ?_, ⟨h1, h4, h2, h3, double.write_lt _⟩⟩
  unfold floatToFloatBits
  rw [if_neg (by decide)]
  have e : FloatKind.f32.decode x = .number s m i := h.rd
  have e2 : FloatKind.f64.decode (FloatKind.f64.encode (.number s m i)) = .number s k l := h1
  rw [e]
  dsimp only
  rw [e2, if_neg (by show ¬ (false = true); decide)]
  rfl
section
variable {y k : Nat} {s : Bool} {V l : Int}
theorem Fin64.self (h : Fin64 y s V k l) : FloatKind.f64.format.order y y = some .eq := by
  have e : (FloatKind.f64.format.order y y == some .eq) = true := by
    show ((double.read y).order (double.read y) == some .eq) = true
    rw [h.rd, order_val (by have := h.lo; omega) (by have := h.lo; omega), cmp_eq]
    simp
  exact eq_of_beq e
theorem val_1024d : vnum false 4503599627370496 (-42) = 1024 * (tenK : Int) ∧ vnum true 4503599627370496 (-42) = -1024 * (tenK : Int) := by
  constructor <;> decide +kernel
theorem Fin64.gt (h : Fin64 y s V k l) : (FloatKind.f64.format.order y (floatOfInt .f64 1024) == some .gt) = decide (1024 * (tenK : Int) < V) := by
  have e : double.read (floatOfInt .f64 1024) = .number false 4503599627370496 (-42) := by decide +kernel
  show ((double.read y).order (double.read _) == some .gt) = _
  rw [h.rd, e, order_val (by have := h.lo; omega) (by omega), cmp_gt, val_1024d.1, h.val]
theorem Fin64.less (h : Fin64 y s V k l) : (FloatKind.f64.format.order y (floatOfInt .f64 (-1024)) == some .lt) = decide (V < -1024 * (tenK : Int)) := by
  have e : double.read (floatOfInt .f64 (-1024)) = .number true 4503599627370496 (-42) := by decide +kernel
  show ((double.read y).order (double.read _) == some .lt) = _
  rw [h.rd, e, order_val (by have := h.lo; omega) (by omega), cmp_lt, val_1024d.2, h.val]
theorem Fin64.small (h : Fin64 y s V k l) (hk : k ≠ 0) (hr : -1024 * (tenK : Int) ≤ V ∧ V ≤ 1024 * (tenK : Int)) : l + k.log2 ≤ 10 := by
  have h1 := vnum_abs s k l
  rw [h.val] at h1
  have h2 : V.natAbs ≤ 1024 * tenK := by omega
  rw [h1] at h2
  have h3 := Nat.log2_self_le hk
  have h4 : 2 ^ k.log2 * 2 ^ (l + 1400).toNat ≤ 2 ^ 10 * 2 ^ 1400 := Nat.le_trans (Nat.mul_le_mul_right _ h3) h2
  rw [← Nat.pow_add, ← Nat.pow_add] at h4
  have h5 := (Nat.pow_le_pow_iff_right (by decide)).1 h4
  have := h.lo
  omega
theorem Fin64.mul (h : Fin64 y s V k l) (hr : -1024 * (tenK : Int) ≤ V ∧ V ≤ 1024 * (tenK : Int)) : ∃ z k2 l2, floatBits .mul .f64 4625196817309499392 y = some z ∧ double.read z = .number s k2 l2 ∧ -1074 ≤ l2 ∧ vnum s k2 l2 = 16 * V := by
  have e : double.read 4625196817309499392 = .number false 4503599627370496 (-48) := by decide +kernel
  have hlo := h.lo
  have e1 : floatBits .mul .f64 4625196817309499392 y = some (double.write (.number s (4503599627370496 * k) (-48 + l))) := by
    show ((double.read 4625196817309499392).product (double.read y)).map double.write = _
    rw [h.rd, e]
    show some (double.write (.number (false ^^ s) (4503599627370496 * k) (-48 + l))) = _
    rw [Bool.false_xor]
  have hv : vnum s (4503599627370496 * k) (-48 + l) = 16 * V := by
    have := vnum_scale s k 4 48 l (by omega)
    rw [show (-48 : Int) + l = l - (48 : Nat) by omega, ← h.val]
    exact this
  by_cases hk : k = 0
  · have hV : V = 0 := by rw [← h.val, hk, vnum_zero]
    subst hk
    refine ⟨_, 0, -1074, e1, ?_, by omega, by rw [vnum_zero, hV]; rfl⟩
    have e0 : double.write (.number s (4503599627370496 * 0) (-48 + l)) = double.word s 0 := by
      show double.nearest s (4503599627370496 * 0) (-48 + l) = _
      unfold Format.nearest
      rw [if_pos (by decide)]
    rw [e0]
    cases s <;> decide +kernel
  · have h1 := h.small hk hr
    have hl : (4503599627370496 * k).log2 = k.log2 + 52 := by
      rw [show 4503599627370496 * k = k * 2 ^ 52 by omega]
      rw [Nat.log2_eq_iff (by omega)]
      have a1 := Nat.log2_self_le hk
      have a2 := Nat.lt_log2_self (n := k)
      refine ⟨?_, ?_⟩
      · rw [Nat.pow_add]; exact Nat.mul_le_mul_right _ a1
      · rw [show k.log2 + 52 + 1 = (k.log2 + 1) + 52 by omega, Nat.pow_add]; exact Nat.mul_lt_mul_of_pos_right a2 (by decide)
    obtain ⟨k2, l2, r1, r2, r3, _⟩ := nearest_read double s (mag := 4503599627370496 * k) (q := k) (t := 52) (place := -48 + l) (by omega) (by omega) h.k53 (by rw [double_consts.2.1]; omega) (by
      rw [hl, double_consts.1, double_consts.2.1, double_consts.2.2]
      omega) (by decide) (by omega) (by decide)
    exact ⟨_, k2, l2, e1, r1, r2, by rw [r3, hv]⟩
/-- The floor of a float64, as the library's own. -/
def floorBits (z : Nat) : Nat := FloatKind.f64.encode ((FloatKind.f64.decode z).integral .down)
theorem cut_down (neg : Bool) (k : Nat) (l : Int) (hl : -1400 ≤ l) : ∃ c, c ≤ 1 ∧ Toward.down.cut neg (k <<< l.toNat) (-l).toNat = k * 2 ^ (l + 1400).toNat / tenK + c ∧ (k * 2 ^ (l + 1400).toNat % tenK = 0 → c = 0) := by
  have hz := cut_zero neg k l hl
  unfold Toward.cut at hz ⊢
  dsimp only at hz ⊢
  simp only [Bool.toNat_false, Nat.add_zero] at hz
  rw [hz]
  refine ⟨_, ?_, rfl, fun hd => ?_⟩
  · cases (neg && (k <<< l.toNat) % 1 <<< min (-l).toNat ((k <<< l.toNat).log2 + 2) != 0) <;> decide
  · obtain ⟨c, hc⟩ := Nat.dvd_of_mod_eq_zero hd
    have e : k * 2 ^ (l + 1400).toNat * 2 ^ (-l).toNat = k * 2 ^ l.toNat * 2 ^ 1400 := by
      rw [Nat.mul_assoc, Nat.mul_assoc, ← Nat.pow_add, ← Nat.pow_add]
      congr 2
      omega
    have p2 := Nat.two_pow_pos 1400
    have hn : k <<< l.toNat = c * 2 ^ (-l).toNat := by
      rw [Nat.shiftLeft_eq]
      refine Nat.eq_of_mul_eq_mul_right p2 ?_
      rw [← e, hc]
      unfold tenK
      ac_rfl
    have hr : (k <<< l.toNat) % 1 <<< min (-l).toNat ((k <<< l.toNat).log2 + 2) = 0 := by
      rw [Nat.shiftLeft_eq 1, Nat.one_mul]
      rcases Nat.eq_zero_or_pos c with h0 | h0
      · rw [hn, h0]; simp
      · have hne : k <<< l.toNat ≠ 0 := by
          rw [hn]
          exact Nat.mul_ne_zero (by omega) (by have := Nat.two_pow_pos (-l).toNat; omega)
        have h1 : (-l).toNat ≤ (k <<< l.toNat).log2 := by
          rw [Nat.le_log2 hne, hn]
          exact Nat.le_mul_of_pos_left _ h0
        rw [Nat.min_eq_left (by omega), hn]
        exact Nat.mul_mod_left _ _
    rw [hr]
    simp
theorem f64_nat (s : Bool) {F : Nat} (hF : F ≤ 20000) : ∃ k l, double.read (double.write (.number s F 0)) = .number s k l ∧ -1074 ≤ l ∧ vnum s k l = (if s then -1 else 1) * ((F * tenK : Nat) : Int) := by
  have hval : vnum s F 0 = (if s then -1 else 1) * ((F * tenK : Nat) : Int) := by
    unfold vnum
    rw [signed_eq]
    rfl
  by_cases h0 : F = 0
  · subst h0
    refine ⟨0, -1074, ?_, by omega, by rw [vnum_zero]; simp⟩
    have e0 : double.write (.number s 0 0) = double.word s 0 := by
      show double.nearest s 0 0 = _
      unfold Format.nearest
      rw [if_pos rfl]
    rw [e0]
    cases s <;> decide +kernel
  · have hlog : F.log2 ≤ 14 := by
      have : F < 2 ^ 15 := by omega
      have := (Nat.log2_lt (by omega)).2 this
      omega
    obtain ⟨k, l, r1, r2, r3, _⟩ := nearest_read double s (mag := F) (q := F) (t := 0) (place := 0) (by omega) (by omega) (by rw [double_consts.1]; omega) (by rw [double_consts.2.1]; omega) (by
      rw [double_consts.1, double_consts.2.1, double_consts.2.2]
      omega) (by decide) (by omega) (by decide)
    exact ⟨k, l, r1, r2, by rw [r3, hval]⟩
/-- A number is its own floor exactly if it is whole. -/
theorem floor_same {z k2 : Nat} {l2 : Int} (h : double.read z = .number s k2 l2) (hl : -1074 ≤ l2) (hb : (vnum s k2 l2).natAbs ≤ 16384 * tenK) : (FloatKind.f64.format.order z (floorBits z) == some .eq) = decide (vnum s k2 l2 % (tenK : Int) = 0) := by
  obtain ⟨c, hc1, hc2, hc3⟩ := cut_down s k2 l2 (by omega)
  have hT := tenK_pos
  have hT' : 0 < tenK := Nat.two_pow_pos _
  have habs := vnum_abs s k2 l2
  have hdef : vnum s k2 l2 = (if s then -1 else 1) * ((k2 * 2 ^ (l2 + 1400).toNat : Nat) : Int) := by
    unfold vnum
    rw [signed_eq]
  rw [habs] at hb
  have hfl : floorBits z = double.write (.number s (k2 * 2 ^ (l2 + 1400).toNat / tenK + c) 0) := by
    unfold floorBits
    have e : FloatKind.f64.decode z = .number s k2 l2 := h
    rw [e]
    unfold Datum.integral
    dsimp only
    rw [hc2]
    rfl
  have hq : k2 * 2 ^ (l2 + 1400).toNat / tenK ≤ 16384 := Nat.div_le_of_le_mul (Nat.le_trans hb (Nat.le_of_eq (Nat.mul_comm _ _)))
  obtain ⟨k3, l3, r1, r2, r3⟩ := f64_nat s (F := k2 * 2 ^ (l2 + 1400).toNat / tenK + c) (by omega)
  show ((double.read z).order (double.read (floorBits z)) == some .eq) = _
  rw [hfl, h, r1, order_val (by omega) (by omega), cmp_eq, r3, hdef]
  generalize k2 * 2 ^ (l2 + 1400).toNat = Z at *
  rw [decide_eq_decide]
  have hsg : ∀ a b : Int, ((if s then (-1 : Int) else 1) * a = (if s then -1 else 1) * b) ↔ a = b := fun a b => by
    cases s <;> simp
  rw [hsg]
  have hmod : ((if s then (-1 : Int) else 1) * (Z : Int)) % (tenK : Int) = 0 ↔ Z % tenK = 0 := by
    cases s with
    | false => simp only [Bool.false_eq_true, if_false, Int.one_mul]; omega
    | true =>
      simp only [if_true]
      rw [show (-1 : Int) * (Z : Int) = -(Z : Int) by omega, ← Int.dvd_iff_emod_eq_zero, Int.dvd_neg, Int.dvd_iff_emod_eq_zero]
      omega
  rw [hmod]
  constructor
  · intro he
    have he' : Z = (Z / tenK + c) * tenK := by omega
    rw [he']
    exact Nat.mul_mod_left _ _
  · intro hz
    rw [hc3 hz, Nat.add_zero, Nat.div_mul_cancel (Nat.dvd_of_mod_eq_zero hz)]
theorem Fin64.whole (h : Fin64 y s V k l) (hr : -1024 * (tenK : Int) ≤ V ∧ V ≤ 1024 * (tenK : Int)) : ∃ z s2 k2 l2, floatBits .mul .f64 4625196817309499392 y = some z ∧ double.read z = .number s2 k2 l2 ∧ (FloatKind.f64.format.order z (floorBits z) == some .eq) = decide (16 * V % (tenK : Int) = 0) := by
  obtain ⟨z, k2, l2, h1, h2, h3, h4⟩ := h.mul hr
  refine ⟨z, s, k2, l2, h1, h2, ?_⟩
  rw [floor_same h2 h3 (by rw [h4]; omega), h4]
/-- Without its sign it is no greater than the greatest float64. -/
theorem Fin64.abs (h : Fin64 y s V k l) (hV : V.natAbs < 2 ^ 128 * tenK) : (FloatKind.f64.format.order (y % 2 ^ 63) 9218868437227405311 == some .gt) = false := by
  have e0 : double.read (y % 2 ^ 63) = .number false k l := by
    have hr := h.rd
    have e1 : (y % 2 ^ 63) % double.signWeight = y % double.signWeight := by
      show (y % 2 ^ 63) % 2 ^ 63 = y % 2 ^ 63
      omega
    have e2 : ((y % 2 ^ 63) / double.signWeight % 2 == 1) = false := by
      have : (y % 2 ^ 63) / 2 ^ 63 = 0 := Nat.div_eq_of_lt (Nat.mod_lt _ (by decide))
      show ((y % 2 ^ 63) / 2 ^ 63 % 2 == 1) = false
      rw [this]
      rfl
    unfold Format.read at hr ⊢
    dsimp only at hr ⊢
    rw [e1, e2]
    split at hr
    · rename_i hc
      rw [if_pos hc]
      injection hr with _ a b
      rw [a, b]
    · rename_i hc
      rw [if_neg hc]
      split at hr
      · rename_i hc2
        rw [if_pos hc2]
        injection hr with _ a b
        rw [a, b]
      · split at hr <;> cases hr
  have e3 : double.read 9218868437227405311 = .number false 9007199254740991 971 := by decide +kernel
  have e4 : (vnum false 9007199254740991 971) = ((9007199254740991 * 2 ^ 2371 : Nat) : Int) := by decide +kernel
  show ((double.read _).order (double.read _) == some .gt) = false
  rw [e0, e3, order_val (by have := h.lo; omega) (by omega), cmp_gt, e4]
  have h1 := vnum_abs s k l
  rw [h.val] at h1
  have h2 : vnum false k l = ((k * 2 ^ (l + 1400).toNat : Nat) : Int) := by
    unfold vnum
    rw [signed_eq]
    simp
  rw [h2, ← h1]
  refine decide_eq_false ?_
  have h3 : 2 ^ 128 * tenK ≤ 9007199254740991 * 2 ^ 2371 := by decide +kernel
  omega
end
end Go.Proofs.YtafnebfchhmgcaaGreat
