/- Numerals: digits of a number, and back; in plain words. -/
import Derived.Test.YtjanojmgnpfjeaaGreatDoorSP
namespace Go.Proofs.YtjanojmgnpfjeaaGreatDoor
open Go Go.RowKit Go.Sort Go.Shelf
set_option linter.unusedSimpArgs false
set_option linter.unusedVariables false
theorem dec_small {n : Nat} (h : n < 10) : Lib.decDigits n = [UInt8.ofNat (48 + n)] := by rw [Lib.decDigits, dif_pos h]
theorem dec_big {n : Nat} (h : ¬ n < 10) : Lib.decDigits n = Lib.decDigits (n / 10) ++ [UInt8.ofNat (48 + n % 10)] := by rw [Lib.decDigits, dif_neg h]
theorem digB_of {d : Nat} (h : d < 10) : digB (UInt8.ofNat (48 + d)) = true ∧ (UInt8.ofNat (48 + d)).toNat = 48 + d := by
  have e : (UInt8.ofNat (48 + d)).toNat = 48 + d := by rw [UInt8.toNat_ofNat']; omega
  refine ⟨?_, e⟩
  unfold digB
  rw [Bool.and_eq_true, decide_eq_true_eq, decide_eq_true_eq, UInt8.le_iff_toNat_le, UInt8.le_iff_toNat_le, e]
  exact ⟨by show 48 ≤ _; omega, by show _ ≤ 57; omega⟩
theorem dec_all (n : Nat) : (Lib.decDigits n).all digB = true ∧ Lib.decDigits n ≠ [] ∧ digV 0 (Lib.decDigits n) = n := by
  induction n using Nat.strongRecOn with
  | _ n ih =>
  by_cases h : n < 10
  · rw [dec_small h]
    obtain ⟨h1, h2⟩ := digB_of h
    refine ⟨by rw [List.all_cons, h1]; rfl, by simp, ?_⟩
    show 10 * 0 + (((UInt8.ofNat (48 + n)).toNat : Int) - 48) = n
    rw [h2]; omega
  · obtain ⟨i1, i2, i3⟩ := ih (n / 10) (by omega)
    obtain ⟨h1, h2⟩ := digB_of (d := n % 10) (by omega)
    rw [dec_big h]
    refine ⟨by rw [List.all_append, i1, List.all_cons, h1]; rfl, by simp, ?_⟩
    rw [digV_snoc, i3, h2]
    omega
theorem dec_len (k : Nat) : ∀ n : Nat, n < 10 ^ (k + 1) → (Lib.decDigits n).length ≤ k + 1 := by
  induction k with
  | zero => intro n h; rw [dec_small (by simpa using h)]; exact Nat.le_refl _
  | succ k ih =>
    intro n h
    by_cases h9 : n < 10
    · rw [dec_small h9]; simp
    · rw [dec_big h9, List.length_append]
      have := ih (n / 10) (by rw [Nat.pow_succ] at h; omega)
      simp
      omega
theorem dec_head (n : Nat) : 0 < n → ∃ c r, Lib.decDigits n = c :: r ∧ (c == 48) = false := by
  induction n using Nat.strongRecOn with
  | _ n ih =>
  intro h0
  by_cases h : n < 10
  · rw [dec_small h]
    refine ⟨_, _, rfl, ?_⟩
    rw [beq_eq_false_iff_ne]
    intro e
    have := (digB_of h).2
    rw [e] at this
    have e48 : (48 : UInt8).toNat = 48 := rfl
    omega
  · obtain ⟨c, r, e, hc⟩ := ih (n / 10) (by omega) (by omega)
    rw [dec_big h, e]
    exact ⟨c, _, rfl, hc⟩
theorem dec_zero (n : Nat) : zeroB (Lib.decDigits n) = false := by
  by_cases h : n = 0
  · subst h; rw [dec_small (by omega)]; rfl
  · obtain ⟨c, r, e, hc⟩ := dec_head n (by omega)
    rw [e]
    cases r with
    | nil => rfl
    | cons a b => exact hc
/-- A numeral is read as it was written. -/
theorem ito_ok {n : Int} (h0 : 0 ≤ n) (h1 : n ≤ 999999999) : intOk (itoB n).data.toList = true ∧ decV (itoB n).data.toList = n := by
  obtain ⟨m, rfl⟩ := Int.eq_ofNat_of_zero_le h0
  have e : (itoB (m : Int)).data.toList = Lib.decDigits m := by
    unfold itoB
    rw [itoa_nat]
  rw [e]
  obtain ⟨a1, a2, a3⟩ := dec_all m
  refine ⟨?_, a3⟩
  unfold intOk
  rw [a1, dec_zero]
  have h2 : (Lib.decDigits m).isEmpty = false := by
    cases hl : Lib.decDigits m with
    | nil => exact absurd hl a2
    | cons a b => rfl
  rw [h2]
  have h3 := dec_len 8 m (by omega)
  simp
  omega
theorem dig_free {c : UInt8} (hc : digB c = false) {l : List UInt8} (h : l.all digB = true) : c ∉ l := fun hm => by
  have := List.all_eq_true.1 h c hm
  rw [hc] at this
  cases this
theorem int_all {l : List UInt8} (h : intOk l = true) : l ≠ [] ∧ l.all digB = true ∧ zeroB l = false := by
  unfold intOk at h
  simp only [Bool.and_eq_true, Bool.not_eq_true'] at h
  obtain ⟨⟨⟨h1, _⟩, h2⟩, h3⟩ := h
  exact ⟨(fun e => by rw [e] at h1; cases h1), h2, h3⟩
theorem digV_ge : ∀ (l : List UInt8) (n : Int), 0 ≤ n → l.all digB = true → n ≤ digV n l
  | [], n, _, _ => Int.le_refl _
  | c :: r, n, h, ha => by
    rw [List.all_cons, Bool.and_eq_true] at ha
    have hc : 48 ≤ c.toNat ∧ c.toNat ≤ 57 := by
      have h1 := ha.1
      unfold digB at h1
      rw [Bool.and_eq_true, decide_eq_true_eq, decide_eq_true_eq] at h1
      exact ⟨UInt8.le_iff_toNat_le.1 h1.1, UInt8.le_iff_toNat_le.1 h1.2⟩
    have := digV_ge r (10 * n + ((c.toNat : Int) - 48)) (by omega) ha.2
    show n ≤ digV (10 * n + ((c.toNat : Int) - 48)) r
    omega
theorem dig_nat {c : UInt8} (h : digB c = true) : ∃ d : Nat, d < 10 ∧ c = UInt8.ofNat (48 + d) ∧ c.toNat = 48 + d := by
  unfold digB at h
  rw [Bool.and_eq_true, decide_eq_true_eq, decide_eq_true_eq] at h
  have h1 : 48 ≤ c.toNat := UInt8.le_iff_toNat_le.1 h.1
  have h2 : c.toNat ≤ 57 := UInt8.le_iff_toNat_le.1 h.2
  refine ⟨c.toNat - 48, by omega, ?_, by omega⟩
  rw [show 48 + (c.toNat - 48) = c.toNat by omega, UInt8.ofNat_toNat]
theorem digV_pos {c : UInt8} {r : List UInt8} (hc : (c == 48) = false) (ha : (c :: r).all digB = true) : 0 < digV 0 (c :: r) := by
  rw [List.all_cons, Bool.and_eq_true] at ha
  obtain ⟨d, hd, e, hn⟩ := dig_nat ha.1
  have hd0 : d ≠ 0 := by
    intro h
    subst h
    rw [e] at hc
    exact absurd hc (by decide)
  have := digV_ge r (10 * 0 + ((c.toNat : Int) - 48)) (by omega) ha.2
  show 0 < digV (10 * 0 + ((c.toNat : Int) - 48)) r
  omega
/-- What is read is written as it was. -/
theorem dec_back : ∀ (k : Nat) (l : List UInt8), l.length = k + 1 → l.all digB = true → zeroB l = false → Lib.decDigits (digV 0 l).toNat = l := by
  intro k
  induction k with
  | zero =>
    intro l hl ha hz
    match l, hl with
    | [c], _ =>
      rw [List.all_cons, Bool.and_eq_true] at ha
      obtain ⟨d, hd, e, hn⟩ := dig_nat ha.1
      have e2 : (digV 0 [c]).toNat = d := by
        show (10 * 0 + ((c.toNat : Int) - 48)).toNat = d
        omega
      rw [e2, dec_small hd, e]
  | succ k ih =>
    intro l hl ha hz
    have hne : l ≠ [] := fun e => by rw [e] at hl; cases hl
    have e := List.dropLast_concat_getLast hne
    generalize l.dropLast = r at e
    generalize l.getLast hne = c at e
    subst e
    rw [List.all_append, Bool.and_eq_true] at ha
    obtain ⟨ha1, ha2⟩ := ha
    rw [List.length_append] at hl
    have hlr : r.length = k + 1 := by simpa using hl
    have hd : digB c = true := by simpa using ha2
    obtain ⟨d, hd9, ec, hn⟩ := dig_nat hd
    match r, hlr with
    | x :: q, hlr =>
      have hx : (x == 48) = false := by
        cases q with
        | nil => exact hz
        | cons a b => exact hz
      have hzr : zeroB (x :: q) = false := by
        cases q with
        | nil => rfl
        | cons a b => exact hx
      have hi := ih (x :: q) hlr ha1 hzr
      have hp := digV_pos hx ha1
      rw [digV_snoc]
      generalize digV 0 (x :: q) = v at *
      obtain ⟨m, rfl⟩ := Int.eq_ofNat_of_zero_le (Int.le_of_lt hp)
      have e3 : (10 * (m : Int) + ((c.toNat : Int) - 48)).toNat = 10 * m + d := by omega
      have hi' : Lib.decDigits m = x :: q := by simpa using hi
      rw [e3, dec_big (by omega), show (10 * m + d) / 10 = m by omega, show (10 * m + d) % 10 = d by omega, hi', ec]
theorem ito_back {x : ByteArray} (h : intOk x.data.toList = true) : itoB (decV x.data.toList) = x := by
  obtain ⟨h1, h2, h3⟩ := int_all h
  have h4 := (decV_bd h).1
  have e : itoB (decV x.data.toList) = toB (Lib.decDigits (decV x.data.toList).toNat) := by
    obtain ⟨m, hm⟩ := Int.eq_ofNat_of_zero_le h4
    rw [hm]
    unfold itoB toB
    rw [itoa_nat]
    rfl
  have hl : x.data.toList.length = (x.data.toList.length - 1) + 1 := by
    cases hq : x.data.toList with
    | nil => exact absurd hq h1
    | cons a b => simp
  rw [e, show decV x.data.toList = digV 0 x.data.toList from rfl, dec_back _ _ hl h2 h3, toB_data]
end Go.Proofs.YtjanojmgnpfjeaaGreatDoor
