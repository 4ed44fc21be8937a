/- Samples of charges, with their sixteenths. -/
import Derived.Test.YtafnebfchhmgcaaGreatN7
namespace Go.Proofs.YtafnebfchhmgcaaGreat
open Go Go.RowKit Go.Sort Go.Shelf
set_option linter.unusedSimpArgs false
set_option linter.unusedVariables false
attribute [local go_sem] cell_if frozen_if grow_cell
theorem Sample_any (q : Int) (w : World) : Calls Tryz.prog 13 #[.int .i64 q] w fun e w' => e = .returned (.float .f32 (smp q)) ∧ w = w' := by
  have hb := fun W => run_float_arith (P := Tryz.prog) W .quo 49 .f32 _ _ _ (smp_bits q)
  go_enter Tryz.func13, Tryz.ntmps13
  go_wp2_with fail
  go_ret
  exact ⟨rfl, rfl⟩
/-- A charge's sample: no error, its sixteenths are the charge, and it is not negative. -/
def okQ (q : Nat) : Bool := (sampE (smp (q : Int)) == 0) && ((sampV (smp (q : Int)) == (q : Int)) && Nat.blt (smp (q : Int)) 2147483648)
theorem okQ_c0 : (List.range 512).all (fun q => okQ (0 * 512 + q)) = true := by decide +kernel
theorem okQ_c1 : (List.range 512).all (fun q => okQ (1 * 512 + q)) = true := by decide +kernel
theorem okQ_c2 : (List.range 512).all (fun q => okQ (2 * 512 + q)) = true := by decide +kernel
theorem okQ_c3 : (List.range 512).all (fun q => okQ (3 * 512 + q)) = true := by decide +kernel
theorem okQ_c4 : (List.range 512).all (fun q => okQ (4 * 512 + q)) = true := by decide +kernel
theorem okQ_c5 : (List.range 512).all (fun q => okQ (5 * 512 + q)) = true := by decide +kernel
theorem okQ_c6 : (List.range 512).all (fun q => okQ (6 * 512 + q)) = true := by decide +kernel
theorem okQ_c7 : (List.range 512).all (fun q => okQ (7 * 512 + q)) = true := by decide +kernel
theorem okQ_c8 : (List.range 512).all (fun q => okQ (8 * 512 + q)) = true := by decide +kernel
theorem okQ_c9 : (List.range 512).all (fun q => okQ (9 * 512 + q)) = true := by decide +kernel
theorem okQ_c10 : (List.range 512).all (fun q => okQ (10 * 512 + q)) = true := by decide +kernel
theorem okQ_c11 : (List.range 512).all (fun q => okQ (11 * 512 + q)) = true := by decide +kernel
theorem okQ_c12 : (List.range 512).all (fun q => okQ (12 * 512 + q)) = true := by decide +kernel
theorem okQ_c13 : (List.range 512).all (fun q => okQ (13 * 512 + q)) = true := by decide +kernel
theorem okQ_c14 : (List.range 512).all (fun q => okQ (14 * 512 + q)) = true := by decide +kernel
theorem okQ_c15 : (List.range 512).all (fun q => okQ (15 * 512 + q)) = true := by decide +kernel
theorem okQ_c16 : (List.range 512).all (fun q => okQ (16 * 512 + q)) = true := by decide +kernel
theorem okQ_c17 : (List.range 512).all (fun q => okQ (17 * 512 + q)) = true := by decide +kernel
theorem okQ_c18 : (List.range 512).all (fun q => okQ (18 * 512 + q)) = true := by decide +kernel
theorem okQ_c19 : (List.range 512).all (fun q => okQ (19 * 512 + q)) = true := by decide +kernel
theorem okQ_c20 : (List.range 512).all (fun q => okQ (20 * 512 + q)) = true := by decide +kernel
theorem okQ_c21 : (List.range 512).all (fun q => okQ (21 * 512 + q)) = true := by decide +kernel
theorem okQ_c22 : (List.range 512).all (fun q => okQ (22 * 512 + q)) = true := by decide +kernel
theorem okQ_c23 : (List.range 512).all (fun q => okQ (23 * 512 + q)) = true := by decide +kernel
theorem okQ_c24 : (List.range 512).all (fun q => okQ (24 * 512 + q)) = true := by decide +kernel
theorem okQ_c25 : (List.range 512).all (fun q => okQ (25 * 512 + q)) = true := by decide +kernel
theorem okQ_c26 : (List.range 512).all (fun q => okQ (26 * 512 + q)) = true := by decide +kernel
theorem okQ_c27 : (List.range 512).all (fun q => okQ (27 * 512 + q)) = true := by decide +kernel
theorem okQ_c28 : (List.range 512).all (fun q => okQ (28 * 512 + q)) = true := by decide +kernel
theorem okQ_c29 : (List.range 512).all (fun q => okQ (29 * 512 + q)) = true := by decide +kernel
theorem okQ_c30 : (List.range 512).all (fun q => okQ (30 * 512 + q)) = true := by decide +kernel
theorem okQ_c31 : (List.range 512).all (fun q => okQ (31 * 512 + q)) = true := by decide +kernel
theorem okQ_top : okQ 16384 = true := by decide +kernel
theorem okQ_at {m k : Nat} (h : (List.range 512).all (fun q => okQ (m * 512 + q)) = true) (h1 : m * 512 ≤ k) (h2 : k < m * 512 + 512) : okQ k = true := by
  have := List.all_eq_true.1 h (k - m * 512) (List.mem_range.2 (by omega))
  rwa [show m * 512 + (k - m * 512) = k by omega] at this
theorem okQ_all {k : Nat} (h : k ≤ 16384) : okQ k = true := by
  by_cases e : k = 16384
  · subst e
    exact okQ_top
  · have hk : k / 512 < 32 := by omega
    have h1 : k / 512 * 512 ≤ k := by omega
    have h2 : k < k / 512 * 512 + 512 := by omega
    generalize k / 512 = m at *
    rcases (by omega : m = 0 ∨ m = 1 ∨ m = 2 ∨ m = 3 ∨ m = 4 ∨ m = 5 ∨ m = 6 ∨ m = 7 ∨ m = 8 ∨ m = 9 ∨ m = 10 ∨ m = 11 ∨ m = 12 ∨ m = 13 ∨ m = 14 ∨ m = 15 ∨ m = 16 ∨ m = 17 ∨ m = 18 ∨ m = 19 ∨ m = 20 ∨ m = 21 ∨ m = 22 ∨ m = 23 ∨ m = 24 ∨ m = 25 ∨ m = 26 ∨ m = 27 ∨ m = 28 ∨ m = 29 ∨ m = 30 ∨ m = 31) with rfl | rfl | rfl | rfl | rfl | rfl | rfl | rfl | rfl | rfl | rfl | rfl | rfl | rfl | rfl | rfl | rfl | rfl | rfl | rfl | rfl | rfl | rfl | rfl | rfl | rfl | rfl | rfl | rfl | rfl | rfl | rfl
    · exact okQ_at okQ_c0 h1 h2
    · exact okQ_at okQ_c1 h1 h2
    · exact okQ_at okQ_c2 h1 h2
    · exact okQ_at okQ_c3 h1 h2
    · exact okQ_at okQ_c4 h1 h2
    · exact okQ_at okQ_c5 h1 h2
    · exact okQ_at okQ_c6 h1 h2
    · exact okQ_at okQ_c7 h1 h2
    · exact okQ_at okQ_c8 h1 h2
    · exact okQ_at okQ_c9 h1 h2
    · exact okQ_at okQ_c10 h1 h2
    · exact okQ_at okQ_c11 h1 h2
    · exact okQ_at okQ_c12 h1 h2
    · exact okQ_at okQ_c13 h1 h2
    · exact okQ_at okQ_c14 h1 h2
    · exact okQ_at okQ_c15 h1 h2
    · exact okQ_at okQ_c16 h1 h2
    · exact okQ_at okQ_c17 h1 h2
    · exact okQ_at okQ_c18 h1 h2
    · exact okQ_at okQ_c19 h1 h2
    · exact okQ_at okQ_c20 h1 h2
    · exact okQ_at okQ_c21 h1 h2
    · exact okQ_at okQ_c22 h1 h2
    · exact okQ_at okQ_c23 h1 h2
    · exact okQ_at okQ_c24 h1 h2
    · exact okQ_at okQ_c25 h1 h2
    · exact okQ_at okQ_c26 h1 h2
    · exact okQ_at okQ_c27 h1 h2
    · exact okQ_at okQ_c28 h1 h2
    · exact okQ_at okQ_c29 h1 h2
    · exact okQ_at okQ_c30 h1 h2
    · exact okQ_at okQ_c31 h1 h2
theorem smp_ok {q : Int} (h : 0 ≤ q ∧ q ≤ 16384) : sampE (smp q) = 0 ∧ sampV (smp q) = q ∧ smp q < 2147483648 := by
  obtain ⟨k, rfl⟩ := Int.eq_ofNat_of_zero_le h.1
  have h1 := okQ_all (k := k) (by omega)
  unfold okQ at h1
  rw [Bool.and_eq_true, Bool.and_eq_true] at h1
  exact ⟨by simpa using h1.1, by simpa using h1.2.1, Nat.blt_eq ▸ h1.2.2⟩
theorem Sixteenths_any (x p : Nat) (v : Int) (w : World) (h : Samp x p v) : Calls Tryz.prog 19 #[.float .f32 x] w fun e w' => e = .returned (.int .i64 v) ∧ w = w' := by
  have b2 := fun W => run_float_arith (P := Tryz.prog) W .mul 49 .f32 _ _ _ h.mul
  have b3 := fun W => run_convert_float_int (P := Tryz.prog) W 49 3 .f32 .i64 p v (by kernel_rfl) Tryz.underlying3 h.int
  clear h
  go_enter Tryz.func19, Tryz.ntmps19
  go_wp2_with fail
  go_ret
  exact ⟨rfl, rfl⟩
theorem Sixteenths_smp {q : Int} (h : 0 ≤ q ∧ q ≤ 16384) (w : World) : Calls Tryz.prog 19 #[.float .f32 (smp q)] w fun e w' => e = .returned (.int .i64 q) ∧ w = w' := by
  obtain ⟨h1, h2, _⟩ := smp_ok h
  obtain ⟨p, hp⟩ := sampE_samp h1
  rw [h2] at hp
  exact Sixteenths_any _ p q w hp
end Go.Proofs.YtafnebfchhmgcaaGreat
