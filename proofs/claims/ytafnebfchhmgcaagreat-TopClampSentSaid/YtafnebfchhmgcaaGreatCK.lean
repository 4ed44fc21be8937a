/- Levels of the program: samples that are multiples of a sixteenth, in range. -/
import Derived.Laws.FloatArith
import Derived.Test.YtafnebfchhmgcaaGreatQn
namespace Go.Proofs.YtafnebfchhmgcaaGreat
open Go Go.RowKit Go.Sort Go.Shelf
set_option linter.unusedSimpArgs false
set_option linter.unusedVariables false
attribute [local go_sem] cell_if frozen_if grow_cell
/-- A sample without an error: p are the bits of sixteen times it, v is that as an integer. -/
structure Samp (x p : Nat) (v : Int) : Prop where
  sub : ∃ s, floatBits .sub .f32 x x = some s ∧ FloatKind.f32.format.order s 0 = some .eq
  lo : (FloatKind.f32.format.order x 3296722944 == some .lt) = false
  hi : (FloatKind.f32.format.order x (floatOfInt .f32 1024) == some .gt) = false
  mul : floatBits .mul .f32 1098907648 x = some p
  int : floatToIntVal .f32 p .i64 = some v
  back : FloatKind.f32.format.order (floatOfInt .f32 v) p = some .eq
  bd : -16384 ≤ v ∧ v ≤ 16384
theorem pwhen_no (n : Int) (w : World) : Calls Tryz.prog 62 #[.bool false, .int .i64 n] w fun e w' => e = .returned (.int .i64 0) ∧ w = w' := by
  go_enter Tryz.func62, Tryz.ntmps62
  go_wp2
  go_ret
  exact ⟨rfl, rfl⟩
set_option maxRecDepth 100000 in
theorem checkPart_ok (x p : Nat) (v : Int) (w : World) (h : Samp x p v) : Calls Tryz.prog 159 #[.float .f32 x, .int .i64 1024] w fun e w' => e = .returned (.int .i64 0) ∧ w = w' := by
  obtain ⟨⟨s, hs, hs0⟩, hlo, hhi, hm, hi, hb, hbd⟩ := h
  have b1 := fun W => run_float_arith (P := Tryz.prog) W .sub 49 .f32 _ _ _ hs
  have b2 := fun W => run_float_arith (P := Tryz.prog) W .mul 49 .f32 _ _ _ hm
  have b3 := fun W => run_convert_float_int (P := Tryz.prog) W 49 3 .f32 .i64 p v (by kernel_rfl) Tryz.underlying3 hi
  have b4 : (FloatKind.f32.format.order s 0 != some .eq) = false := by rw [hs0]; rfl
  have b5 : (FloatKind.f32.format.order (floatOfInt .f32 v) p != some .eq) = false := by rw [hb]; rfl
  have b6 : ∀ W, (Op.unary .neg (.float .f32 (floatOfInt .f32 1024))).run Tryz.prog W = .ok (.float .f32 3296722944) W := fun W => by
    have e : floatOfInt .f32 1024 = 1149239296 := by decide +kernel
    rw [e]
    rfl
  clear hs0 hb hs hm hi
  go_enter Tryz.func159, Tryz.ntmps159
  go_wp2_with fail
  refine (pwhen_no _ _).mono ?_
  rintro e w1 ⟨rfl, rfl⟩
  go_wp2_with fail
  go_ret
  exact ⟨rfl, rfl⟩
theorem CheckSample_ok (x p : Nat) (v : Int) (w : World) (h : Samp x p v) : Calls Tryz.prog 116 #[.float .f32 x] w fun e w' => e = .returned (.int .i64 0) ∧ w = w' := by
  have HC := Lib.hid (checkPart_ok x p v w h)
  clear h
  go_enter Tryz.func116, Tryz.ntmps116
  go_wp2_with fail
  refine HC.out.mono ?_
  rintro e w1 ⟨rfl, rfl⟩
  go_wp2_with fail
  go_ret
  exact ⟨rfl, rfl⟩
theorem enc_at {α : Type} {enc : α → Value} {w : World} {B n : Nat} {A : Option Addr} {l : List α} (h : Reads w B 1 A n (l.map enc)) : l.length = n ∧ ∀ k, (hk : k < l.length) → ∃ b o, A = some ⟨b, o, none⟩ ∧ b < B ∧ w.cell? ⟨b, o + k, none⟩ = some (enc l[k]) := by
  have hl : l.length = n := by simpa using h.1
  refine ⟨hl, fun k hk => ?_⟩
  obtain ⟨b, o, e, hb, hc⟩ := h.2 (by omega)
  exact ⟨b, o, e, hb, hc k _ (by rw [List.getElem?_map, List.getElem?_eq_getElem hk]; rfl)⟩
/-- A row of samples without an error. -/
def SampsOk (l : List Nat) (V : Nat → Int) : Prop := ∀ x ∈ l, ∃ p, Samp x p (V x)
theorem floor_eq {num den : Int} (hd : 0 < den) : (if num < num.tdiv den * den then num.tdiv den - 1 else num.tdiv den) = num / den := by
  have h1 := Int.mul_tdiv_add_tmod num den
  have h2 := Int.ediv_emod_unique (a := num) (b := den) (q := num / den) (r := num % den) hd
  have e1 := Int.emod_nonneg num (show den ≠ 0 by omega)
  have e2 := Int.emod_lt_of_pos num hd
  have e3 := Int.mul_ediv_add_emod num den
  rcases Int.lt_or_le num 0 with hn | hn
  · have t1 : num.tmod den ≤ 0 := by
      have := Int.tmod_nonneg den (show 0 ≤ -num by omega)
      rw [Int.neg_tmod] at this
      omega
    have t2 : -den < num.tmod den := by
      have := Int.tmod_lt_of_pos (-num) hd
      rw [Int.neg_tmod] at this
      omega
    rw [Int.mul_comm] at h1
    split
    · rename_i hq
      have := (Int.ediv_emod_unique (a := num) (b := den) (q := num.tdiv den - 1) (r := num.tmod den + den) hd).2 ⟨by rw [Int.mul_sub, Int.mul_comm den (num.tdiv den)]; omega, by omega, by omega⟩
      exact this.1.symm
    · rename_i hq
      have hr : num.tmod den = 0 := by omega
      have := (Int.ediv_emod_unique (a := num) (b := den) (q := num.tdiv den) (r := 0) hd).2 ⟨by rw [Int.mul_comm den]; omega, by omega, by omega⟩
      exact this.1.symm
  · have e : num.tdiv den = num / den := Int.tdiv_eq_ediv_of_nonneg hn
    rw [e, Int.mul_comm (num / den) den, if_neg (by omega)]
/-- The level of a sample. -/
def levI (n : Nat) (amp v : Int) : Int := min (n : Int) (max 0 ((2 * ((n : Int) * (v + amp)) + 2 * amp) / (2 * (2 * amp))))
/-- The levels' answer. -/
def LevRes (w : World) (zs : List Int) (e : Ending) (w' : World) : Prop := ∃ v, e = .returned (.tuple #[v, .int .i64 0]) ∧ w'.ownsRow w.heap.size 3 1 v zs.length (zs.map (.int .i64)) ∧ Below w.heap.size w w'
theorem first_zeros : ∀ l : List Nat, firstE (l.map fun _ => (0 : Int)) = 0
  | [] => rfl
  | _ :: r => by rw [List.map_cons, firstE_cons, first_zeros r]; rfl
end Go.Proofs.YtafnebfchhmgcaaGreat
