/- A printed text has few lines, with its last byte and without; in plain words. -/
import Derived.Test.YtphlojgmfkgeiaaGreatDoorTH
import Derived.Test.YtphlojgmfkgeiaaGreatDoorKl
namespace Go.Proofs.YtphlojgmfkgeiaaGreatDoor
open Go.RowKit Go.Sort Go.Shelf
theorem splc_count (c : UInt8) : ∀ l : List UInt8, (spl c l).length = l.count c + 1
  | [] => rfl
  | b :: r => by
    have ih := splc_count c r
    cases hb : (b == c) with
    | true => rw [spl_eq hb, List.length_cons, ih, List.count_cons, if_pos hb]
    | false =>
      cases hr : spl c r with
      | nil => exact absurd hr (spl_ne c r)
      | cons p ps =>
        rw [spl_cons hb hr, List.length_cons, List.count_cons, hb, if_neg (by decide), ← ih, hr, List.length_cons]
theorem pcOf_len : ∀ ls : List (List UInt8), (pcOf ls).length ≤ ls.length
  | [] => Nat.le_refl _
  | [l] => by
    show (if l.isEmpty then [] else [l]).length ≤ 1
    split <;> simp
  | l :: m :: r => by
    show (pcOf (m :: r)).length + 1 ≤ (m :: r).length + 1
    exact Nat.succ_le_succ (pcOf_len (m :: r))
theorem pieces_count (l : List UInt8) : (pieces (toB l)).length ≤ l.count 10 + 1 := by
  unfold pieces
  rw [List.length_map, pcs_spl, toB_list, ← splc_count]
  exact pcOf_len _
theorem fits_of {y : Yd} (h : yardE y = 0) : Fits y := by
  have hP := (yard_ok h).1
  have hN := names_of h
  exact ⟨Nat.le_trans hP.n8 (by decide), Nat.le_trans hP.w8 (by decide), Nat.le_trans hP.p8 (by decide),
    fun x hx => Nat.le_trans (hN.s x hx) (by decide), fun x hx => Nat.le_trans (hN.w x hx).1 (by decide), fun x hx => Nat.le_trans (hN.p x hx) (by decide)⟩
theorem printed_len {y : Yd} (h : yardE y = 0) : (printL y).length ≤ 3500 := by
  have hP := (yard_ok h).1
  have hN := names_of h
  obtain ⟨_, _, h1, h2, h3⟩ := printL_len hN ⟨Nat.le_trans hP.n8 (by decide), Nat.le_trans hP.w8 (by decide)⟩ 0 0
  have l1 := fm_len (l := y.s) (fun x hx => h1 x hx)
  have l2 := fm_len (l := y.w) (fun x hx => h2 x hx)
  have l3 := fm_len (l := y.p) (fun x hx => h3 x hx)
  have := hP.n8
  have := hP.w8
  have := hP.p8
  unfold printL
  simp only [List.length_append]
  omega
/-- The pieces of a printed text, and of that text without its last byte. -/
theorem printed_few {y : Yd} (h : yardE y = 0) : (pieces (toB (printL y))).length ≤ 300 ∧ (pieces (toB (printL y).dropLast)).length ≤ 300 := by
  have hl := printed_len h
  have hP := (yard_ok h).1
  have e := (parse_print h (by omega)).2
  have e1 : spL (toB (printL y)) 10 = (spl 10 (toB (printL y)).data.toList).map toB := spL_spl (toB (printL y)) 10
  rw [e1, List.length_map, toB_list, splc_count] at e
  have h1 := pieces_count (printL y)
  have h2 := pieces_count (printL y).dropLast
  have h3 := (List.dropLast_sublist (printL y)).count_le (10 : UInt8)
  have := hP.n8
  have := hP.w8
  have := hP.p8
  exact ⟨by omega, by omega⟩
end Go.Proofs.YtphlojgmfkgeiaaGreatDoor
