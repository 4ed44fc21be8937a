/- What both laws of texts use: Print on any arm; what is parsed. -/
import Derived.Test.YtjanojmgnpfjeaaGreatDoorST
import Derived.Test.YtjanojmgnpfjeaaGreatDoorSV
namespace Go.Proofs.YtjanojmgnpfjeaaGreatDoor
open Go Go.RowKit Go.Sort Go.Shelf
set_option linter.unusedSimpArgs false
set_option linter.unusedVariables false
attribute [local go_sem] cell_if frozen_if grow_cell
/-- The text of an arm, or none. -/
def prT (a : Ar) : ByteArray := if armE a = 0 then toB (printL a) else ⟨#[]⟩
theorem Print_uni (B : Nat) (A : Option Addr) (n c : Nat) (a : Ar) (w : World) (hM : MsAt w B A n a.m) (hB : B ≤ w.heap.size) (hF : FitA a) (hnc : n ≤ c) (hT : TabT w) :
    Calls Tryz.prog 23 #[.agg #[.slice A n c, .int .i64 a.lo, .int .i64 a.hi, .int .i64 a.cur, .int .i64 a.lim]] w fun e w' => e = .returned (.tuple #[.string (prT a), .int .i64 (armE a)]) ∧ Below w.heap.size w w' := by
  by_cases hE : armE a = 0
  · have e : prT a = printB a := by unfold prT; rw [if_pos hE, (print_eq (fit_of hE).cf).1]
    have h := Print_any B A n c a w hM hB hF hnc hE hT
    rw [e, hE]
    exact h
  · have e : prT a = ⟨#[]⟩ := if_neg hE
    rw [e]
    have HC := Lib.hid (fun W (hW : Below w.heap.size w W) => CheckArm_any B A n c a W (hM.below (hW.mono hB)) (by have := hW.size; omega) hF hnc)
    clear e hM hF
    generalize armE a = ee at *
    have hne : (ee != 0) = true := by simpa using hE
    go_enter Tryz.func23, Tryz.ntmps23
    go_wp2_with fail
    refine (HC.out _ bl_).mono ?_
    rintro e w1 ⟨rfl, hb1⟩
    have HB := Lib.hid (show Below w.heap.size w w1 from bl_)
    clear hb1
    go_wp2_with fail
    go_ret2
    exact ⟨rfl, HB.out⟩
theorem rPrint_uni (B : Nat) (A : Option Addr) (n c : Nat) (a : Ar) (w : World) (hM : MsAt w B A n a.m) (hB : B ≤ w.heap.size) (hE : armE a = 0) :
    Calls Tryz.prog 25 #[.agg #[.slice A n c, .int .i64 a.lo, .int .i64 a.hi, .int .i64 a.cur, .int .i64 a.lim]] w fun e w' => e = .returned (.string (prT a)) ∧ Below w.heap.size w w' := by
  have e : prT a = rPr a := by unfold prT; rw [if_pos hE, (print_eq (fit_of hE).cf).2]
  rw [e]
  exact rPrint_any B A n c a w hM hB hE
def PaRz (w : World) (z : Ar) (j : Nat) (er : Int) (e : Ending) (w' : World) : Prop := ∃ A c, e = .returned (.tuple #[.agg #[.slice A z.m.length c, .int .i64 z.lo, .int .i64 z.hi, .int .i64 z.cur, .int .i64 z.lim], .int .i64 (j : Int), .int .i64 er]) ∧ MsAt w' w'.heap.size A z.m.length z.m ∧ z.m.length ≤ c ∧ Below w.heap.size w w'
theorem pa_rz {s : ByteArray} {w : World} {z : Ar} {j : Nat} {er : Int} (h : parseA s = (z, j, er)) : ∀ e w', PaRes w (parseA s) e w' → PaRz w z j er e w' := fun e w' hr => by
  rw [h] at hr
  exact hr
theorem goA_16 : ∀ (ls : List ByteArray) (y : Ar) (i : Nat), (goA y i ls).1.m.length ≤ 16
  | [], _, _ => Nat.zero_le _
  | [l], y, i => by
    rw [goA_last]
    split
    · split
      · rename_i h
        exact (fit_of h).n16
      · exact Nat.zero_le _
    · exact Nat.zero_le _
  | l :: m :: r, y, i => by
    show (if (rowA y i (spL l 32)).1 = true then goA (rowA y i (spL l 32)).2 (i + 1) (m :: r) else (nilA, i, 25)).1.m.length ≤ 16
    split
    · exact goA_16 (m :: r) _ _
    · exact Nat.zero_le _
theorem parseA_16 {s : ByteArray} {z : Ar} {j : Nat} {er : Int} (h : parseA s = (z, j, er)) : z.m.length ≤ 16 := by
  have e : z = (parseA s).1 := by rw [h]
  rw [e]
  unfold parseA
  split
  · exact Nat.zero_le _
  · split
    · exact Nat.zero_le _
    · exact goA_16 _ _ _
theorem rParse_any (s : ByteArray) (w : World) (hs : s.size ≤ 300 ∨ 4096 < s.size) : Calls Tryz.prog 26 #[.string s] w (PaRes w (parseA s)) := by
  rcases hs with h | h
  · exact rParse_short s w (by omega) (by
      have := (spTo_len s 10 s.size).2
      show (spTo s 10 s.size).length ≤ 301
      omega)
  · have e : parseA s = (nilA, 0, 26) := if_pos h
    rw [e]
    exact rParse_long s w h
end Go.Proofs.YtjanojmgnpfjeaaGreatDoor
