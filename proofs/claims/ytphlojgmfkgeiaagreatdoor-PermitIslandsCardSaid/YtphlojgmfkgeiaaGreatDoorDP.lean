/- The reference's distances in place; rows of integers by a function; in plain words. -/
import Derived.Test.YtphlojgmfkgeiaaGreatDoorKb
import Derived.Test.YtphlojgmfkgeiaaGreatDoorRP
import Derived.Test.YtphlojgmfkgeiaaGreatDoorGP
namespace Go.Proofs.YtphlojgmfkgeiaaGreatDoor
open Go.RowKit Go.Sort Go.Shelf
/-- N cells of integers by a function. -/
def fnV (N : Nat) (F : Nat → Int) : Array Value := ((List.range N).map fun s => Value.int .i64 (F s)).toArray
theorem fnV_get {N : Nat} {F : Nat → Int} {s : Nat} (h : s < N) : (fnV N F)[s]? = some (.int .i64 (F s)) := by simp [fnV, h]
theorem fnV_size (N : Nat) (F : Nat → Int) : (fnV N F).size = N := by simp [fnV]
theorem fnV_congr {N : Nat} {F G : Nat → Int} (h : ∀ s, s < N → F s = G s) : fnV N F = fnV N G := by
  unfold fnV
  congr 1
  refine List.map_congr_left fun s hs => ?_
  rw [h s (List.mem_range.1 hs)]
theorem fnV_set (N : Nat) (F : Nat → Int) (i : Nat) (v : Int) : (fnV N F).setIfInBounds i (.int .i64 v) = fnV N (fun s => if s = i then v else F s) := by
  apply Array.ext
  · simp [fnV]
  · intro j h1 h2
    have hj : j < N := by simpa [fnV] using h2
    rw [Array.getElem_setIfInBounds (by simpa [fnV] using hj)]
    split
    · rename_i h; subst h; simp [fnV]
    · rename_i h; simp [fnV, Ne.symm h]
theorem fnV_zero (N : Nat) : madeCells (Value.int .i64 0).cells N = fnV N (fun _ => 0) := by
  apply Array.ext
  · rw [size_madeCells]; simp [fnV]
  · intro i h1 h2
    simp [madeCells, Value.cells, Nat.mod_one, fnV]
section
variable (y : Yd) (f : Int → Bool)
/-- The round's good step. -/
def stpB (m j k : Nat) : Bool := freeS y j k && dst y f m (nextS y j k) == (m : Int)
def dk (m j k : Nat) : Int := if decide (dst y f m j < 0) && (List.range k).any (stpB y f m j) then ((m + 1 : Nat) : Int) else dst y f m j
end
variable {y : Yd} {f : Int → Bool}
theorem dk_zero (m j : Nat) : dk y f m j 0 = dst y f m j := by simp [dk]
theorem dk_end {m j : Nat} (h : (j : Int) ∈ reachB y) : dk y f m j y.w.length = dst y f (m + 1) j := by
  unfold dk
  rw [dst, (hasI_iff _ _).2 h, Bool.true_and]
  rfl
theorem dst_out {m j : Nat} (h : (j : Int) ∉ reachB y) : dst y f (m + 1) j = dst y f m j := by
  rw [dst, if_neg]
  have : hasI (reachB y) (j : Int) = false := by
    cases hq : hasI (reachB y) (j : Int) with
    | false => rfl
    | true => exact absurd ((hasI_iff _ _).1 hq) h
  simp [this]
theorem dk_succ (m j k : Nat) : dk y f m j (k + 1) = if dk y f m j k < 0 ∧ stpB y f m j k = true then ((m + 1 : Nat) : Int) else dk y f m j k := by
  unfold dk
  rw [List.range_succ, List.any_append]
  simp only [List.any_cons, List.any_nil, Bool.or_false]
  by_cases hd : dst y f m j < 0
  · have h1 : ¬ (((m + 1 : Nat) : Int) < 0) := by omega
    cases ha : (List.range k).any (stpB y f m j) <;> cases hs : stpB y f m j k <;> simp only [Bool.true_and, Bool.or_true, Bool.or_false, Bool.false_eq_true, if_true, if_false, and_false, and_true, h1, hd, decide_true]
  · simp only [Bool.false_and, Bool.false_eq_true, if_false, hd, false_and, decide_false]
/-- The row within round m + 1, at entry j, after k switches. -/
def midF (y : Yd) (f : Int → Bool) (m j k : Nat) (s : Nat) : Int := if s = j then dk y f m j k else if s < j then dst y f (m + 1) s else dst y f m s
def rowF (y : Yd) (f : Int → Bool) (m j : Nat) (s : Nat) : Int := if s < j then dst y f (m + 1) s else dst y f m s
theorem rowF_mid (m j s : Nat) : rowF y f m j s = midF y f m j 0 s := by
  unfold rowF midF
  split
  · rename_i h; rw [if_neg (by omega)]
  · split
    · rename_i h; rw [dk_zero, h]
    · rfl
theorem mid_row {m j : Nat} (h : (j : Int) ∈ reachB y) (s : Nat) : midF y f m j y.w.length s = rowF y f m (j + 1) s := by
  unfold rowF midF
  split
  · rename_i hs; subst hs; rw [if_pos (by omega), dk_end h]
  · rename_i hs
    by_cases h2 : s < j
    · rw [if_pos h2, if_pos (by omega)]
    · rw [if_neg h2, if_neg (by omega)]
theorem row_out {m j : Nat} (h : (j : Int) ∉ reachB y) (s : Nat) : midF y f m j 0 s = rowF y f m (j + 1) s := by
  unfold rowF midF
  split
  · rename_i hs; subst hs; rw [if_pos (by omega), dst_out h, dk_zero]
  · rename_i hs
    by_cases h2 : s < j
    · rw [if_pos h2, if_pos (by omega)]
    · rw [if_neg h2, if_neg (by omega)]
theorem dst_eqm {m : Nat} {s : Int} : dst y f (m + 1) s = (m : Int) ↔ dst y f m s = (m : Int) := by
  constructor
  · intro h
    have := (dst_at _ m s h).1
    exact this
  · intro h
    rw [dst_up1 (by omega), h]
theorem mid_eqm {m j k t : Nat} (hd : dk y f m j k < 0) : midF y f m j k t = (m : Int) ↔ dst y f m t = (m : Int) := by
  unfold midF
  split
  · rename_i h; subst h
    constructor
    · intro h; omega
    · intro h
      unfold dk at hd
      split at hd <;> omega
  · split
    · exact dst_eqm
    · exact Iff.rfl
theorem mid_step {m j k t : Nat} (hd : dk y f m j k < 0) (ht : nextS y j k = (t : Int)) (hf : freeS y j k = true) (he : midF y f m j k t = (m : Int)) (s : Nat) : (if s = j then ((m + 1 : Nat) : Int) else midF y f m j k s) = midF y f m j (k + 1) s := by
  have hs : stpB y f m j k = true := by
    unfold stpB
    rw [hf, ht, (mid_eqm hd).1 he]
    simp
  unfold midF
  split
  · rw [dk_succ, if_pos ⟨hd, hs⟩]
  · rfl
theorem mid_stay {m j k : Nat} (h : ¬ (dk y f m j k < 0 ∧ stpB y f m j k = true)) (s : Nat) : midF y f m j (k + 1) s = midF y f m j k s := by
  unfold midF
  split
  · rw [dk_succ, if_neg h]
  · rfl
theorem stp_no {m j k t : Nat} (hd : dk y f m j k < 0) (ht : nextS y j k = (t : Int)) (he : midF y f m j k t ≠ (m : Int)) : stpB y f m j k = false := by
  unfold stpB
  rw [ht]
  have : dst y f m t ≠ (m : Int) := fun h => he ((mid_eqm hd).2 h)
  rw [beq_eq_false_iff_ne.2 this, Bool.and_false]
end Go.Proofs.YtphlojgmfkgeiaaGreatDoor
