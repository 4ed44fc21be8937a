/- Never: what the law says of one act, in plain words. -/
import Derived.Test.YtphlojgmfkgeiaaGreatDoorAP
namespace Go.Proofs.YtphlojgmfkgeiaaGreatDoor
open Go.RowKit Go.Sort Go.Shelf
def nvE (z : Yd) (x : Ac) : Int :=
  if x.k.toList == moveW && x.s.toList == [] then moveE z x.n
  else if x.k.toList == grantW then grantE z x.n x.s
  else if x.k.toList == returnW && x.s.toList == [] then retE z x.n
  else 13
theorem nv_act {z : Yd} {x : Ac} (h : nvE z x = 0) : actE z x = 0 := by
  unfold nvE at h
  unfold actE
  split at h
  · rename_i hk
    rw [Bool.and_eq_true] at hk
    have k1 := eq_of_beq hk.1
    rw [k1, hk.2]
    exact h
  · split at h
    · rename_i hk
      rw [if_pos hk]
      exact h
    · rename_i hg
      split at h
      · rename_i hk
        rw [Bool.and_eq_true] at hk
        have k1 := eq_of_beq hk.1
        rw [k1, hk.2]
        exact h
      · cases h
/-- How many switches are closed in one row and open in the other, among the first k. -/
def chgUp (a b : List Sw) : Nat → Int
  | 0 => 0
  | k + 1 => chgUp a b k + (if (a[k]?.map Sw.c) == (b[k]?.map Sw.c) then 0 else 1)
theorem chgUp_self (a : List Sw) : ∀ k, chgUp a a k = 0
  | 0 => rfl
  | k + 1 => by simp [chgUp, chgUp_self a k]
theorem chgUp_moved (a : List Sw) (i : Nat) (hi : i < a.length) : ∀ k, k ≤ a.length → chgUp (moved a i) a k = if i < k then 1 else 0
  | 0, _ => by simp [chgUp]
  | k + 1, hk => by
    have ih := chgUp_moved a i hi k (by omega)
    have hk' : k < a.length := by omega
    have e1 : (moved a i)[k]?.map Sw.c = some (if i = k then !a[k].c else a[k].c) := by
      rw [List.getElem?_eq_getElem (by rw [moved_len]; exact hk')]
      simp only [moved, List.getElem_modify, Option.map_some]
      split <;> rfl
    have e2 : a[k]?.map Sw.c = some a[k].c := by rw [List.getElem?_eq_getElem hk']; rfl
    unfold chgUp
    rw [ih, e1, e2]
    by_cases h : i = k
    · subst h
      rw [if_pos rfl]
      cases a[i].c <;> simp
    · rw [if_neg h]
      simp only [beq_self_eq_true, if_true, Int.add_zero]
      by_cases h2 : i < k
      · rw [if_pos h2, if_pos (show i < k + 1 by omega)]
      · rw [if_neg h2, if_neg (show ¬ i < k + 1 by omega)]
/-- One switch or one permit. -/
theorem act_one {z : Yd} {x : Ac} (h : actE z x = 0) : (actY z x).s = z.s ∧ (actY z x).w.length = z.w.length ∧ (((actY z x).p.length : Int) - (z.p.length : Int)).natAbs + chgUp (actY z x).w z.w z.w.length = 1 := by
  unfold actE at h
  unfold actY
  split at h
  · rename_i hk
    rw [if_pos hk]
    refine ⟨rfl, rfl, ?_⟩
    show ((((z.p ++ [_]).length : Nat) : Int) - _).natAbs + chgUp z.w z.w z.w.length = 1
    rw [chgUp_self, List.length_append]
    simp only [List.length_cons, List.length_nil]
    omega
  · rename_i hk
    rw [if_neg hk]
    split at h
    · split at h
      · cases h
      · split at h
        · rename_i hm
          rw [if_pos hm]
          refine ⟨rfl, moved_len _ _, ?_⟩
          show ((z.p.length : Int) - _).natAbs + chgUp (moved z.w _) z.w z.w.length = 1
          have := (move_ok h).2.1
          rw [chgUp_moved _ _ this _ (Nat.le_refl _), if_pos this]
          simp
        · rename_i hm
          rw [if_neg hm]
          refine ⟨rfl, rfl, ?_⟩
          have := (ret_ok h).2
          show (((retY z x.n).p.length : Int) - _).natAbs + chgUp z.w z.w z.w.length = 1
          rw [chgUp_self]
          omega
    · cases h
def earL (y : Yd) : List Int := those y.s.length (earthedB y)
/-- No section is both; none with a permit is energized. -/
theorem en_ea {y : Yd} (h : yardE y = 0) {i : Int} (hi : i ∈ enL y) : hasI (earL y) i = false := by
  obtain ⟨h1, h2⟩ := List.mem_filter.1 hi
  have h3 := (sound_of.1 (yardE_zero.1 h).2).1
  unfold shortB at h3
  rw [List.any_eq_false] at h3
  have h4 := h3 i h1
  unfold earL
  rw [those_has h1]
  simpa [h2] using h4
theorem en_pm {y : Yd} (h : yardE y = 0) {i : Int} (hi : i ∈ enL y) : ∀ x ∈ y.p, x.s ≠ i := by
  intro x hx e
  obtain ⟨h1, h2⟩ := List.mem_filter.1 hi
  have h3 := (sound_of.1 (yardE_zero.1 h).2).2
  unfold openB at h3
  rw [List.any_eq_false] at h3
  have h4 : secB y x.s = true := by simpa using h3 x hx
  unfold secB at h4
  rw [Bool.and_eq_true] at h4
  rw [e] at h4
  have := sep_energ (yard_ok h).1 h1 h4.1
  rw [this] at h2
  cases h2
theorem enL_len (y : Yd) : (enL y).length ≤ y.s.length := by
  have := List.length_filter_le (energB y) (rng y.s.length)
  rwa [rng_len] at this
theorem earL_len (y : Yd) : (earL y).length ≤ y.s.length := by
  have := List.length_filter_le (earthedB y) (rng y.s.length)
  rwa [rng_len] at this
/-- Acts one by one are played. -/
theorem play_snoc : ∀ (l : List Ac) (y : Yd) (i : Nat) (z : Yd) (x : Ac), playGo y i l = (z, 0, 0) → actE z x = 0 → playGo y i (l ++ [x]) = (actY z x, 0, 0)
  | [], y, i, z, x, h, hx => by
    have : y = z := congrArg Prod.fst h
    subst this
    show playGo y i [x] = _
    rw [playGo_ok hx, playGo_nil]
  | a :: r, y, i, z, x, h, hx => by
    by_cases ha : actE y a = 0
    · rw [playGo_ok ha] at h
      show playGo y i (a :: (r ++ [x])) = _
      rw [playGo_ok ha]
      exact play_snoc r _ _ z x h hx
    · rw [playGo_no ha] at h
      have := congrArg (fun q => q.2.2) h
      exact absurd this ha
end Go.Proofs.YtphlojgmfkgeiaaGreatDoor
