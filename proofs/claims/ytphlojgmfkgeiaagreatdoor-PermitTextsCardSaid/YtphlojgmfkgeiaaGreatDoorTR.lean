/- The reference's parse in plain words: how it goes from line to line. -/
import Derived.Test.YtphlojgmfkgeiaaGreatDoorTH
namespace Go.Proofs.YtphlojgmfkgeiaaGreatDoor
open Go.RowKit Go.Sort Go.Shelf
def runR : Yd → List ByteArray → Option Yd
  | y, [] => some y
  | y, l :: r => if (rpR y (spL l 32)).1 = 0 then runR (rpR y (spL l 32)).2 r else none
theorem runR_snoc (x : ByteArray) : ∀ (pre : List ByteArray) (y z : Yd), runR y pre = some z → runR y (pre ++ [x]) = if (rpR z (spL x 32)).1 = 0 then some (rpR z (spL x 32)).2 else none
  | [], y, z, h => by
    cases h
    rfl
  | l :: r, y, z, h => by
    have h' : (if (rpR y (spL l 32)).1 = 0 then runR (rpR y (spL l 32)).2 r else none) = some z := h
    split at h'
    · rename_i h0
      show (if (rpR y (spL l 32)).1 = 0 then runR (rpR y (spL l 32)).2 (r ++ [x]) else none) = _
      rw [if_pos h0]
      exact runR_snoc x r _ z h'
    · cases h'
theorem goP_runR (m : ByteArray) (r : List ByteArray) : ∀ (pre : List ByteArray) (y z : Yd) (i : Nat), runR y pre = some z → goP rpR y i (pre ++ m :: r) = goP rpR z (i + pre.length) (m :: r)
  | [], y, z, i, h => by
    cases h
    rfl
  | l :: q, y, z, i, h => by
    have h' : (if (rpR y (spL l 32)).1 = 0 then runR (rpR y (spL l 32)).2 q else none) = some z := h
    split at h'
    · rename_i h0
      obtain ⟨m2, r2, e⟩ : ∃ m2 r2, q ++ m :: r = m2 :: r2 := by
        cases q with
        | nil => exact ⟨m, r, rfl⟩
        | cons a q => exact ⟨a, q ++ m :: r, rfl⟩
      show goP rpR y i (l :: (q ++ m :: r)) = _
      rw [e, goP_ok h0, ← e, goP_runR m r q _ z (i + 1) h', List.length_cons, show i + 1 + q.length = i + (q.length + 1) by omega]
    · cases h'
theorem wAt_b {M : Nat} {ws : List ByteArray} (hw : ∀ x ∈ ws, x.size ≤ M) (i : Nat) : (wAt ws i).size ≤ M := by
  unfold wAt
  cases h : ws[i]? with
  | none => exact Nat.zero_le _
  | some x => exact hw x (List.mem_of_getElem? h)
theorem rpR_len {k M : Nat} {z : Yd} (h : LenN k M z) {ws : List ByteArray} (hw : ∀ x ∈ ws, x.size ≤ M) : LenN (k + 1) M (rpR z ws).2 := by
  unfold rpR
  split
  · exact h.up
  · split
    · exact ⟨by show (z.s ++ [_]).length ≤ _; rw [List.length_append]; exact Nat.succ_le_succ h.s, Nat.le_succ_of_le h.w, Nat.le_succ_of_le h.p, mem_snoc h.sn (wAt_b hw 1), h.wn, h.pn⟩
    · have key : ∀ b : Int, LenN (k + 1) M (if decide (secAtB z (wAt ws 2) < 0) || decide (ws.length = 5) && decide (b < 0) then ((10 : Int), z) else if (wAt ws 0).toList == permitL then (0, { z with p := z.p ++ [⟨wAt ws 1, secAtB z (wAt ws 2)⟩] }) else (0, { z with w := z.w ++ [⟨wAt ws 1, wAt ws 0, secAtB z (wAt ws 2), b, (lastB ws).toList == closedL⟩] })).2 := fun b => by
        split
        · exact h.up
        · split
          · exact ⟨Nat.le_succ_of_le h.s, Nat.le_succ_of_le h.w, by show (z.p ++ [_]).length ≤ _; rw [List.length_append]; exact Nat.succ_le_succ h.p, h.sn, h.wn, mem_snoc h.pn (wAt_b hw 1)⟩
          · exact ⟨Nat.le_succ_of_le h.s, by show (z.w ++ [_]).length ≤ _; rw [List.length_append]; exact Nat.succ_le_succ h.w, Nat.le_succ_of_le h.p, h.sn, mem_snoc h.wn (wAt_b hw 1), h.pn⟩
      exact key _
theorem runR_len {M : Nat} : ∀ (pre : List ByteArray) (k : Nat) (y z : Yd), LenN k M y → (∀ x ∈ pre, x.size ≤ M) → runR y pre = some z → LenN (k + pre.length) M z
  | [], k, y, z, h, _, e => by
    cases e
    exact h
  | l :: r, k, y, z, h, hb, e => by
    have e' : (if (rpR y (spL l 32)).1 = 0 then runR (rpR y (spL l 32)).2 r else none) = some z := e
    split at e'
    · have := runR_len r (k + 1) _ z (rpR_len h (fun u hu => Nat.le_trans (words_b l 32 _ (Nat.le_refl _) u hu) (hb l (List.mem_cons_self ..)))) (fun x hx => hb x (List.mem_cons_of_mem _ hx)) e'
      rw [List.length_cons, show k + (r.length + 1) = k + 1 + r.length by omega]
      exact this
    · cases e'
theorem LenN.fits {k M : Nat} {z : Yd} (h : LenN k M z) (hk : k ≤ 400) (hM : M ≤ 90000) : FitsL z :=
  ⟨Nat.le_trans h.s hk, Nat.le_trans h.w hk, Nat.le_trans h.p hk, fun u hu => Nat.le_trans (h.sn u hu) (by unfold maxLen; omega), fun u hu => Nat.le_trans (h.wn u hu) (by unfold maxLen; omega), fun u hu => Nat.le_trans (h.pn u hu) (by unfold maxLen; omega)⟩
/-- What a line's words are where they have a form. -/
theorem forms {ws : List ByteArray} (h : frm ws = true) : (∃ x1 x2, ws = [⟨sectionL.toArray⟩, x1, x2]) ∨ (∃ x1 x2, ws = [⟨permitL.toArray⟩, x1, x2]) ∨ (∃ x1 x2 x3, ws = [⟨earthL.toArray⟩, x1, x2, x3]) ∨ (∃ x0 x1 x2 x3 x4, (x0.toList == sectionL) = false ∧ (x0.toList == permitL) = false ∧ ws = [x0, x1, x2, x3, x4]) := by
  unfold frm at h
  rw [Bool.and_eq_true] at h
  have hk := h.2
  unfold frmK at hk
  simp only [Bool.or_eq_true, Bool.and_eq_true, beq_iff_eq] at hk
  rcases hk with ((⟨⟨ka, kn⟩, _⟩ | ⟨ka, kn⟩) | ⟨⟨ka, kn⟩, _⟩) | ⟨⟨ka, kn⟩, _⟩
  · obtain ⟨x0, x1, x2, rfl⟩ := len3 kn
    exact .inl ⟨x1, x2, by rw [of_lit (show x0.toList = sectionL from ka)]⟩
  · obtain ⟨x0, x1, x2, rfl⟩ := len3 kn
    exact .inr (.inl ⟨x1, x2, by rw [of_lit (show x0.toList = permitL from ka)]⟩)
  · obtain ⟨x0, x1, x2, x3, rfl⟩ := len4 kn
    exact .inr (.inr (.inl ⟨x1, x2, x3, by rw [of_lit (show x0.toList = earthL from ka)]⟩))
  · obtain ⟨x0, x1, x2, x3, x4, rfl⟩ := len5 kn
    have ka : x0.toList = breakerL ∨ x0.toList = isolatorL := ka
    exact .inr (.inr (.inr ⟨x0, x1, x2, x3, x4, by rcases ka with h | h <;> rw [h] <;> rfl, by rcases ka with h | h <;> rw [h] <;> rfl, rfl⟩))
end Go.Proofs.YtphlojgmfkgeiaaGreatDoor
