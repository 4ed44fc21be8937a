/- A printed text without its last byte is not parsed; in plain words. -/
import Derived.Test.YtphlojgmfkgeiaaGreatDoorQQ
namespace Go.Proofs.YtphlojgmfkgeiaaGreatDoor
open Go.RowKit Go.Sort Go.Shelf
theorem rpR_empty (z : Yd) {l : ByteArray} (h : (l.toList == []) = true) : (rpR z (spL l 32)).1 = 25 := by
  have e : l = toB [] := by
    have := eq_of_beq h
    rw [toList_data] at this
    rw [← toB_data l, this]
  subst e
  have e2 : spL (toB []) 32 = [toB []] := rfl
  rw [e2]
  unfold rpR
  rw [frm_nil h]
  rfl
theorem goP_cut : ∀ (ls : List ByteArray) (z : Yd) (i : Nat) (l : ByteArray) (y : Yd), goP rpR z i (ls ++ [l, toB []]) = (y, 0, 0) → goP rpR z i (ls ++ [l]) = (nilY, i + ls.length, 25)
  | [], z, i, l, y, h => by
    by_cases hz : (rpR z (spL l 32)).1 = 0
    · have hl : (l.toList == []) = false := by
        cases hq : (l.toList == []) with
        | false => rfl
        | true => rw [rpR_empty z hq] at hz; cases hz
      show (if l.toList == [] then _ else _) = _
      rw [hl]
      rfl
    · have h' : goP rpR z i (l :: toB [] :: []) = (y, 0, 0) := h
      rw [goP_no hz] at h'
      exact absurd (congrArg (fun q => q.2.2) h') hz
  | a :: ls, z, i, l, y, h => by
    obtain ⟨m, r, e⟩ : ∃ m r, ls ++ [l] = m :: r := app_head ls l
    have e2 : ls ++ [l, toB []] = m :: (r ++ [toB []]) := by
      rw [show ls ++ [l, toB []] = (ls ++ [l]) ++ [toB []] by simp, e]
      rfl
    have h' : goP rpR z i (a :: m :: (r ++ [toB []])) = (y, 0, 0) := by rw [← e2]; exact h
    show goP rpR z i (a :: (ls ++ [l])) = _
    by_cases hz : (rpR z (spL a 32)).1 = 0
    · rw [goP_ok hz, ← e2] at h'
      rw [e, goP_ok hz, ← e, goP_cut ls _ (i + 1) l y h', List.length_cons, show i + 1 + ls.length = i + (ls.length + 1) by omega]
    · rw [goP_no hz] at h'
      exact absurd (congrArg (fun q => q.2.2) h') hz
theorem snoc_of {α : Type} {l : List α} (h : l ≠ []) : ∃ m a, l = m ++ [a] := ⟨l.dropLast, l.getLast h, (List.dropLast_concat_getLast h).symm⟩
/-- A text that is printed ends with a newline. -/
theorem print_end {y : Yd} (h : yardE y = 0) : ∃ q, printL y = q ++ [10] := by
  have hs : y.s ≠ [] := by
    have := (yard_ok h).1.n0
    intro h0
    rw [h0] at this
    exact absurd this (by decide)
  have e : printL y = (y.s.map secW ++ (y.w.map (swW y) ++ y.p.map (pmW y))).flatMap lineL := by
    unfold printL
    rw [List.flatMap_append, List.flatMap_append, List.flatMap_map, List.flatMap_map, List.flatMap_map, List.append_assoc]
  obtain ⟨m, a, hm⟩ := snoc_of (l := y.s.map secW ++ (y.w.map (swW y) ++ y.p.map (pmW y))) (by simp [hs])
  rw [e, hm, List.flatMap_append]
  exact ⟨m.flatMap lineL ++ bodyL a, by simp [lineL, bodyL]⟩
theorem parse_cut {y : Yd} (h : yardE y = 0) (hl : (printL y).length ≤ 4096) : parseR (toB (printL y).dropLast) = (nilY, y.s.length + y.w.length + y.p.length - 1, 25) := by
  obtain ⟨q, hq⟩ := print_end h
  obtain ⟨p1, p2⟩ := parse_print h hl
  have e1 : spL (toB (printL y)) 10 = spL (toB q) 10 ++ [toB []] := by
    have a1 : spL (toB (printL y)) 10 = (spl 10 (toB (printL y)).data.toList).map toB := spL_spl (toB (printL y)) 10
    have a2 : spL (toB q) 10 = (spl 10 (toB q).data.toList).map toB := spL_spl (toB q) 10
    rw [a1, a2, show (toB (printL y)).data.toList = printL y by simp [toB], show (toB q).data.toList = q by simp [toB], hq, spl_snoc, if_pos (beq_self_eq_true (10 : UInt8)), List.map_append]
    rfl
  have hlen : (spL (toB q) 10).length = y.s.length + y.w.length + y.p.length := by
    have := p2
    rw [e1, List.length_append] at this
    simpa using this
  have hpos := (yard_ok h).1.n0
  obtain ⟨m, a, hm⟩ := snoc_of (l := spL (toB q) 10) (by
    intro h0
    rw [h0] at hlen
    simp at hlen
    omega)
  have hsz : ¬ 4096 < (toB q).size := by
    have : q.length + 1 ≤ 4096 := by rw [hq] at hl; simpa using hl
    show ¬ 4096 < q.toArray.size
    simp
    omega
  have hg : goP rpR nilY 0 (m ++ [a, toB []]) = (y, 0, 0) := by
    have h1 := p1
    unfold parseR at h1
    rw [if_neg (by show ¬ 4096 < (printL y).toArray.size; simp; omega), e1, hm] at h1
    rw [show m ++ [a, toB []] = m ++ [a] ++ [toB []] by simp]
    exact h1
  rw [hq, List.dropLast_concat]
  unfold parseR
  rw [if_neg hsz, hm, goP_cut m nilY 0 a y hg]
  rw [hm] at hlen
  simp at hlen
  rw [show 0 + m.length = y.s.length + y.w.length + y.p.length - 1 by omega]
end Go.Proofs.YtphlojgmfkgeiaaGreatDoor
