/- Whatever is parsed is printed as it was; in plain words. -/
import Derived.Test.YtphlojgmfkgeiaaGreatDoorQR
namespace Go.Proofs.YtphlojgmfkgeiaaGreatDoor
open Go.RowKit Go.Sort Go.Shelf
def linesY (y : Yd) : List (List ByteArray) := y.s.map secW ++ (y.w.map (swW y) ++ y.p.map (pmW y))
theorem print_of (y : Yd) : printL y = (linesY y).flatMap lineL := by
  unfold printL linesY
  rw [List.flatMap_append, List.flatMap_append, List.flatMap_map, List.flatMap_map, List.flatMap_map, List.append_assoc]
theorem of_lit {x : ByteArray} {l : List UInt8} (h : x.toList = l) : x = ⟨l.toArray⟩ := by
  rw [toList_data] at h
  rw [← h]
theorem idx_name (nm : ByteArray) : ∀ (l : List Sec) (k : Nat), 0 ≤ idxP (fun x : Sec => x.n.toList == nm.toList) k l → ∃ (i : Nat) (hi : i < l.length), idxP (fun x : Sec => x.n.toList == nm.toList) k l = ((k + i : Nat) : Int) ∧ (l[i].n.toList == nm.toList) = true
  | [], k, h => by simp [idxP] at h
  | x :: r, k, h => by
    rw [idxP_cons] at h ⊢
    cases hx : (x.n.toList == nm.toList) with
    | true => exact ⟨0, by simp, by simp, hx⟩
    | false =>
      rw [hx, if_neg (by decide)] at h
      rw [if_neg (by decide)]
      obtain ⟨i, hi, e, hm⟩ := idx_name nm r (k + 1) h
      exact ⟨i + 1, by simpa using hi, by rw [e]; omega, by simpa using hm⟩
theorem nmS_at {y : Yd} {nm : ByteArray} (h : ¬ secAtB y nm < 0) : nmS y (secAtB y nm) = nm := by
  obtain ⟨i, hi, e, hm⟩ := idx_name nm y.s 0 (by unfold secAtB at h; omega)
  have e' : secAtB y nm = (i : Int) := by unfold secAtB; rw [e]; simp
  rw [e', nmS_get hi]
  have h1 := eq_of_beq hm
  rw [toList_data, toList_data] at h1
  rw [← toB_data nm, ← h1, toB_data]
theorem len3 {ws : List ByteArray} (h : ws.length = 3) : ∃ a b c, ws = [a, b, c] := by
  match ws, h with
  | [a, b, c], _ => exact ⟨a, b, c, rfl⟩
theorem len4 {ws : List ByteArray} (h : ws.length = 4) : ∃ a b c d, ws = [a, b, c, d] := by
  match ws, h with
  | [a, b, c, d], _ => exact ⟨a, b, c, d, rfl⟩
theorem len5 {ws : List ByteArray} (h : ws.length = 5) : ∃ a b c d e, ws = [a, b, c, d, e] := by
  match ws, h with
  | [a, b, c, d, e], _ => exact ⟨a, b, c, d, e, rfl⟩
theorem state_word {v : ByteArray} (h : v.toList = openL ∨ v.toList = closedL) : (if v.toList == closedL then (⟨#[99, 108, 111, 115, 101, 100]⟩ : ByteArray) else ⟨#[111, 112, 101, 110]⟩) = v := by
  rcases h with h | h
  · rw [h, if_neg (by decide)]
    exact (of_lit h).symm
  · rw [h, if_pos (by decide)]
    exact (of_lit h).symm
/-- A line adds what it says. -/
theorem rp_step {y y' : Yd} {ws : List ByteArray} (h : rpR y ws = (0, y')) : linesY y' = linesY y ++ [ws] := by
  unfold rpR at h
  split at h
  · injection h with h _
    cases h
  · rename_i hc
    rw [Bool.not_eq_true, Bool.or_eq_false_iff, Bool.or_eq_false_iff] at hc
    obtain ⟨⟨hf, h1⟩, h2⟩ := hc
    have hf : frm ws = true := by simpa using hf
    unfold frm at hf
    rw [Bool.and_eq_true] at hf
    have hk := hf.2
    unfold frmK at hk
    simp only [Bool.or_eq_true, Bool.and_eq_true, beq_iff_eq] at hk
    clear hf
    rcases hk with ((⟨⟨ka, kn⟩, kz⟩ | ⟨ka, kn⟩) | ⟨⟨ka, kn⟩, kz⟩) | ⟨⟨ka, kn⟩, kz⟩
    · obtain ⟨x0, x1, x2, rfl⟩ := len3 kn
      have e0 : (wAt [x0, x1, x2] 0).toList = sectionL := ka
      have kz : x2.toList = sourceL ∨ x2.toList = plainL := kz
      rw [e0] at h h1
      have hp : y.w.length + y.p.length = 0 := by simpa using h1
      have hw : y.w = [] := List.eq_nil_of_length_eq_zero (by omega)
      have hpp : y.p = [] := List.eq_nil_of_length_eq_zero (by omega)
      rw [if_pos (by decide)] at h
      injection h with _ h
      subst h
      have e : secW ⟨x1, x2.toList == sourceL⟩ = [x0, x1, x2] := by
        unfold secW
        dsimp only
        rw [of_lit (show x0.toList = sectionL from ka)]
        rcases kz with h | h
        · rw [h, if_pos (by decide), of_lit h]; rfl
        · rw [h, if_neg (by decide), of_lit h]; rfl
      show (y.s ++ [(⟨x1, x2.toList == sourceL⟩ : Sec)]).map secW ++ (y.w.map (swW _) ++ y.p.map (pmW _)) = (y.s.map secW ++ (y.w.map (swW y) ++ y.p.map (pmW y))) ++ [[x0, x1, x2]]
      rw [hw, hpp, List.map_append, List.map_cons, e]
      simp
    · obtain ⟨x0, x1, x2, rfl⟩ := len3 kn
      have e0 : (wAt [x0, x1, x2] 0).toList = permitL := ka
      rw [e0, if_neg (show ¬ (permitL == sectionL) = true by decide)] at h
      have e2 : wAt [x0, x1, x2] 2 = x2 := rfl
      have e1 : wAt [x0, x1, x2] 1 = x1 := rfl
      rw [e1, e2, if_neg (show ¬ [x0, x1, x2].length = 5 by simp)] at h
      dsimp only at h
      split at h
      · injection h with h _
        cases h
      · rename_i hs
        rw [Bool.not_eq_true, Bool.or_eq_false_iff] at hs
        have hs := of_decide_eq_false hs.1
        rw [if_pos (by decide)] at h
        injection h with _ h
        subst h
        have e : pmW y ⟨x1, secAtB y x2⟩ = [x0, x1, x2] := by
          unfold pmW
          dsimp only
          rw [nmS_at hs, of_lit (show x0.toList = permitL from ka)]
          rfl
        show y.s.map secW ++ (y.w.map (swW y) ++ (y.p ++ [(⟨x1, secAtB y x2⟩ : Pm)]).map (pmW y)) = (y.s.map secW ++ (y.w.map (swW y) ++ y.p.map (pmW y))) ++ [[x0, x1, x2]]
        rw [List.map_append, List.map_cons, e]
        simp
    · obtain ⟨x0, x1, x2, x3, rfl⟩ := len4 kn
      have e0 : (wAt [x0, x1, x2, x3] 0).toList = earthL := ka
      have kz : x3.toList = openL ∨ x3.toList = closedL := kz
      rw [e0] at h2 h
      rw [if_neg (show ¬ (earthL == sectionL) = true by decide)] at h
      have hp : y.p = [] := List.eq_nil_of_length_eq_zero (by
        have : (!(earthL == permitL)) = true := rfl
        rw [this, Bool.true_and] at h2
        have := of_decide_eq_false h2
        omega)
      have e2 : wAt [x0, x1, x2, x3] 2 = x2 := rfl
      have e1 : wAt [x0, x1, x2, x3] 1 = x1 := rfl
      have ew : wAt [x0, x1, x2, x3] 0 = x0 := rfl
      have el : lastB [x0, x1, x2, x3] = x3 := rfl
      rw [e1, e2, ew, el, if_neg (show ¬ [x0, x1, x2, x3].length = 5 by simp)] at h
      dsimp only at h
      split at h
      · injection h with h _
        cases h
      · rename_i hs
        rw [Bool.not_eq_true, Bool.or_eq_false_iff] at hs
        have hs := of_decide_eq_false hs.1
        rw [if_neg (by decide)] at h
        injection h with _ h
        subst h
        have e : swW y ⟨x1, x0, secAtB y x2, -1, x3.toList == closedL⟩ = [x0, x1, x2, x3] := by
          unfold swW
          dsimp only
          rw [nmS_at hs, state_word kz, if_pos (by rw [show x0.toList = earthL from ka]; decide)]
          rfl
        show y.s.map secW ++ ((y.w ++ [(⟨x1, x0, secAtB y x2, -1, x3.toList == closedL⟩ : Sw)]).map (swW y) ++ y.p.map (pmW y)) = (y.s.map secW ++ (y.w.map (swW y) ++ y.p.map (pmW y))) ++ [[x0, x1, x2, x3]]
        rw [hp, List.map_append, List.map_cons, e]
        simp
    · obtain ⟨x0, x1, x2, x3, x4, rfl⟩ := len5 kn
      have ka : x0.toList = breakerL ∨ x0.toList = isolatorL := ka
      have ks : (x0.toList == sectionL) = false := by rcases ka with h | h <;> rw [h] <;> rfl
      have kp : (x0.toList == permitL) = false := by rcases ka with h | h <;> rw [h] <;> rfl
      have ke : (x0.toList == earthL) = false := by rcases ka with h | h <;> rw [h] <;> rfl
      have kz : x4.toList = openL ∨ x4.toList = closedL := kz
      have e3 : wAt [x0, x1, x2, x3, x4] 3 = x3 := rfl
      have e2 : wAt [x0, x1, x2, x3, x4] 2 = x2 := rfl
      have e1 : wAt [x0, x1, x2, x3, x4] 1 = x1 := rfl
      have ew : wAt [x0, x1, x2, x3, x4] 0 = x0 := rfl
      have el : lastB [x0, x1, x2, x3, x4] = x4 := rfl
      rw [ew, kp] at h2
      rw [ew, ks, e1, e2, e3, el, kp, if_neg (show ¬ (false = true) by decide), if_pos (show [x0, x1, x2, x3, x4].length = 5 from rfl)] at h
      have hp : y.p = [] := List.eq_nil_of_length_eq_zero (by
        rw [Bool.not_false, Bool.true_and] at h2
        have := of_decide_eq_false h2
        omega)
      dsimp only at h
      split at h
      · injection h with h _
        cases h
      · rename_i hs
        rw [Bool.not_eq_true, Bool.or_eq_false_iff] at hs
        have hs1 := of_decide_eq_false hs.1
        have hs2 : ¬ secAtB y x3 < 0 := by
          have := hs.2
          rw [Bool.and_eq_false_iff] at this
          rcases this with h | h
          · exact absurd (of_decide_eq_false h) (by simp)
          · exact of_decide_eq_false h
        rw [if_neg (by decide)] at h
        injection h with _ h
        subst h
        have e : swW y ⟨x1, x0, secAtB y x2, secAtB y x3, x4.toList == closedL⟩ = [x0, x1, x2, x3, x4] := by
          unfold swW
          dsimp only
          rw [nmS_at hs1, nmS_at hs2, state_word kz, if_neg (by rw [ke]; decide)]
          rfl
        show y.s.map secW ++ ((y.w ++ [(⟨x1, x0, secAtB y x2, secAtB y x3, x4.toList == closedL⟩ : Sw)]).map (swW y) ++ y.p.map (pmW y)) = (y.s.map secW ++ (y.w.map (swW y) ++ y.p.map (pmW y))) ++ [[x0, x1, x2, x3, x4]]
        rw [hp, List.map_append, List.map_cons, e]
        simp
theorem empty_of {l : ByteArray} (h : (l.toList == []) = true) : l = toB [] := by
  have := eq_of_beq h
  rw [toList_data] at this
  rw [← toB_data l, this]
theorem goP_back : ∀ (ls : List ByteArray) (y : Yd) (i : Nat) (z : Yd) (j : Nat), goP rpR y i ls = (z, j, 0) → j = 0 ∧ yardE z = 0 ∧ ∃ bs : List ByteArray, ls = bs ++ [toB []] ∧ linesY z = linesY y ++ bs.map (fun l => spL l 32)
  | [], y, i, z, j, h => by
    have := congrArg (fun q => q.2.2) h
    exact absurd (show (25 : Int) = 0 from this) (by decide)
  | [l], y, i, z, j, h => by
    have h' : (if l.toList == [] then (if yardE y = 0 then (y, 0, 0) else (nilY, i, yardE y)) else (nilY, i, 25)) = (z, j, (0 : Int)) := h
    split at h'
    · rename_i hl
      split at h'
      · rename_i he
        have h1 : y = z := congrArg (fun q => q.1) h'
        have h2 : 0 = j := congrArg (fun q => q.2.1) h'
        subst h1
        exact ⟨h2.symm, he, [], by rw [empty_of hl]; rfl, by simp⟩
      · rename_i he
        exact absurd (congrArg (fun q => q.2.2) h') he
    · exact absurd (show (25 : Int) = 0 from congrArg (fun q => q.2.2) h') (by decide)
  | l :: m :: r, y, i, z, j, h => by
    by_cases hz : (rpR y (spL l 32)).1 = 0
    · rw [goP_ok hz] at h
      obtain ⟨h1, h2, bs, h3, h4⟩ := goP_back (m :: r) _ _ z j h
      refine ⟨h1, h2, l :: bs, by rw [h3]; rfl, ?_⟩
      rw [h4, rp_step (y' := (rpR y (spL l 32)).2) (Prod.ext hz rfl), List.map_cons, List.append_assoc]
      rfl
    · rw [goP_no hz] at h
      exact absurd (congrArg (fun q => q.2.2) h) hz
def unl (c : UInt8) : List (List UInt8) → List UInt8
  | [] => []
  | [p] => p
  | p :: q :: r => p ++ c :: unl c (q :: r)
theorem unl_cons (c b : UInt8) (p : List UInt8) (ps : List (List UInt8)) : unl c ((b :: p) :: ps) = b :: unl c (p :: ps) := by
  cases ps <;> rfl
theorem unl_spl (c : UInt8) : ∀ l, unl c (spl c l) = l
  | [] => rfl
  | b :: r => by
    have ih := unl_spl c r
    cases hr : spl c r with
    | nil => exact absurd hr (spl_ne c r)
    | cons p ps =>
      rw [hr] at ih
      cases hb : (b == c) with
      | true =>
        rw [spl_eq hb, hr]
        show [] ++ c :: unl c (p :: ps) = _
        rw [ih, eq_of_beq hb]
        rfl
      | false => rw [spl_cons hb hr, unl_cons, ih]
theorem join_unl : ∀ ws : List (List UInt8), Lib.join ws [32] = unl 32 ws
  | [] => rfl
  | [x] => Lib.join_one ..
  | x :: z :: r => by rw [join_more, join_unl (z :: r)]; rfl
theorem body_back (l : ByteArray) : bodyL (spL l 32) = l.data.toList := by
  have e : spL l 32 = (spl 32 l.data.toList).map toB := spL_spl l 32
  unfold bodyL
  rw [e, List.map_map, show ((fun x : ByteArray => x.data.toList) ∘ toB) = id from funext fun x => by simp [toB], List.map_id, join_unl, unl_spl]
theorem unl_lines : ∀ ps : List (List UInt8), unl 10 (ps ++ [[]]) = ps.flatMap (fun p => p ++ [10])
  | [] => rfl
  | p :: ps => by
    obtain ⟨m, r, e⟩ := app_head ps ([] : List UInt8)
    rw [List.cons_append, e]
    show p ++ 10 :: unl 10 (m :: r) = _
    rw [← e, unl_lines ps, List.flatMap_cons, List.append_assoc]
    rfl
/-- Whatever is parsed is printed as it was. -/
theorem parse_back {s : ByteArray} {z : Yd} {j : Nat} (h : parseR s = (z, j, 0)) : j = 0 ∧ yardE z = 0 ∧ toB (printL z) = s := by
  unfold parseR at h
  split at h
  · exact absurd (show (26 : Int) = 0 from congrArg (fun q => q.2.2) h) (by decide)
  · obtain ⟨h1, h2, bs, h3, h4⟩ := goP_back _ _ _ _ _ h
    refine ⟨h1, h2, ?_⟩
    have e : spL s 10 = (spl 10 s.data.toList).map toB := spL_spl s 10
    have e2 : spl 10 s.data.toList = bs.map (fun x => x.data.toList) ++ [[]] := by
      have h5 := congrArg (List.map (fun x : ByteArray => x.data.toList)) (e.symm.trans h3)
      rw [List.map_map, show ((fun x : ByteArray => x.data.toList) ∘ toB) = id from funext fun x => by simp [toB], List.map_id, List.map_append] at h5
      exact h5
    have e3 : s.data.toList = bs.flatMap (fun x => x.data.toList ++ [10]) := by
      rw [← unl_spl 10 s.data.toList, e2, unl_lines, List.flatMap_map]
    rw [← toB_data s, e3, print_of, h4, show linesY nilY = [] from rfl, List.nil_append, List.flatMap_map]
    congr 1
    refine congrArg (fun f => List.flatMap f bs) (funext fun x => ?_)
    show bodyL (spL x 32) ++ [10] = _
    rw [body_back]
end Go.Proofs.YtphlojgmfkgeiaaGreatDoor
