/- A line of a yard's text, read in two ways; in plain words. -/
import Derived.Test.YtphlojgmfkgeiaaGreatDoorQF
import Derived.Test.YtphlojgmfkgeiaaGreatDoorKe
namespace Go.Proofs.YtphlojgmfkgeiaaGreatDoor
open Go.RowKit Go.Sort Go.Shelf
def noB : ByteArray := ⟨#[]⟩
/-- The program's taker: the next word; whether something was wrong. -/
def tk : List ByteArray × Bool → ByteArray × (List ByteArray × Bool)
  | ([], _) => (noB, ([], true))
  | (x :: r, q) => if x.toList == [] then (noB, ([], true)) else (x, (r, q))
theorem tk_nil (q : Bool) : tk ([], q) = (noB, ([], true)) := rfl
theorem tk_no {x : ByteArray} (h : (x.toList == []) = true) (r : List ByteArray) (q : Bool) : tk (x :: r, q) = (noB, ([], true)) := if_pos h
theorem tk_ok {x : ByteArray} (h : (x.toList == []) = false) (r : List ByteArray) (q : Bool) : tk (x :: r, q) = (x, (r, q)) := if_neg (by rw [h]; decide)
def synE (q : Bool) (known : Int) : Int := if q then 25 else known
/-- What the program makes of a line's words, behind the first one. -/
def prSec (y : Yd) (t : List ByteArray × Bool) : Int × Yd :=
  (synE ((tk (tk t).2).2.2 || !((tk (tk t).2).1.toList == sourceL || (tk (tk t).2).1.toList == plainL) || decide (0 < y.w.length + y.p.length) || !(tk (tk t).2).2.1.isEmpty) 0, { y with s := y.s ++ [⟨(tk t).1, (tk (tk t).2).1.toList == sourceL⟩] })
def prPm (y : Yd) (t : List ByteArray × Bool) : Int × Yd :=
  (synE ((tk (tk t).2).2.2 || !(tk (tk t).2).2.1.isEmpty) (whenE (decide (secAtB y (tk (tk t).2).1 < 0)) 10), { y with p := y.p ++ [⟨(tk t).1, secAtB y (tk (tk t).2).1⟩] })
def prTail (y : Yd) (k n : ByteArray) (a b known : Int) (v : ByteArray × (List ByteArray × Bool)) : Int × Yd :=
  (synE (v.2.2 || !(v.1.toList == closedL || v.1.toList == openL) || decide (0 < y.p.length) || !v.2.1.isEmpty) known, { y with w := y.w ++ [⟨n, k, a, b, v.1.toList == closedL⟩] })
def prSw (y : Yd) (k : ByteArray) (t : List ByteArray × Bool) : Int × Yd :=
  if k.toList == earthL then prTail y k (tk t).1 (secAtB y (tk (tk t).2).1) (-1) (whenE (decide (secAtB y (tk (tk t).2).1 < 0)) 10) (tk (tk (tk t).2).2)
  else prTail y k (tk t).1 (secAtB y (tk (tk t).2).1) (secAtB y (tk (tk (tk t).2).2).1) (or0 (whenE (decide (secAtB y (tk (tk t).2).1 < 0)) 10) (whenE (decide (secAtB y (tk (tk (tk t).2).2).1 < 0)) 10)) (tk (tk (tk (tk t).2).2).2)
def prK (y : Yd) (k : ByteArray) (t : List ByteArray × Bool) : Int × Yd :=
  if k.toList == sectionL then prSec y t else if k.toList == permitL then prPm y t else if kindB k then prSw y k t else (25, y)
def prR (y : Yd) (ws : List ByteArray) : Int × Yd := prK y (tk (ws, false)).1 (tk (ws, false)).2
def wAt (ws : List ByteArray) (i : Nat) : ByteArray := (ws[i]?).getD noB
/-- What the reference makes of them. -/
def rpR (y : Yd) (ws : List ByteArray) : Int × Yd :=
  if !frm ws || (wAt ws 0).toList == sectionL && decide (0 < y.w.length + y.p.length) || !((wAt ws 0).toList == permitL) && decide (0 < y.p.length) then (25, y)
  else if (wAt ws 0).toList == sectionL then (0, { y with s := y.s ++ [⟨wAt ws 1, (wAt ws 2).toList == sourceL⟩] })
  else
    let a := secAtB y (wAt ws 2)
    let b := if ws.length = 5 then secAtB y (wAt ws 3) else -1
    if decide (a < 0) || decide (ws.length = 5) && decide (b < 0) then (10, y)
    else if (wAt ws 0).toList == permitL then (0, { y with p := y.p ++ [⟨wAt ws 1, a⟩] })
    else (0, { y with w := y.w ++ [⟨wAt ws 1, wAt ws 0, a, b, (lastB ws).toList == closedL⟩] })
theorem frm_cons {x : ByteArray} {r : List ByteArray} (h : (x.toList == []) = false) : frm (x :: r) = (r.all (fun x => !(x.toList == [])) && frmK x.toList (lastB (x :: r)).toList (r.length + 1)) := by
  unfold frm
  rw [List.all_cons, h]
  rfl
theorem frm_nil {x : ByteArray} {r : List ByteArray} (h : (x.toList == []) = true) : frm (x :: r) = false := by
  unfold frm
  rw [List.all_cons, h]
  rfl
def Agree (p r : Int × Yd) : Prop := p.1 = r.1 ∧ (r.1 = 0 → p.2 = r.2)
theorem agree_syn {p : Int × Yd} {y : Yd} (h : p.1 = 25) : Agree p (25, y) := ⟨h, fun h => by cases h⟩
/-- Of a section. -/
theorem sec_rp (y : Yd) {x : ByteArray} (h0 : (x.toList == []) = false) (k1 : (x.toList == sectionL) = true) (r : List ByteArray) : Agree (prSec y (r, false)) (rpR y (x :: r)) := by
  have k2 : (x.toList == permitL) = false := by rw [eq_of_beq k1]; rfl
  have k3 : (x.toList == earthL) = false := by rw [eq_of_beq k1]; rfl
  have k4 : (x.toList == breakerL) = false := by rw [eq_of_beq k1]; rfl
  have k5 : (x.toList == isolatorL) = false := by rw [eq_of_beq k1]; rfl
  have hw : wAt (x :: r) 0 = x := rfl
  have hf : frm (x :: r) = (r.all (fun x => !(x.toList == [])) && (r.length + 1 == 3 && ((lastB (x :: r)).toList == sourceL || (lastB (x :: r)).toList == plainL))) := by
    rw [frm_cons h0]
    unfold frmK
    rw [k1, k2, k3, k4, k5]
    simp
  unfold rpR
  rw [hf, hw, k1, k2]
  simp only [Bool.true_and, Bool.not_false, if_true]
  rcases r with _ | ⟨a, _ | ⟨b, _ | ⟨c, r⟩⟩⟩
  · refine agree_syn (p := prSec y ([], false)) ?_
    unfold prSec; rw [tk_nil, tk_nil]; rfl
  · rw [show ([a].length + 1 == 3) = false from rfl]
    simp only [Bool.false_and, Bool.and_false, Bool.not_false, Bool.true_or, if_true]
    cases ha : (a.toList == [])
    · refine agree_syn (p := prSec y ([a], false)) ?_
      unfold prSec; rw [tk_ok ha, tk_nil]; rfl
    · refine agree_syn (p := prSec y ([a], false)) ?_
      unfold prSec; rw [tk_no ha, tk_nil]; rfl
  · cases ha : (a.toList == [])
    · cases hb : (b.toList == [])
      · unfold prSec
        rw [tk_ok ha, tk_ok hb]
        have hl : lastB [x, a, b] = b := rfl
        rw [hl]
        simp only [List.all_cons, List.all_nil, ha, hb]
        cases hq : (b.toList == sourceL || b.toList == plainL) <;> cases hd : decide (0 < y.w.length + y.p.length)
        · exact agree_syn rfl
        · exact agree_syn rfl
        · have hp : decide (0 < y.p.length) = false := by
            have := of_decide_eq_false hd
            exact decide_eq_false (by omega)
          rw [hp]
          exact ⟨rfl, fun _ => rfl⟩
        · exact agree_syn rfl
      · unfold prSec
        rw [tk_ok ha, tk_no hb]
        simp only [List.all_cons, List.all_nil, ha, hb]
        exact agree_syn rfl
    · unfold prSec
      rw [tk_no ha, tk_nil]
      simp only [List.all_cons, List.all_nil, ha]
      exact agree_syn rfl
  · have e3 : ((a :: b :: c :: r).length + 1 == 3) = false := by simp
    rw [e3]
    simp only [Bool.false_and, Bool.and_false, Bool.not_false, Bool.true_or, if_true]
    refine agree_syn ?_
    unfold prSec
    cases ha : (a.toList == [])
    · cases hb : (b.toList == [])
      · rw [tk_ok ha, tk_ok hb]; simp [synE]
      · rw [tk_ok ha, tk_no hb]; rfl
    · rw [tk_no ha, tk_nil]; rfl
/-- Of a permit. -/
theorem pm_rp (y : Yd) {x : ByteArray} (h0 : (x.toList == []) = false) (k2 : (x.toList == permitL) = true) (r : List ByteArray) : Agree (prPm y (r, false)) (rpR y (x :: r)) := by
  have k1 : (x.toList == sectionL) = false := by rw [eq_of_beq k2]; rfl
  have k3 : (x.toList == earthL) = false := by rw [eq_of_beq k2]; rfl
  have k4 : (x.toList == breakerL) = false := by rw [eq_of_beq k2]; rfl
  have k5 : (x.toList == isolatorL) = false := by rw [eq_of_beq k2]; rfl
  have hw : wAt (x :: r) 0 = x := rfl
  have hf : frm (x :: r) = (r.all (fun x => !(x.toList == [])) && (r.length + 1 == 3)) := by
    rw [frm_cons h0]
    unfold frmK
    rw [k1, k2, k3, k4, k5]
    simp
  unfold rpR
  rw [hf, hw, k1, k2]
  simp only [Bool.false_and, Bool.not_true, Bool.or_false, Bool.false_eq_true, if_false]
  rcases r with _ | ⟨a, _ | ⟨b, _ | ⟨c, r⟩⟩⟩
  · refine agree_syn (p := prPm y ([], false)) ?_
    unfold prPm; rw [tk_nil, tk_nil]; rfl
  · rw [show ([a].length + 1 == 3) = false from rfl]
    simp only [Bool.and_false, Bool.not_false, if_true]
    cases ha : (a.toList == [])
    · refine agree_syn (p := prPm y ([a], false)) ?_
      unfold prPm; rw [tk_ok ha, tk_nil]; rfl
    · refine agree_syn (p := prPm y ([a], false)) ?_
      unfold prPm; rw [tk_no ha, tk_nil]; rfl
  · cases ha : (a.toList == [])
    · cases hb : (b.toList == [])
      · unfold prPm
        rw [tk_ok ha, tk_ok hb]
        have hl : wAt [x, a, b] 2 = b := rfl
        have hl1 : wAt [x, a, b] 1 = a := rfl
        rw [hl, hl1]
        simp only [List.all_cons, List.all_nil, ha, hb]
        cases hq : decide (secAtB y b < 0)
        · exact ⟨rfl, fun _ => rfl⟩
        · exact ⟨rfl, fun h => by cases h⟩
      · unfold prPm
        rw [tk_ok ha, tk_no hb]
        simp only [List.all_cons, List.all_nil, ha, hb]
        exact agree_syn rfl
    · unfold prPm
      rw [tk_no ha, tk_nil]
      simp only [List.all_cons, List.all_nil, ha]
      exact agree_syn rfl
  · have e3 : ((a :: b :: c :: r).length + 1 == 3) = false := by simp
    rw [e3]
    simp only [Bool.and_false, Bool.not_false, if_true]
    refine agree_syn ?_
    unfold prPm
    cases ha : (a.toList == [])
    · cases hb : (b.toList == [])
      · rw [tk_ok ha, tk_ok hb]; simp [synE]
      · rw [tk_ok ha, tk_no hb]; rfl
    · rw [tk_no ha, tk_nil]; rfl
theorem bad_tail (y : Yd) (k n : ByteArray) (a b known : Int) : (prTail y k n a b known (noB, ([], true))).1 = 25 := rfl
theorem left_tail (y : Yd) (k n v d : ByteArray) (a b known : Int) (r : List ByteArray) (q : Bool) : (prTail y k n a b known (v, (d :: r, q))).1 = 25 := by
  unfold prTail synE
  simp
/-- Of an earth. -/
theorem ea_rp (y : Yd) {x : ByteArray} (h0 : (x.toList == []) = false) (k3 : (x.toList == earthL) = true) (r : List ByteArray) : Agree (prSw y x (r, false)) (rpR y (x :: r)) := by
  have k1 : (x.toList == sectionL) = false := by rw [eq_of_beq k3]; rfl
  have k2 : (x.toList == permitL) = false := by rw [eq_of_beq k3]; rfl
  have k4 : (x.toList == breakerL) = false := by rw [eq_of_beq k3]; rfl
  have k5 : (x.toList == isolatorL) = false := by rw [eq_of_beq k3]; rfl
  have hw : wAt (x :: r) 0 = x := rfl
  have hf : frm (x :: r) = (r.all (fun x => !(x.toList == [])) && (r.length + 1 == 4 && ((lastB (x :: r)).toList == openL || (lastB (x :: r)).toList == closedL))) := by
    rw [frm_cons h0]
    unfold frmK
    rw [k1, k2, k3, k4, k5]
    simp
  unfold rpR prSw
  rw [hf, hw, k1, k2, k3, if_pos rfl]
  simp only [Bool.false_and, Bool.not_false, Bool.true_and, Bool.or_false, Bool.false_eq_true, if_false]
  rcases r with _ | ⟨a, _ | ⟨b, _ | ⟨c, _ | ⟨d, r⟩⟩⟩⟩
  · exact agree_syn (p := prTail _ _ _ _ _ _ _) (by rw [tk_nil, tk_nil, tk_nil]; rfl)
  · rw [show ([a].length + 1 == 4) = false from rfl]
    simp only [Bool.false_and, Bool.and_false, Bool.not_false, Bool.true_or, if_true]
    cases ha : (a.toList == [])
    · exact agree_syn (p := prTail _ _ _ _ _ _ _) (by rw [tk_ok ha, tk_nil, tk_nil]; rfl)
    · exact agree_syn (p := prTail _ _ _ _ _ _ _) (by rw [tk_no ha, tk_nil, tk_nil]; rfl)
  · rw [show ([a, b].length + 1 == 4) = false from rfl]
    simp only [Bool.false_and, Bool.and_false, Bool.not_false, Bool.true_or, if_true]
    cases ha : (a.toList == [])
    · cases hb : (b.toList == [])
      · exact agree_syn (p := prTail _ _ _ _ _ _ _) (by rw [tk_ok ha, tk_ok hb, tk_nil]; rfl)
      · exact agree_syn (p := prTail _ _ _ _ _ _ _) (by rw [tk_ok ha, tk_no hb, tk_nil]; rfl)
    · exact agree_syn (p := prTail _ _ _ _ _ _ _) (by rw [tk_no ha, tk_nil, tk_nil]; rfl)
  · cases ha : (a.toList == [])
    · cases hb : (b.toList == [])
      · cases hc : (c.toList == [])
        · rw [tk_ok ha, tk_ok hb, tk_ok hc]
          have hl : lastB [x, a, b, c] = c := rfl
          have hl2 : wAt [x, a, b, c] 2 = b := rfl
          have hl1 : wAt [x, a, b, c] 1 = a := rfl
          rw [hl, hl1, hl2]
          unfold prTail
          simp only [List.all_cons, List.all_nil, ha, hb, hc]
          cases hq : (c.toList == openL) <;> cases hq2 : (c.toList == closedL) <;> cases hd : decide (0 < y.p.length) <;> cases hs : decide (secAtB y b < 0)
          all_goals first | exact agree_syn rfl | exact ⟨rfl, fun _ => rfl⟩ | exact ⟨rfl, fun h => by cases h⟩
        · rw [tk_ok ha, tk_ok hb, tk_no hc]
          simp only [List.all_cons, List.all_nil, ha, hb, hc]
          exact agree_syn rfl
      · rw [tk_ok ha, tk_no hb, tk_nil]
        simp only [List.all_cons, List.all_nil, ha, hb]
        exact agree_syn rfl
    · rw [tk_no ha, tk_nil, tk_nil]
      simp only [List.all_cons, List.all_nil, ha]
      exact agree_syn rfl
  · have e3 : ((a :: b :: c :: d :: r).length + 1 == 4) = false := by simp
    rw [e3]
    simp only [Bool.false_and, Bool.and_false, Bool.not_false, Bool.true_or, if_true]
    refine agree_syn ?_
    cases ha : (a.toList == [])
    · cases hb : (b.toList == [])
      · cases hc : (c.toList == [])
        · rw [tk_ok ha, tk_ok hb, tk_ok hc]; exact left_tail ..
        · rw [tk_ok ha, tk_ok hb, tk_no hc]; rfl
      · rw [tk_ok ha, tk_no hb, tk_nil]; rfl
    · rw [tk_no ha, tk_nil, tk_nil]; rfl
/-- Of a breaker or an isolator. -/
theorem sw_rp (y : Yd) {x : ByteArray} (h0 : (x.toList == []) = false) (k1 : (x.toList == sectionL) = false) (k2 : (x.toList == permitL) = false) (k3 : (x.toList == earthL) = false) (k4 : (x.toList == breakerL || x.toList == isolatorL) = true) (r : List ByteArray) : Agree (prSw y x (r, false)) (rpR y (x :: r)) := by
  have hw : wAt (x :: r) 0 = x := rfl
  have hf : frm (x :: r) = (r.all (fun x => !(x.toList == [])) && (r.length + 1 == 5 && ((lastB (x :: r)).toList == openL || (lastB (x :: r)).toList == closedL))) := by
    rw [frm_cons h0]
    unfold frmK
    rw [k1, k2, k3, k4]
    simp
  unfold rpR prSw
  rw [hf, hw, k1, k2, k3, if_neg (by decide)]
  simp only [Bool.false_and, Bool.not_false, Bool.true_and, Bool.or_false, Bool.false_eq_true, if_false]
  rcases r with _ | ⟨a, _ | ⟨b, _ | ⟨c, _ | ⟨d, _ | ⟨e, r⟩⟩⟩⟩⟩
  · exact agree_syn (p := prTail _ _ _ _ _ _ _) (by rw [tk_nil, tk_nil, tk_nil, tk_nil]; rfl)
  · rw [show ([a].length + 1 == 5) = false from rfl]
    simp only [Bool.false_and, Bool.and_false, Bool.not_false, Bool.true_or, if_true]
    cases ha : (a.toList == [])
    · exact agree_syn (p := prTail _ _ _ _ _ _ _) (by rw [tk_ok ha, tk_nil, tk_nil, tk_nil]; rfl)
    · exact agree_syn (p := prTail _ _ _ _ _ _ _) (by rw [tk_no ha, tk_nil, tk_nil, tk_nil]; rfl)
  · rw [show ([a, b].length + 1 == 5) = false from rfl]
    simp only [Bool.false_and, Bool.and_false, Bool.not_false, Bool.true_or, if_true]
    cases ha : (a.toList == [])
    · cases hb : (b.toList == [])
      · exact agree_syn (p := prTail _ _ _ _ _ _ _) (by rw [tk_ok ha, tk_ok hb, tk_nil, tk_nil]; rfl)
      · exact agree_syn (p := prTail _ _ _ _ _ _ _) (by rw [tk_ok ha, tk_no hb, tk_nil, tk_nil]; rfl)
    · exact agree_syn (p := prTail _ _ _ _ _ _ _) (by rw [tk_no ha, tk_nil, tk_nil, tk_nil]; rfl)
  · rw [show ([a, b, c].length + 1 == 5) = false from rfl]
    simp only [Bool.false_and, Bool.and_false, Bool.not_false, Bool.true_or, if_true]
    cases ha : (a.toList == [])
    · cases hb : (b.toList == [])
      · cases hc : (c.toList == [])
        · exact agree_syn (p := prTail _ _ _ _ _ _ _) (by rw [tk_ok ha, tk_ok hb, tk_ok hc, tk_nil]; rfl)
        · exact agree_syn (p := prTail _ _ _ _ _ _ _) (by rw [tk_ok ha, tk_ok hb, tk_no hc, tk_nil]; rfl)
      · exact agree_syn (p := prTail _ _ _ _ _ _ _) (by rw [tk_ok ha, tk_no hb, tk_nil, tk_nil]; rfl)
    · exact agree_syn (p := prTail _ _ _ _ _ _ _) (by rw [tk_no ha, tk_nil, tk_nil, tk_nil]; rfl)
  · cases ha : (a.toList == [])
    · cases hb : (b.toList == [])
      · cases hc : (c.toList == [])
        · cases hd' : (d.toList == [])
          · rw [tk_ok ha, tk_ok hb, tk_ok hc, tk_ok hd']
            have hl : lastB [x, a, b, c, d] = d := rfl
            have hl3 : wAt [x, a, b, c, d] 3 = c := rfl
            have hl2 : wAt [x, a, b, c, d] 2 = b := rfl
            have hl1 : wAt [x, a, b, c, d] 1 = a := rfl
            rw [hl, hl1, hl2, hl3, show [x, a, b, c, d].length = 5 from rfl, if_pos rfl]
            unfold prTail
            simp only [List.all_cons, List.all_nil, ha, hb, hc, hd']
            cases hq : (d.toList == openL) <;> cases hq2 : (d.toList == closedL) <;> cases hd : decide (0 < y.p.length) <;> cases hs : decide (secAtB y b < 0) <;> cases hs2 : decide (secAtB y c < 0)
            all_goals first | exact agree_syn rfl | exact ⟨rfl, fun _ => rfl⟩ | exact ⟨rfl, fun h => by cases h⟩
          · rw [tk_ok ha, tk_ok hb, tk_ok hc, tk_no hd']
            simp only [List.all_cons, List.all_nil, ha, hb, hc, hd']
            exact agree_syn rfl
        · rw [tk_ok ha, tk_ok hb, tk_no hc, tk_nil]
          simp only [List.all_cons, List.all_nil, ha, hb, hc]
          exact agree_syn rfl
      · rw [tk_ok ha, tk_no hb, tk_nil, tk_nil]
        simp only [List.all_cons, List.all_nil, ha, hb]
        exact agree_syn rfl
    · rw [tk_no ha, tk_nil, tk_nil, tk_nil]
      simp only [List.all_cons, List.all_nil, ha]
      exact agree_syn rfl
  · have e3 : ((a :: b :: c :: d :: e :: r).length + 1 == 5) = false := by simp
    rw [e3]
    simp only [Bool.false_and, Bool.and_false, Bool.not_false, Bool.true_or, if_true]
    refine agree_syn ?_
    cases ha : (a.toList == [])
    · cases hb : (b.toList == [])
      · cases hc : (c.toList == [])
        · cases hd : (d.toList == [])
          · rw [tk_ok ha, tk_ok hb, tk_ok hc, tk_ok hd]; exact left_tail ..
          · rw [tk_ok ha, tk_ok hb, tk_ok hc, tk_no hd]; rfl
        · rw [tk_ok ha, tk_ok hb, tk_no hc, tk_nil]; rfl
      · rw [tk_ok ha, tk_no hb, tk_nil, tk_nil]; rfl
    · rw [tk_no ha, tk_nil, tk_nil, tk_nil]; rfl
/-- The program and the reference make the same of a line's words. -/
theorem pr_rp (y : Yd) (x : ByteArray) (r : List ByteArray) : Agree (prR y (x :: r)) (rpR y (x :: r)) := by
  unfold prR
  cases h0 : (x.toList == []) with
  | true =>
    rw [tk_no h0]
    have e2 : rpR y (x :: r) = (25, y) := by
      unfold rpR
      rw [frm_nil h0]
      rfl
    rw [e2]
    refine agree_syn ?_
    unfold prK
    have e : noB.toList = [] := by decide +kernel
    rw [e]
    unfold kindB
    rw [e]
    rfl
  | false =>
    rw [tk_ok h0]
    unfold prK
    cases k1 : (x.toList == sectionL) with
    | true => exact sec_rp y h0 k1 r
    | false =>
      rw [if_neg (by decide)]
      cases k2 : (x.toList == permitL) with
      | true => exact pm_rp y h0 k2 r
      | false =>
        rw [if_neg (by decide)]
        cases k3 : (x.toList == earthL) with
        | true =>
          rw [if_pos (by unfold kindB; rw [k3, Bool.or_true])]
          exact ea_rp y h0 k3 r
        | false =>
          cases k4 : (x.toList == breakerL || x.toList == isolatorL) with
          | true =>
            rw [if_pos (by unfold kindB; rw [k4]; rfl)]
            exact sw_rp y h0 k1 k2 k3 k4 r
          | false =>
            rw [if_neg (by unfold kindB; rw [k4, k3]; decide)]
            have hf : frm (x :: r) = false := by
              rw [frm_cons h0]
              unfold frmK
              rw [k1, k2, k3, k4]
              simp
            unfold rpR
            rw [hf]
            exact agree_syn rfl
end Go.Proofs.YtphlojgmfkgeiaaGreatDoor
