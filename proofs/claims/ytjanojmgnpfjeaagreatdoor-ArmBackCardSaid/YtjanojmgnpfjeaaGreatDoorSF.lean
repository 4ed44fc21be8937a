/- A line of an arm's text, read in two ways; in plain words. -/
import Derived.Test.YtjanojmgnpfjeaaGreatDoorSB
import Derived.Test.YtjanojmgnpfjeaaGreatDoorQc
set_option linter.all false
set_option linter.unusedVariables false
set_option linter.unusedSimpArgs false
namespace Go.Proofs.YtjanojmgnpfjeaaGreatDoor
open Go.RowKit Go.Sort Go.Shelf
def noB : ByteArray := ⟨#[]⟩
def tk : List ByteArray × Bool → ByteArray × (List ByteArray × Bool)
  | ([], _) => (noB, ([], true))
  | (x :: r, q) => if x.toList == [] then (noB, ([], true)) else (x, (r, q))
theorem tk_nil (q : Bool) : tk ([], q) = (noB, ([], true)) := rfl
theorem tk_no {x : ByteArray} (h : (x.toList == []) = true) (r : List ByteArray) (q : Bool) : tk (x :: r, q) = (noB, ([], true)) := if_pos h
theorem tk_ok {x : ByteArray} (h : (x.toList == []) = false) (r : List ByteArray) (q : Bool) : tk (x :: r, q) = (x, (r, q)) := if_neg (by rw [h]; decide)
theorem tk_len (st : List ByteArray × Bool) : (tk st).2.1.length ≤ st.1.length := by
  obtain ⟨l, q⟩ := st
  cases l with
  | nil => exact Nat.le_refl _
  | cons x r =>
    cases hx : (x.toList == []) with
    | true => rw [tk_no hx]; exact Nat.zero_le _
    | false => rw [tk_ok hx]; exact Nat.le_succ _
/-- Integers of digits alone, at most nine of them, without leading zeros. -/
def digB (c : UInt8) : Bool := 48 ≤ c && c ≤ 57
def digV : Int → List UInt8 → Int
  | n, [] => n
  | n, c :: r => digV (10 * n + ((c.toNat : Int) - 48)) r
def zeroB (l : List UInt8) : Bool := match l with
  | c :: _ :: _ => c == 48
  | _ => false
def intOk (l : List UInt8) : Bool := !l.isEmpty && decide (l.length ≤ 9) && l.all digB && !zeroB l
def decV (l : List UInt8) : Int := digV 0 l
theorem digV_snoc (c : UInt8) : ∀ (l : List UInt8) (n : Int), digV n (l ++ [c]) = 10 * digV n l + ((c.toNat : Int) - 48)
  | [], _ => rfl
  | x :: r, n => digV_snoc c r _
def pow10 : Nat → Int
  | 0 => 1
  | k + 1 => 10 * pow10 k
theorem digV_bd : ∀ (l : List UInt8) (n : Int), 0 ≤ n → l.all digB = true → 0 ≤ digV n l ∧ digV n l < (n + 1) * pow10 l.length
  | [], n, h, _ => by show 0 ≤ n ∧ n < (n + 1) * 1; omega
  | c :: r, n, h, ha => by
    rw [List.all_cons, Bool.and_eq_true] at ha
    have hc : 48 ≤ c.toNat ∧ c.toNat ≤ 57 := by
      have h1 := ha.1
      unfold digB at h1
      rw [Bool.and_eq_true, decide_eq_true_eq, decide_eq_true_eq] at h1
      exact ⟨UInt8.le_iff_toNat_le.1 h1.1, UInt8.le_iff_toNat_le.1 h1.2⟩
    obtain ⟨h1, h2⟩ := digV_bd r (10 * n + ((c.toNat : Int) - 48)) (by omega) ha.2
    refine ⟨h1, Int.lt_of_lt_of_le h2 ?_⟩
    have hp : ∀ k, 0 < pow10 k := fun k => by
      induction k with
      | zero => decide
      | succ k ih => show 0 < 10 * pow10 k; omega
    have h3 := hp r.length
    show _ ≤ (n + 1) * (10 * pow10 r.length)
    have e : (n + 1) * (10 * pow10 r.length) = (10 * n + 10) * pow10 r.length := by
      rw [← Int.mul_assoc, Int.mul_comm (n + 1) 10, Int.mul_add]
      rfl
    rw [e]
    exact Int.mul_le_mul_of_nonneg_right (by omega) (Int.le_of_lt h3)
theorem decV_bd {l : List UInt8} (h : intOk l = true) : 0 ≤ decV l ∧ decV l ≤ 999999999 := by
  unfold intOk at h
  simp only [Bool.and_eq_true, decide_eq_true_eq] at h
  obtain ⟨⟨⟨_, h1⟩, h2⟩, _⟩ := h
  obtain ⟨h3, h4⟩ := digV_bd l 0 (Int.le_refl _) h2
  refine ⟨h3, ?_⟩
  have hp : ∀ k, k ≤ 9 → pow10 k ≤ 1000000000 := by
    intro k hk
    match k, hk with
    | 0, _ => decide
    | 1, _ => decide
    | 2, _ => decide
    | 3, _ => decide
    | 4, _ => decide
    | 5, _ => decide
    | 6, _ => decide
    | 7, _ => decide
    | 8, _ => decide
    | 9, _ => decide
    | k + 10, h => omega
  have := hp l.length h1
  show digV 0 l ≤ _
  omega
/-- The next word as an integer: what is left, and whether something was wrong. -/
def tkN (st : List ByteArray × Bool) : List ByteArray × Bool := ((tk st).2.1, (tk st).2.2 || !intOk (tk st).1.data.toList)
def armW : List UInt8 := [97, 114, 109]
def modW : List UInt8 := [109, 111, 100, 117, 108, 101]
def onW : List UInt8 := [111, 110]
def offW : List UInt8 := [111, 102, 102]
def bypW : List UInt8 := [98, 121, 112, 97, 115, 115, 101, 100]
def stW (l : List UInt8) : Bool := l == onW || l == offW || l == bypW
def wAt (ws : List ByteArray) (i : Nat) : ByteArray := (ws[i]?).getD noB
def nAt (ws : List ByteArray) (i : Nat) : List UInt8 := (wAt ws i).data.toList
/-- What the program asks of the first line. -/
def headP (ws : List ByteArray) : Bool :=
  ((tk (ws, false)).1.toList == armW) && !(tkN (tkN (tkN (tkN (tk (ws, false)).2)))).2 && (tkN (tkN (tkN (tkN (tk (ws, false)).2)))).1.isEmpty
/-- What the reference asks of it. -/
def headR (ws : List ByteArray) : Bool := ws.length == 5 && (wAt ws 0).toList == armW && (ws.drop 1).all fun x => intOk x.data.toList
theorem tkN_wrong (l : List ByteArray) : (tkN (l, true)).2 = true := by
  unfold tkN
  cases l with
  | nil => rfl
  | cons x r =>
    cases hx : (x.toList == []) with
    | true => rw [tk_no hx]; rfl
    | false => rw [tk_ok hx]; rfl
theorem intOk_no {x : ByteArray} (h : (x.toList == []) = true) : intOk x.data.toList = false := by
  rw [toList_data] at h
  rw [eq_of_beq h]
  rfl
theorem tkN_cons (x : ByteArray) (r : List ByteArray) (q : Bool) : (intOk x.data.toList = true → tkN (x :: r, q) = (r, q)) ∧ (intOk x.data.toList = false → (tkN (x :: r, q)).2 = true) := by
  unfold tkN
  cases hx : (x.toList == []) with
  | true =>
    rw [tk_no hx, intOk_no hx]
    exact ⟨fun h => (by cases h), fun _ => rfl⟩
  | false =>
    rw [tk_ok hx]
    refine ⟨fun h => ?_, fun h => ?_⟩
    · show (r, q || !intOk x.data.toList) = (r, q)
      rw [h]; simp
    · show (q || !intOk x.data.toList) = true
      rw [h]; simp
theorem tkN_nil (q : Bool) : (tkN ([], q)).2 = true := by unfold tkN; rw [tk_nil]; rfl
theorem tkN_true {st : List ByteArray × Bool} (h : st.2 = true) : (tkN st).2 = true := by
  obtain ⟨l, q⟩ := st
  have h : q = true := h
  subst h
  exact tkN_wrong l
theorem head_eq (ws : List ByteArray) : headP ws = headR ws := by
  have hw : ∀ s : List ByteArray × Bool, s.2 = true → (!s.2 && s.1.isEmpty) = false := fun s h => by rw [h]; rfl
  have step : ∀ (r : List ByteArray) (k : Nat) (g : List ByteArray × Bool → List ByteArray × Bool), (∀ s, s.2 = true → (g s).2 = true) → True := fun _ _ _ _ => trivial
  unfold headP headR
  cases ws with
  | nil =>
    show (noB.toList == armW && _ && _) = (false && _ && _)
    rw [show (noB.toList == armW) = false from by rw [toList_data]; rfl]
    simp
  | cons x0 r0 =>
    cases hx : (x0.toList == []) with
    | true =>
      rw [tk_no hx]
      have e : (wAt (x0 :: r0) 0).toList = [] := eq_of_beq hx
      rw [e]
      show (noB.toList == armW && _ && _) = (_ && ([] : List UInt8) == armW && _)
      have e1 : (noB.toList == armW) = false := by rw [toList_data]; rfl
      have e2 : (([] : List UInt8) == armW) = false := by decide
      rw [e1, e2]
      simp
    | false =>
      rw [tk_ok hx]
      have e : wAt (x0 :: r0) 0 = x0 := rfl
      rw [e]
      show (x0.toList == armW && _ && _) = _
      cases h0 : (x0.toList == armW) with
      | false => simp
      | true =>
        show (true && !(tkN (tkN (tkN (tkN (r0, false))))).2 && (tkN (tkN (tkN (tkN (r0, false))))).1.isEmpty) = ((r0.length + 1 == 5) && true && r0.all fun x => intOk x.data.toList)
        rw [Bool.true_and, Bool.and_true]
        rcases r0 with _ | ⟨x1, r1⟩
        · rw [hw _ (tkN_true (tkN_true (tkN_true (tkN_nil _))))]; rfl
        cases h1 : intOk x1.data.toList with
        | false => rw [hw _ (tkN_true (tkN_true (tkN_true ((tkN_cons x1 r1 false).2 h1))))]; simp [h1]
        | true =>
          rw [(tkN_cons x1 r1 false).1 h1]
          rcases r1 with _ | ⟨x2, r2⟩
          · rw [hw _ (tkN_true (tkN_true (tkN_nil _)))]; rfl
          cases h2 : intOk x2.data.toList with
          | false => rw [hw _ (tkN_true (tkN_true ((tkN_cons x2 r2 false).2 h2)))]; simp [h2]
          | true =>
            rw [(tkN_cons x2 r2 false).1 h2]
            rcases r2 with _ | ⟨x3, r3⟩
            · rw [hw _ (tkN_true (tkN_nil _))]; rfl
            cases h3 : intOk x3.data.toList with
            | false => rw [hw _ (tkN_true ((tkN_cons x3 r3 false).2 h3))]; simp [h3]
            | true =>
              rw [(tkN_cons x3 r3 false).1 h3]
              rcases r3 with _ | ⟨x4, r4⟩
              · rw [hw _ (tkN_nil _)]; rfl
              cases h4 : intOk x4.data.toList with
              | false => rw [hw _ ((tkN_cons x4 r4 false).2 h4)]; simp [h4]
              | true =>
                rw [(tkN_cons x4 r4 false).1 h4]
                cases r4 with
                | nil => simp [h1, h2, h3, h4]
                | cons x5 r5 => simp
/-- What the program asks of another line. -/
def modP (ws : List ByteArray) : Bool :=
  ((tk (ws, false)).1.toList == modW) && stW (tk (tkN (tk (tk (ws, false)).2).2)).1.toList && !(tk (tkN (tk (tk (ws, false)).2).2)).2.2 && (tk (tkN (tk (tk (ws, false)).2).2)).2.1.isEmpty
def modR (ws : List ByteArray) : Bool := ws.length == 4 && (wAt ws 0).toList == modW && !((wAt ws 1).toList == []) && intOk (nAt ws 2) && stW (wAt ws 3).toList
def modV (ws : List ByteArray) : Md := ⟨wAt ws 1, decV (nAt ws 2), (wAt ws 3).toList == onW, (wAt ws 3).toList == bypW⟩
theorem tk_true {st : List ByteArray × Bool} (h : st.2 = true) : (tk st).2.2 = true := by
  obtain ⟨l, q⟩ := st
  have h : q = true := h
  subst h
  cases l with
  | nil => rfl
  | cons x r =>
    cases hx : (x.toList == []) with
    | true => rw [tk_no hx]
    | false => rw [tk_ok hx]
theorem mod_eq (ws : List ByteArray) : modP ws = modR ws := by
  have hw : ∀ (a : Bool) (s : List ByteArray × Bool), s.2 = true → (a && !s.2 && s.1.isEmpty) = false := fun a s h => by rw [h]; simp
  unfold modP modR
  cases ws with
  | nil => rw [hw _ _ (tk_true (tkN_true (tk_true (show (tk ([], false)).2.2 = true from rfl))))]; rfl
  | cons x0 r0 =>
    cases hx : (x0.toList == []) with
    | true =>
      rw [tk_no hx]
      have e : (wAt (x0 :: r0) 0).toList = [] := eq_of_beq hx
      rw [e]
      have e1 : (noB.toList == modW) = false := by rw [toList_data]; rfl
      have e2 : (([] : List UInt8) == modW) = false := by decide
      show (noB.toList == modW && _ && _ && _) = _
      rw [e1, e2]
      simp
    | false =>
      rw [tk_ok hx]
      have e : wAt (x0 :: r0) 0 = x0 := rfl
      rw [e]
      show (x0.toList == modW && stW (tk (tkN (tk (r0, false)).2)).1.toList && !(tk (tkN (tk (r0, false)).2)).2.2 && (tk (tkN (tk (r0, false)).2)).2.1.isEmpty) = _
      rcases r0 with _ | ⟨x1, r1⟩
      · rw [hw _ _ (tk_true (tkN_true (show (tk ([], false)).2.2 = true from rfl)))]; rfl
      cases h1 : (x1.toList == []) with
      | true =>
        rw [tk_no h1, hw _ _ (tk_true (tkN_true (show ([], true).2 = true from rfl)))]
        show _ = (_ && _ && !(x1.toList == []) && _ && _)
        rw [h1]; simp
      | false =>
        rw [tk_ok h1]
        show (x0.toList == modW && stW (tk (tkN (r1, false))).1.toList && !(tk (tkN (r1, false))).2.2 && (tk (tkN (r1, false))).2.1.isEmpty) = _
        rcases r1 with _ | ⟨x2, r2⟩
        · rw [hw _ _ (tk_true (tkN_nil _))]; simp
        cases h2 : intOk x2.data.toList with
        | false =>
          rw [hw _ _ (tk_true ((tkN_cons x2 r2 false).2 h2))]
          have e2 : intOk (nAt (x0 :: x1 :: x2 :: r2) 2) = false := h2
          rw [e2]; simp
        | true =>
          rw [(tkN_cons x2 r2 false).1 h2]
          have e2 : intOk (nAt (x0 :: x1 :: x2 :: r2) 2) = true := h2
          have e1 : ((wAt (x0 :: x1 :: x2 :: r2) 1).toList == []) = false := h1
          rw [e2, e1]
          rcases r2 with _ | ⟨x3, r3⟩
          · rw [hw _ _ (show (tk ([], false)).2.2 = true from rfl)]; rfl
          cases h3 : (x3.toList == []) with
          | true =>
            rw [tk_no h3, hw _ _ (show (([] : List ByteArray), true).2 = true from rfl)]
            have e3 : stW (wAt (x0 :: x1 :: x2 :: x3 :: r3) 3).toList = false := by
              show stW x3.toList = false
              rw [eq_of_beq h3]; rfl
            rw [e3]; simp
          | false =>
            rw [tk_ok h3]
            have e3 : wAt (x0 :: x1 :: x2 :: x3 :: r3) 3 = x3 := rfl
            rw [e3]
            cases r3 with
            | nil => simp
            | cons x4 r4 => simp
end Go.Proofs.YtjanojmgnpfjeaaGreatDoor
