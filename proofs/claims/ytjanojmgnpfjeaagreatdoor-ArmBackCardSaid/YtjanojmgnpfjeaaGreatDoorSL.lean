/- The parse of an arm's text in plain words: the pieces of a text, one after the other; the reference's parts. -/
import Derived.Test.YtjanojmgnpfjeaaGreatDoorSE
import Derived.Test.YtjanojmgnpfjeaaGreatDoorSJ
import Derived.Test.YtjanojmgnpfjeaaGreatDoorSK
import Derived.Test.YtjanojmgnpfjeaaGreatDoorSM
import Derived.Test.YtjanojmgnpfjeaaGreatDoorUA2
namespace Go.Proofs.YtjanojmgnpfjeaaGreatDoor
open Go.RowKit Go.Sort Go.Shelf
/-- What a line's words make of an arm. -/
def rowA (y : Ar) (i : Nat) (ws : List ByteArray) : Bool × Ar := if i = 0 then (headR ws, headV y ws) else (modR ws, { y with m := y.m ++ [modV ws] })
/-- What a piece makes of an arm. -/
def pcA (y : Ar) (i : Nat) (l : ByteArray) : Bool × Ar := if endB l then rowA y i (spL (cutB l) 32) else (false, y)
def goN : Ar → Nat → List ByteArray → Ar × Nat × Int
  | y, i, [] => if armE y = 0 then (y, 0, 0) else (nilA, i, armE y)
  | y, i, l :: r => if (pcA y i l).1 = true then goN (pcA y i l).2 (i + 1) r else (nilA, i, 25)
def runN : Ar → Nat → List ByteArray → Option Ar
  | y, _, [] => some y
  | y, i, l :: r => if (pcA y i l).1 = true then runN (pcA y i l).2 (i + 1) r else none
theorem runN_snoc (x : ByteArray) : ∀ (pre : List ByteArray) (y z : Ar) (i : Nat), runN y i pre = some z → runN y i (pre ++ [x]) = if (pcA z (i + pre.length) x).1 = true then some (pcA z (i + pre.length) x).2 else none
  | [], y, z, i, h => by
    cases h
    rfl
  | l :: r, y, z, i, h => by
    have h' : (if (pcA y i l).1 = true then runN (pcA y i l).2 (i + 1) r else none) = some z := h
    split at h'
    · rename_i h0
      show (if (pcA y i l).1 = true then runN (pcA y i l).2 (i + 1) (r ++ [x]) else none) = _
      rw [if_pos h0, runN_snoc x r _ z (i + 1) h', List.length_cons, show i + 1 + r.length = i + (r.length + 1) by omega]
    · cases h'
theorem goN_run : ∀ (pre r : List ByteArray) (y z : Ar) (i : Nat), runN y i pre = some z → goN y i (pre ++ r) = goN z (i + pre.length) r
  | [], r, y, z, i, h => by
    cases h
    rfl
  | l :: q, r, y, z, i, h => by
    have h' : (if (pcA y i l).1 = true then runN (pcA y i l).2 (i + 1) q else none) = some z := h
    split at h'
    · rename_i h0
      show (if (pcA y i l).1 = true then goN (pcA y i l).2 (i + 1) (q ++ r) else _) = _
      rw [if_pos h0, goN_run q r _ z (i + 1) h', List.length_cons, show i + 1 + q.length = i + (q.length + 1) by omega]
    · cases h'
theorem goN_no {z : Ar} {x : ByteArray} {i : Nat} (h : (pcA z i x).1 = false) (r : List ByteArray) : goN z i (x :: r) = (nilA, i, 25) := if_neg (by rw [h]; decide)
/-- The reference's way: the parts of a text. -/
def goA : Ar → Nat → List ByteArray → Ar × Nat × Int
  | _, i, [] => (nilA, i, 25)
  | y, i, [l] => if l.toList == [] then (if armE y = 0 then (y, 0, 0) else (nilA, i, armE y)) else (nilA, i, 25)
  | y, i, l :: m :: r => if (rowA y i (spL l 32)).1 = true then goA (rowA y i (spL l 32)).2 (i + 1) (m :: r) else (nilA, i, 25)
def parseA (s : ByteArray) : Ar × Nat × Int := if 4096 < s.size then (nilA, 0, 26) else if (spL s 10).length = 1 then (nilA, 0, 25) else goA nilA 0 (spL s 10)
theorem free_end {l : List UInt8} (h : (10 : UInt8) ∉ l) : endB (toB l) = false := by
  unfold endB
  cases hq : ((toB l).extract ((toB l).size - 1) (toB l).size).toList == [10] with
  | false => rfl
  | true =>
    have e := eq_of_beq hq
    rw [toList_data, ext_drop, toB_list, toB_list] at e
    exact absurd (List.mem_of_mem_drop (by rw [e]; exact List.mem_singleton.2 rfl)) h
theorem nl_end (l : List UInt8) : endB (toB (l ++ [10])) = true ∧ cutB (toB (l ++ [10])) = toB l := by
  have hs : (toB (l ++ [10])).size = l.length + 1 := by show (l ++ [10]).toArray.size = _; simp
  refine ⟨?_, ?_⟩
  · unfold endB
    rw [toList_data, ext_drop, toB_list, toB_list, hs, Nat.add_sub_cancel, List.drop_left]
    rfl
  · unfold cutB
    rw [ext_take, toB_list, hs, Nat.add_sub_cancel, List.take_left]
theorem toB_empty {l : List UInt8} : ((toB l).toList == []) = l.isEmpty := by
  rw [toList_data, toB_list]
  cases l <;> rfl
/-- The pieces of a text are parsed as its parts are. -/
theorem goN_goA : ∀ (ls : List (List UInt8)) (y : Ar) (i : Nat), ls ≠ [] → (∀ l ∈ ls, (10 : UInt8) ∉ l) → goN y i ((pcOf ls).map toB) = goA y i (ls.map toB)
  | [], _, _, h, _ => absurd rfl h
  | [l], y, i, _, hf => by
    show goN y i ((if l.isEmpty then [] else [l]).map toB) = (if (toB l).toList == [] then (if armE y = 0 then (y, 0, 0) else (nilA, i, armE y)) else (nilA, i, 25))
    rw [toB_empty]
    cases hl : l.isEmpty with
    | true => rfl
    | false =>
      have h25 : pcA y i (toB l) = (false, y) := by
        unfold pcA
        rw [free_end (hf l (List.mem_singleton.2 rfl))]
        rfl
      show goN y i [toB l] = _
      rw [goN_no (by rw [h25])]
      rfl
  | l :: m :: r, y, i, _, hf => by
    have ih := fun z => goN_goA (m :: r) z (i + 1) (by simp) (fun u hu => hf u (List.mem_cons_of_mem _ hu))
    obtain ⟨h1, h2⟩ := nl_end l
    have hst : pcA y i (toB (l ++ [10])) = rowA y i (spL (toB l) 32) := by
      unfold pcA
      rw [h1, if_pos rfl, h2]
    show goN y i (toB (l ++ [10]) :: (pcOf (m :: r)).map toB) = goA y i (toB l :: toB m :: r.map toB)
    by_cases hz : (rowA y i (spL (toB l) 32)).1 = true
    · show (if (pcA y i (toB (l ++ [10]))).1 = true then _ else _) = (if (rowA y i (spL (toB l) 32)).1 = true then _ else _)
      rw [hst, if_pos hz, if_pos hz]
      exact ih _
    · rw [goN_no (by rw [hst]; simpa using hz)]
      exact (if_neg hz).symm
theorem spl_no : ∀ {c : UInt8} (l : List UInt8), ∀ p ∈ spl c l, c ∉ p
  | c, [], p, hp => by
    rw [List.mem_singleton.1 hp]
    simp
  | c, b :: r, p, hp => by
    have ih := spl_no (c := c) r
    cases hb : (b == c) with
    | true =>
      rw [spl_eq hb] at hp
      rcases List.mem_cons.1 hp with rfl | h
      · simp
      · exact ih p h
    | false =>
      cases hr : spl c r with
      | nil => exact absurd hr (spl_ne c r)
      | cons q qs =>
        rw [spl_cons hb hr] at hp
        rcases List.mem_cons.1 hp with rfl | h
        · rw [List.mem_cons]
          rintro (e | e)
          · rw [e, beq_self_eq_true] at hb; cases hb
          · exact ih q (by rw [hr]; exact List.mem_cons_self ..) e
        · exact ih p (by rw [hr]; exact List.mem_cons_of_mem _ h)
theorem parse_nil {s : ByteArray} (h0 : s.size = 0) : parseA s = (nilA, 0, 25) := by
  have e : spL s 10 = (spl 10 s.data.toList).map toB := spL_spl s 10
  have el : s.data.toList = [] := List.length_eq_zero_iff.1 (by simpa using h0)
  unfold parseA
  rw [if_neg (by omega), e, el]
  rfl
/-- So the program's parse is the reference's. -/
theorem parse_pieces {s : ByteArray} (h : ¬ 4096 < s.size) (h0 : s.size ≠ 0) : goN nilA 0 (pieces s) = parseA s := by
  have e : spL s 10 = (spl 10 s.data.toList).map toB := spL_spl s 10
  unfold parseA pieces
  rw [if_neg h, e, pcs_spl]
  by_cases h1 : ((spl 10 s.data.toList).map toB).length = 1
  · rw [if_pos h1]
    have h2 := spl_single (by simpa using h1)
    have hn := spl_no (c := 10) s.data.toList s.data.toList (by rw [h2]; exact List.mem_singleton.2 rfl)
    rw [h2, goN_goA _ _ _ (by simp) (fun l hl => by rw [List.mem_singleton.1 hl]; exact hn)]
    have hne : s.data.toList.isEmpty = false := by
      cases hl : s.data.toList with
      | nil => exact absurd (by simpa using congrArg List.length hl) h0
      | cons a b => rfl
    show (if (toB s.data.toList).toList == [] then _ else _) = _
    rw [toB_empty, hne]
    rfl
  · rw [if_neg h1, goN_goA _ _ _ (spl_ne 10 _) (spl_no _)]
/-- Sizes on the way. -/
structure LenA (k M : Nat) (z : Ar) : Prop where
  m : z.m.length ≤ k
  nm : ∀ x ∈ z.m, x.n.size ≤ M
theorem LenA.up {k M : Nat} {z : Ar} (h : LenA k M z) : LenA (k + 1) M z := ⟨Nat.le_succ_of_le h.m, h.nm⟩
theorem wAt_b {M : Nat} {ws : List ByteArray} (h : ∀ x ∈ ws, x.size ≤ M) (i : Nat) : (wAt ws i).size ≤ M := by
  unfold wAt
  cases hi : ws[i]? with
  | none => exact Nat.zero_le _
  | some x => exact h x (List.mem_of_getElem? hi)
theorem rowA_len {k M : Nat} {z : Ar} (h : LenA k M z) (i : Nat) {ws : List ByteArray} (hx : ∀ x ∈ ws, x.size ≤ M) : LenA (k + 1) M (rowA z i ws).2 := by
  by_cases h0 : i = 0
  · have e : rowA z i ws = (headR ws, headV z ws) := if_pos h0
    rw [e]
    exact ⟨Nat.le_succ_of_le h.m, h.nm⟩
  · have e : rowA z i ws = (modR ws, { z with m := z.m ++ [modV ws] }) := if_neg h0
    rw [e]
    refine ⟨by show (z.m ++ [_]).length ≤ _; rw [List.length_append]; exact Nat.succ_le_succ h.m, fun u hu => ?_⟩
    have hu : u ∈ z.m ++ [modV ws] := hu
    rcases List.mem_append.1 hu with h1 | h1
    · exact h.nm u h1
    · rw [List.mem_singleton.1 h1]
      exact wAt_b hx 1
theorem cut_words {M : Nat} {x : ByteArray} (hx : x.size ≤ M) : ∀ v ∈ spL (cutB x) 32, v.size ≤ M := fun v hv => by
  refine Nat.le_trans (spTo_b _ 32 _ (Nat.le_refl _) v hv) (Nat.le_trans ?_ hx)
  unfold cutB
  rw [ByteArray.size_extract]
  omega
theorem pcA_len {k M : Nat} {z : Ar} (h : LenA k M z) (i : Nat) {x : ByteArray} (hx : x.size ≤ M) : LenA (k + 1) M (pcA z i x).2 := by
  have hw := cut_words hx
  unfold pcA
  generalize spL (cutB x) 32 = ws at *
  cases endB x with
  | true => exact rowA_len h i hw
  | false => exact h.up
theorem runN_len {M : Nat} : ∀ (pre : List ByteArray) (k i : Nat) (y z : Ar), LenA k M y → (∀ x ∈ pre, x.size ≤ M) → runN y i pre = some z → LenA (k + pre.length) M z
  | [], k, i, y, z, h, _, e => by
    cases e
    exact h
  | l :: r, k, i, y, z, h, hb, e => by
    have e' : (if (pcA y i l).1 = true then runN (pcA y i l).2 (i + 1) r else none) = some z := e
    split at e'
    · have := runN_len r (k + 1) (i + 1) _ z (pcA_len h i (hb l (List.mem_cons_self ..))) (fun x hx => hb x (List.mem_cons_of_mem _ hx)) e'
      rw [List.length_cons, show k + (r.length + 1) = k + 1 + r.length by omega]
      exact this
    · cases e'
theorem lenA_nil (M : Nat) : LenA 0 M nilA := ⟨Nat.le_refl _, fun _ h => (by cases h)⟩
end Go.Proofs.YtjanojmgnpfjeaaGreatDoor
