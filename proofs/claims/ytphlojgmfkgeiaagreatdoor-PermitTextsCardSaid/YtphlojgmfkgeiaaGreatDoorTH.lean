/- The program's parse in plain words: the pieces of a text, one after the other. -/
import Derived.Test.YtphlojgmfkgeiaaGreatDoorTD
import Derived.Test.YtphlojgmfkgeiaaGreatDoorTW
import Derived.Test.YtphlojgmfkgeiaaGreatDoorQX
namespace Go.Proofs.YtphlojgmfkgeiaaGreatDoor
open Go.RowKit Go.Sort Go.Shelf
/-- What a piece makes of a yard. -/
def stepN (y : Yd) (l : ByteArray) : Int × Yd := if endB l then prR y (spL (cutB l) 32) else (25, y)
def goN : Yd → Nat → List ByteArray → Yd × Nat × Int
  | y, i, [] => if yardE y = 0 then (y, 0, 0) else (nilY, i, yardE y)
  | y, i, l :: r => if (stepN y l).1 = 0 then goN (stepN y l).2 (i + 1) r else (nilY, i, (stepN y l).1)
def runN : Yd → List ByteArray → Option Yd
  | y, [] => some y
  | y, l :: r => if (stepN y l).1 = 0 then runN (stepN y l).2 r else none
theorem runN_snoc (x : ByteArray) : ∀ (pre : List ByteArray) (y z : Yd), runN y pre = some z → runN y (pre ++ [x]) = if (stepN z x).1 = 0 then some (stepN z x).2 else none
  | [], y, z, h => by
    cases h
    rfl
  | l :: r, y, z, h => by
    have h' : (if (stepN y l).1 = 0 then runN (stepN y l).2 r else none) = some z := h
    split at h'
    · rename_i h0
      show (if (stepN y l).1 = 0 then runN (stepN y l).2 (r ++ [x]) else none) = _
      rw [if_pos h0]
      exact runN_snoc x r _ z h'
    · cases h'
theorem goN_run : ∀ (pre r : List ByteArray) (y z : Yd) (i : Nat), runN y pre = some z → goN y i (pre ++ r) = goN z (i + pre.length) r
  | [], r, y, z, i, h => by
    cases h
    rfl
  | l :: q, r, y, z, i, h => by
    have h' : (if (stepN y l).1 = 0 then runN (stepN y l).2 q else none) = some z := h
    split at h'
    · rename_i h0
      show (if (stepN y l).1 = 0 then goN (stepN y l).2 (i + 1) (q ++ r) else _) = _
      rw [if_pos h0, goN_run q r _ z (i + 1) h', List.length_cons, show i + 1 + q.length = i + (q.length + 1) by omega]
    · cases h'
theorem goN_no {z : Yd} {x : ByteArray} (h : (stepN z x).1 ≠ 0) (i : Nat) (r : List ByteArray) : goN z i (x :: r) = (nilY, i, (stepN z x).1) := if_neg h
theorem free_end {l : List UInt8} (h : (10 : UInt8) ∉ l) : endB (toB l) = false := by
  unfold endB
  cases hq : ((toB l).extract ((toB l).size - 1) (toB l).size).toList == [10] with
  | false => rfl
  | true =>
    have e := eq_of_beq hq
    rw [toList_data, ext_drop, toB_list, toB_list] at e
    exact absurd (List.mem_of_mem_drop (by rw [e]; exact List.mem_singleton.2 rfl)) h
theorem nl_end (l : List UInt8) : endB (toB (l ++ [10])) = true ∧ cutB (toB (l ++ [10])) = toB l := by
  have hs : (toB (l ++ [10])).size = l.length + 1 := by show (l ++ [10]).toArray.size = _; simp
  refine ⟨?_, ?_⟩
  · unfold endB
    rw [toList_data, ext_drop, toB_list, toB_list, hs, Nat.add_sub_cancel, List.drop_left]
    rfl
  · unfold cutB
    rw [ext_take, toB_list, hs, Nat.add_sub_cancel, List.take_left]
theorem empty_bytes : ((⟨#[]⟩ : ByteArray).toList == []) = true := by rw [toList_data]; rfl
theorem toB_empty {l : List UInt8} : ((toB l).toList == []) = l.isEmpty := by
  rw [toList_data, toB_list]
  cases l <;> rfl
/-- The pieces of a text are parsed as its parts are. -/
theorem goN_goP : ∀ (ls : List (List UInt8)) (y : Yd) (i : Nat), ls ≠ [] → (∀ l ∈ ls, (10 : UInt8) ∉ l) → goN y i ((pcOf ls).map toB) = goP prR y i (ls.map toB)
  | [], _, _, h, _ => absurd rfl h
  | [l], y, i, _, hf => by
    show goN y i ((if l.isEmpty then [] else [l]).map toB) = (if (toB l).toList == [] then (if yardE y = 0 then (y, 0, 0) else (nilY, i, yardE y)) else (nilY, i, 25))
    rw [toB_empty]
    cases hl : l.isEmpty with
    | true => rfl
    | false =>
      have h25 : stepN y (toB l) = (25, y) := by
        unfold stepN
        rw [free_end (hf l (List.mem_singleton.2 rfl))]
        rfl
      show goN y i [toB l] = _
      rw [goN_no (by rw [h25]; exact (by decide : (25 : Int) ≠ 0)), h25]
      rfl
  | l :: m :: r, y, i, _, hf => by
    have ih := fun z => goN_goP (m :: r) z (i + 1) (by simp) (fun u hu => hf u (List.mem_cons_of_mem _ hu))
    obtain ⟨h1, h2⟩ := nl_end l
    have hst : stepN y (toB (l ++ [10])) = prR y (spL (toB l) 32) := by
      unfold stepN
      rw [h1, if_pos rfl, h2]
    show goN y i (toB (l ++ [10]) :: (pcOf (m :: r)).map toB) = goP prR y i (toB l :: toB m :: r.map toB)
    by_cases hz : (prR y (spL (toB l) 32)).1 = 0
    · rw [goP_ok hz]
      show (if (stepN y (toB (l ++ [10]))).1 = 0 then _ else _) = _
      rw [hst, if_pos hz]
      exact ih _
    · rw [goP_no hz, goN_no (by rw [hst]; exact hz), hst]
theorem spl_no : ∀ {c : UInt8} (l : List UInt8), ∀ p ∈ spl c l, c ∉ p
  | c, [], p, hp => by
    rw [List.mem_singleton.1 hp]
    simp
  | c, b :: r, p, hp => by
    have ih := spl_no (c := c) r
    cases hb : (b == c) with
    | true =>
      rw [spl_eq hb] at hp
      rcases List.mem_cons.1 hp with rfl | h
      · simp
      · exact ih p h
    | false =>
      cases hr : spl c r with
      | nil => exact absurd hr (spl_ne c r)
      | cons q qs =>
        rw [spl_cons hb hr] at hp
        rcases List.mem_cons.1 hp with rfl | h
        · rw [List.mem_cons]
          rintro (e | e)
          · rw [e, beq_self_eq_true] at hb; cases hb
          · exact ih q (by rw [hr]; exact List.mem_cons_self ..) e
        · exact ih p (by rw [hr]; exact List.mem_cons_of_mem _ h)
/-- So the program's parse is the reference's. -/
theorem parse_pieces {s : ByteArray} (h : ¬ 4096 < s.size) : goN nilY 0 (pieces s) = parseR s := by
  have e : spL s 10 = (spl 10 s.data.toList).map toB := spL_spl s 10
  unfold parseR pieces
  rw [if_neg h, ← goP_eq, e, pcs_spl, goN_goP _ _ _ (spl_ne 10 _) (spl_no _)]
/-- Sizes on the way. -/
structure LenN (k M : Nat) (z : Yd) : Prop where
  s : z.s.length ≤ k
  w : z.w.length ≤ k
  p : z.p.length ≤ k
  sn : ∀ x ∈ z.s, x.n.size ≤ M
  wn : ∀ x ∈ z.w, x.n.size ≤ M
  pn : ∀ x ∈ z.p, x.n.size ≤ M
theorem tk_w {M : Nat} {st : List ByteArray × Bool} (h : ∀ x ∈ st.1, x.size ≤ M) : (tk st).1.size ≤ M ∧ ∀ x ∈ (tk st).2.1, x.size ≤ M := by
  obtain ⟨l, q⟩ := st
  cases l with
  | nil => exact ⟨Nat.zero_le _, fun x hx => by cases hx⟩
  | cons x r =>
    cases hx : (x.toList == []) with
    | true => rw [tk_no hx]; exact ⟨Nat.zero_le _, fun x hx => by cases hx⟩
    | false => rw [tk_ok hx]; exact ⟨h x (List.mem_cons_self ..), fun z hz => h z (List.mem_cons_of_mem _ hz)⟩
theorem LenN.up {k M : Nat} {z : Yd} (h : LenN k M z) : LenN (k + 1) M z := ⟨Nat.le_succ_of_le h.s, Nat.le_succ_of_le h.w, Nat.le_succ_of_le h.p, h.sn, h.wn, h.pn⟩
theorem mem_snoc {α : Type} {P : α → Prop} {l : List α} {a : α} (h : ∀ x ∈ l, P x) (ha : P a) : ∀ x ∈ l ++ [a], P x := fun x hx => by
  rcases List.mem_append.1 hx with h1 | h1
  · exact h x h1
  · rw [List.mem_singleton.1 h1]; exact ha
theorem prR_len {k M : Nat} {z : Yd} (h : LenN k M z) {ws : List ByteArray} (hw : ∀ x ∈ ws, x.size ≤ M) : LenN (k + 1) M (prR z ws).2 := by
  obtain ⟨h1, h2⟩ := tk_w (st := (ws, false)) hw
  unfold prR
  generalize (tk (ws, false)).1 = kk at *
  generalize (tk (ws, false)).2 = st at *
  obtain ⟨h3, h4⟩ := tk_w h2
  unfold prK
  split
  · exact ⟨by show (z.s ++ [_]).length ≤ _; rw [List.length_append]; exact Nat.succ_le_succ h.s, Nat.le_succ_of_le h.w, Nat.le_succ_of_le h.p, mem_snoc h.sn h3, h.wn, h.pn⟩
  · split
    · exact ⟨Nat.le_succ_of_le h.s, Nat.le_succ_of_le h.w, by show (z.p ++ [_]).length ≤ _; rw [List.length_append]; exact Nat.succ_le_succ h.p, h.sn, h.wn, mem_snoc h.pn h3⟩
    · split
      · have key : ∀ a b known v, LenN (k + 1) M (prTail z kk (tk st).1 a b known v).2 := fun a b known v =>
          ⟨Nat.le_succ_of_le h.s, by show (z.w ++ [_]).length ≤ _; rw [List.length_append]; exact Nat.succ_le_succ h.w, Nat.le_succ_of_le h.p, h.sn, mem_snoc h.wn h3, h.pn⟩
        unfold prSw
        split <;> exact key _ _ _ _
      · exact h.up
theorem words_b (s : ByteArray) (c : Nat) : ∀ k, k ≤ s.size → ∀ x ∈ spTo s c k, x.size ≤ k
  | 0, _, x, hx => by
    unfold spTo at hx
    rw [List.mem_singleton.1 hx]
    exact Nat.le_refl _
  | k + 1, h, x, hx => by
    have ih := words_b s c k (by omega)
    have hl := spTo_last s c k (by omega)
    unfold spTo at hx
    split at hx
    · rcases List.mem_append.1 hx with h1 | h1
      · have := ih x h1; omega
      · rw [List.mem_singleton.1 h1]; exact Nat.zero_le _
    · rcases List.mem_append.1 hx with h1 | h1
      · have := ih x (List.dropLast_subset _ h1); omega
      · rw [List.mem_singleton.1 h1, ByteArray.size_append, ByteArray.size_extract]; omega
theorem stepN_len {k M : Nat} {z : Yd} (h : LenN k M z) {x : ByteArray} (hx : x.size ≤ M) : LenN (k + 1) M (stepN z x).2 := by
  unfold stepN
  split
  · refine prR_len h (fun u hu => Nat.le_trans (words_b _ 32 _ (Nat.le_refl _) u hu) (Nat.le_trans ?_ hx))
    unfold cutB
    rw [ByteArray.size_extract]
    omega
  · exact h.up
theorem runN_len {M : Nat} : ∀ (pre : List ByteArray) (k : Nat) (y z : Yd), LenN k M y → (∀ x ∈ pre, x.size ≤ M) → runN y pre = some z → LenN (k + pre.length) M z
  | [], k, y, z, h, _, e => by
    cases e
    exact h
  | l :: r, k, y, z, h, hb, e => by
    have e' : (if (stepN y l).1 = 0 then runN (stepN y l).2 r else none) = some z := e
    split at e'
    · have := runN_len r (k + 1) _ z (stepN_len h (hb l (List.mem_cons_self ..))) (fun x hx => hb x (List.mem_cons_of_mem _ hx)) e'
      rw [List.length_cons, show k + (r.length + 1) = k + 1 + r.length by omega]
      exact this
    · cases e'
theorem lenN_nil (M : Nat) : LenN 0 M nilY := ⟨Nat.le_refl _, Nat.le_refl _, Nat.le_refl _, fun _ h => (by cases h), fun _ h => (by cases h), fun _ h => (by cases h)⟩
end Go.Proofs.YtphlojgmfkgeiaaGreatDoor
