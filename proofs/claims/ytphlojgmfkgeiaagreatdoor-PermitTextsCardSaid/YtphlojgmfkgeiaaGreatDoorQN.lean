/- A text that is parsed; parts of what is printed; in plain words. -/
import Derived.Test.YtphlojgmfkgeiaaGreatDoorQL
import Derived.Test.YtphlojgmfkgeiaaGreatDoorGE
namespace Go.Proofs.YtphlojgmfkgeiaaGreatDoor
open Go.RowKit Go.Sort Go.Shelf
/-- Lines, one after the other: f says what is made of a line's words. -/
def goP (f : Yd → List ByteArray → Int × Yd) : Yd → Nat → List ByteArray → Yd × Nat × Int
  | _, i, [] => (nilY, i, 25)
  | y, i, [l] => if l.toList == [] then (if yardE y = 0 then (y, 0, 0) else (nilY, i, yardE y)) else (nilY, i, 25)
  | y, i, l :: m :: r => if (f y (spL l 32)).1 = 0 then goP f (f y (spL l 32)).2 (i + 1) (m :: r) else (nilY, i, (f y (spL l 32)).1)
theorem goP_ok {f : Yd → List ByteArray → Int × Yd} {y : Yd} {l : ByteArray} (h : (f y (spL l 32)).1 = 0) (i : Nat) (m : ByteArray) (r : List ByteArray) : goP f y i (l :: m :: r) = goP f (f y (spL l 32)).2 (i + 1) (m :: r) := if_pos h
theorem goP_no {f : Yd → List ByteArray → Int × Yd} {y : Yd} {l : ByteArray} (h : (f y (spL l 32)).1 ≠ 0) (i : Nat) (m : ByteArray) (r : List ByteArray) : goP f y i (l :: m :: r) = (nilY, i, (f y (spL l 32)).1) := if_neg h
theorem spL_cons (s : ByteArray) (c : Nat) : ∃ x r, spL s c = x :: r := by
  have := (spTo_len s c s.size).1
  unfold spL
  cases h : spTo s c s.size with
  | nil => rw [h] at this; exact absurd this (by decide)
  | cons x r => exact ⟨x, r, rfl⟩
theorem goP_eq : ∀ (ls : List ByteArray) (y : Yd) (i : Nat), goP prR y i ls = goP rpR y i ls
  | [], _, _ => rfl
  | [l], _, _ => rfl
  | l :: m :: r, y, i => by
    obtain ⟨x, q, e⟩ := spL_cons l 32
    obtain ⟨h1, h2⟩ := pr_rp y x q
    rw [← e] at h1 h2
    by_cases hz : (rpR y (spL l 32)).1 = 0
    · rw [goP_ok hz, goP_ok (by rw [h1]; exact hz), h2 hz]
      exact goP_eq (m :: r) _ _
    · rw [goP_no hz, goP_no (by rw [h1]; exact hz), h1]
/-- The yard of a text, or the number of the line that is wrong and the error. -/
def parseR (s : ByteArray) : Yd × Nat × Int := if 4096 < s.size then (nilY, 0, 26) else goP rpR nilY 0 (spL s 10)
theorem spl_none {c : UInt8} : ∀ {l : List UInt8}, c ∉ l → spl c l = [l]
  | [], _ => rfl
  | b :: r, h => by
    have hb : (b == c) = false := beq_eq_false_iff_ne.2 (fun e => h (by rw [e]; exact List.mem_cons_self ..))
    exact spl_cons hb (spl_none (fun hc => h (List.mem_cons_of_mem _ hc)))
theorem spl_app {c : UInt8} (r : List UInt8) : ∀ {l : List UInt8}, c ∉ l → spl c (l ++ c :: r) = l :: spl c r
  | [], _ => spl_eq (beq_self_eq_true c) r
  | b :: l, h => by
    have hb : (b == c) = false := beq_eq_false_iff_ne.2 (fun e => h (by rw [e]; exact List.mem_cons_self ..))
    exact spl_cons hb (spl_app r (fun hc => h (List.mem_cons_of_mem _ hc)))
theorem join_more (x z : List UInt8) (r : List (List UInt8)) : Lib.join (x :: z :: r) [32] = x ++ 32 :: Lib.join (z :: r) [32] := by
  rw [Lib.join_cons, Lib.join_cons]
  unfold Lib.joinTail
  simp
/-- Words that are joined by blanks fall apart again. -/
theorem spl_join : ∀ {ws : List (List UInt8)}, ws ≠ [] → (∀ x ∈ ws, (32 : UInt8) ∉ x) → spl 32 (Lib.join ws [32]) = ws
  | [], h, _ => absurd rfl h
  | [x], _, h => by rw [Lib.join_one]; exact spl_none (h x (List.mem_cons_self ..))
  | x :: z :: r, _, h => by
    rw [join_more, spl_app _ (h x (List.mem_cons_self ..)), spl_join (by simp) (fun u hu => h u (List.mem_cons_of_mem _ hu))]
theorem join_free {c : UInt8} (hc : c ≠ 32) : ∀ {ws : List (List UInt8)}, (∀ x ∈ ws, c ∉ x) → c ∉ Lib.join ws [32]
  | [], _ => by simp [Lib.join]
  | [x], h => by rw [Lib.join_one]; exact h x (List.mem_cons_self ..)
  | x :: z :: r, h => by
    rw [join_more, List.mem_append, List.mem_cons]
    rintro (h1 | h1 | h1)
    · exact h x (List.mem_cons_self ..) h1
    · exact hc h1
    · exact join_free hc (fun u hu => h u (List.mem_cons_of_mem _ hu)) h1
/-- A line's words have neither blanks nor newlines. -/
def Clean (ws : List ByteArray) : Prop := ws ≠ [] ∧ ∀ x ∈ ws, (32 : UInt8) ∉ x.data.toList ∧ (10 : UInt8) ∉ x.data.toList
def bodyL (ws : List ByteArray) : List UInt8 := Lib.join (ws.map (·.data.toList)) [32]
theorem toB_data (x : ByteArray) : toB x.data.toList = x := by
  unfold toB
  apply ByteArray.ext
  simp
theorem body_words {ws : List ByteArray} (h : Clean ws) : spL (toB (bodyL ws)) 32 = ws := by
  have e : spL (toB (bodyL ws)) 32 = (spl 32 (toB (bodyL ws)).data.toList).map toB := spL_spl (toB (bodyL ws)) 32
  rw [e, show (toB (bodyL ws)).data.toList = bodyL ws by simp [toB]]
  unfold bodyL
  rw [spl_join (by simpa using h.1) (fun x hx => by
    obtain ⟨z, hz, rfl⟩ := List.mem_map.1 hx
    exact (h.2 z hz).1), List.map_map]
  conv => rhs; rw [← List.map_id ws]
  exact List.map_congr_left fun x _ => toB_data x
/-- The lines of a text that is printed. -/
theorem spl_lines : ∀ {wss : List (List ByteArray)}, (∀ ws ∈ wss, Clean ws) → spl 10 (wss.flatMap lineL) = wss.map bodyL ++ [[]]
  | [], _ => rfl
  | ws :: r, h => by
    have hc := h ws (List.mem_cons_self ..)
    rw [List.flatMap_cons, show lineL ws = bodyL ws ++ [10] from rfl, List.append_assoc]
    show spl 10 (bodyL ws ++ 10 :: r.flatMap lineL) = _
    have hfree : (10 : UInt8) ∉ bodyL ws := join_free (by decide) (fun x hx => by
      obtain ⟨z, hz, rfl⟩ := List.mem_map.1 hx
      exact (hc.2 z hz).2)
    rw [spl_app _ hfree, spl_lines (fun u hu => h u (List.mem_cons_of_mem _ hu))]
    rfl
end Go.Proofs.YtphlojgmfkgeiaaGreatDoor
