/- Six places filled one by one. -/
import Derived.Test.YtjakigncloleaaaDoorPl3
import Derived.Test.YtjakigncloleaaaDoorB1
import Derived.Test.YtjakigncloleaaaDoorA2
namespace Go.Proofs.YtjakigncloleaaaDoor
open Go.RowKit
def seqV (f : Nat → Int × Int) (j k : Nat) : Int × Int := if k < j then f k else (0, 0)
theorem seqV_succ (f : Nat → Int × Int) (n k : Nat) : ∀ j, j < n → seqV f (k + 1) j = if j = k then seqV f (k + 1) k else seqV f k j := by
  intro j _
  unfold seqV
  by_cases h : j = k
  · rw [if_pos h, h]
  · rw [if_neg h]
    by_cases h2 : j < k
    · rw [if_pos h2, if_pos (by omega)]
    · rw [if_neg h2, if_neg (by omega)]
theorem seqV_here (f : Nat → Int × Int) (k : Nat) : seqV f (k + 1) k = f k := by unfold seqV; rw [if_pos (by omega)]
theorem seqV_done (f : Nat → Int × Int) {n k : Nat} (h : k < n) : seqV f n k = f k := by unfold seqV; rw [if_pos h]
theorem six_set {w : World} {g t : Nat} {U V : Nat → Int × Int} {k : Nat} (hk : k < 3) (h : Blk w g t #[.int .i64 (U 0).1, .int .i64 (U 0).2, .int .i64 (U 1).1, .int .i64 (U 1).2, .int .i64 (U 2).1, .int .i64 (U 2).2]) (hV : ∀ j, j < 3 → V j = if j = k then V k else U j) :
    Blk ((w.setCell ⟨g, k * 2, none⟩ (.int .i64 (V k).1)).setCell ⟨g, k * 2 + 1, none⟩ (.int .i64 (V k).2)) g t #[.int .i64 (V 0).1, .int .i64 (V 0).2, .int .i64 (V 1).1, .int .i64 (V 1).2, .int .i64 (V 2).1, .int .i64 (V 2).2] := by
  have h2 := (h.set_ (k * 2) (.int .i64 (V k).1)).set_ (k * 2 + 1) (.int .i64 (V k).2)
  have e0 := hV 0 (by omega)
  have e1 := hV 1 (by omega)
  have e2 := hV 2 (by omega)
  clear hV h
  match k, hk with
  | 0, _ => rw [e1, e2]; exact h2
  | 1, _ => rw [e0, e2]; exact h2
  | 2, _ => rw [e0, e1]; exact h2
theorem tt_index {k : Nat} (hk : k < 3) (w : World) : (Instr.index 32 (.agg #[.int .i64 0, .int .i64 (-2), .int .i64 2]) (.int .i64 k)).run Tryd.prog w = .ok (.int .i64 (tt k)) w := by
  rcases (show k = 0 ∨ k = 1 ∨ k = 2 from by omega) with rfl | rfl | rfl
  · exact (show (Instr.index 32 (.agg #[.int .i64 0, .int .i64 (-2), .int .i64 2]) (.int .i64 ((0 : Nat) : Int))).run Tryd.prog w = .ok (.int .i64 (tt 0)) w by kernel_rfl)
  · exact (show (Instr.index 32 (.agg #[.int .i64 0, .int .i64 (-2), .int .i64 2]) (.int .i64 ((1 : Nat) : Int))).run Tryd.prog w = .ok (.int .i64 (tt 1)) w by kernel_rfl)
  · exact (show (Instr.index 32 (.agg #[.int .i64 0, .int .i64 (-2), .int .i64 2]) (.int .i64 ((2 : Nat) : Int))).run Tryd.prog w = .ok (.int .i64 (tt 2)) w by kernel_rfl)
theorem tt_bd {m : Nat} (h : m < 3) : -2 ≤ tt m ∧ tt m ≤ 2 := by
  rcases (show m = 0 ∨ m = 1 ∨ m = 2 from by omega) with rfl | rfl | rfl <;> decide
theorem ks_bd {s : Int} (h1 : -128 ≤ s) (h2 : s ≤ 127) {k : Nat} (hk : k < 6) : -1000 ≤ (k : Int) * s ∧ (k : Int) * s ≤ 1000 := by
  rcases (show k = 0 ∨ k = 1 ∨ k = 2 ∨ k = 3 ∨ k = 4 ∨ k = 5 from by omega) with rfl | rfl | rfl | rfl | rfl | rfl <;> omega
theorem tmod101 (s : Int) : -100 ≤ s.tmod 101 ∧ s.tmod 101 ≤ 100 := by
  have h1 := Int.tmod_lt_of_pos s (b := 101) (by omega)
  have h2 := Int.neg_tmod s 101
  have h3 := Int.tmod_lt_of_pos (-s) (b := 101) (by omega)
  omega
/-- append onto an empty literal, of a slice over a block that is known whole. -/
theorem wpList_fresh {P : Program} {ops : Array Oper} {rest : List Oper} {o : Oper} {a : Act} {Q : Exit → Act → World → Prop} {w0 : World} (t e size bytes : Nat) (E : Elem P t e size bytes) (hgd : o.guard = none) (s x : Operand)
    (ho : o.op = .call { callee := .builtin .append, args := #[s, x], argTypes := #[t, t] }) (hs : a.eval s = .slice (some ⟨w0.heap.size, 0, none⟩) 0 0) (g0 m c : Nat) (T : TypeId) (cs : Array Value) (hx : a.eval x = .slice (some ⟨g0, 0, none⟩) m c) (hb : Blk w0 g0 T cs)
    (hl : cs.size = m * size) (h1 : ∀ u ∈ cs.toList, u.oneCell' = true) (hm : 0 < m) (h63 : m ≤ maxLen) (hbytes : m * bytes ≤ 140737488355328)
    (h : ∀ g cap w', Own w' w0.heap.size e size g m cap cs.toList → Below w0.heap.size w0 w' → wpList P ops Q rest (a.put o.dst (.slice (some ⟨g, 0, none⟩) m cap)) w') :
    wpList P ops Q (o :: rest) a (w0.alloc (.cells #[] e)) := by
  obtain ⟨ht, ⟨i, z, h1', h2', h3', h4', h5'⟩, hp⟩ := E
  have hown := Own.new w0 w0.heap.size e size 0 #[] (Nat.le_refl _) (by simp) (Nat.zero_le _)
  refine wpList_append_lies (w0.alloc (.cells #[] e)) hgd s x t ho w0.heap.size e i z size bytes ht h1' h2' h3' h4' h5' hp _ 0 [] hs hown ⟨g0, 0, none⟩ m c cs.toList hx (by simpa using hl) (fun j u hu => ?_) h1 hm (by omega) (by rw [Nat.zero_add]; exact hbytes) (by simp) _ rfl ?_
  · rw [Addr.add_lit, Nat.zero_add, (hb.alloc _).cell j]
    simpa using hu
  · intro g cap w' hown' hg _ _
    rw [Nat.zero_add, List.nil_append] at hown'
    rw [Nat.zero_add]
    refine h g cap w' hown' (((Below.refl w0.heap.size w0).alloc (Nat.le_refl _) _).grown hg (by simp) (fun k hk => (hown.2.elim (fun h => by cases h.1) fun _ => by
      have : k = w0.heap.size := by simpa [Value.ownBlock] using hk.symm
      omega)))
theorem tw_one (U : Nat → Int × Int) : ∀ u ∈ (#[.int .i64 (U 0).1, .int .i64 (U 0).2, .int .i64 (U 1).1, .int .i64 (U 1).2, .int .i64 (U 2).1, .int .i64 (U 2).2, .int .i64 (U 3).1, .int .i64 (U 3).2, .int .i64 (U 4).1, .int .i64 (U 4).2, .int .i64 (U 5).1, .int .i64 (U 5).2] : Array Value).toList, u.oneCell' = true := by
  intro u hu
  simp at hu
  rcases hu with rfl | rfl | rfl | rfl | rfl | rfl | rfl | rfl | rfl | rfl | rfl | rfl <;> rfl
theorem elemEis : Elem Tryd.prog 40 25 2 16 := elem_of Tryd.underlying40 (z := .agg #[.int .i64 0, .int .i64 0]) (by kernel_rfl) rfl (by decide)
theorem own_nums {w : World} {base g cap : Nat} {U : Nat → Int × Int} (h : Own w base 25 2 g 6 cap (#[.int .i64 (U 0).1, .int .i64 (U 0).2, .int .i64 (U 1).1, .int .i64 (U 1).2, .int .i64 (U 2).1, .int .i64 (U 2).2, .int .i64 (U 3).1, .int .i64 (U 3).2, .int .i64 (U 4).1, .int .i64 (U 4).2, .int .i64 (U 5).1, .int .i64 (U 5).2] : Array Value).toList) : Nums w (g + 1) (some ⟨g, 0, none⟩) 6 [U 0, U 1, U 2, U 3, U 4, U 5] := h.reads
end Go.Proofs.YtjakigncloleaaaDoor
