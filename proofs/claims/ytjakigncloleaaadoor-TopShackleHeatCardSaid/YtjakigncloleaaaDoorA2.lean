/- Words for memory, more: rows that the call itself makes. -/
import Derived.Test.YtjakigncloleaaaDoorA
import Derived.Maps.AppendAt
namespace Go.Proofs.YtjakigncloleaaaDoor
open Go.RowKit
theorem news_new (w : World) (cs : Array Value) (t : TypeId) : ∀ j u, cs.toList[j]? = some u → (w.alloc (.cells cs t)).cell? ((⟨w.heap.size, 0, none⟩ : Addr).add j) = some u := by
  intro j u hu
  have := cell_of_row (w.alloc (.cells cs t)) w.heap.size j cs t (0, 0) (heap_alloc_new w (.cells cs t))
  rw [Addr.add_lit, Nat.zero_add, this]
  simpa using hu
/-- A row of the call's own: at the head of block g, from 'base' on. -/
def Own (w : World) (base : Nat) (e size g l cap : Nat) (xs : List Value) : Prop := w.ownsRow base e size (.slice (some ⟨g, 0, none⟩) l cap) l xs
section
variable {w w' : World} {base e size g l cap : Nat} {xs : List Value}
theorem Own.len (h : Own w base e size g l cap xs) : xs.length = l * size := h.1
theorem Own.lt (h : Own w base e size g l cap xs) : base ≤ g ∧ g < w.heap.size := by
  rcases h.2 with ⟨h0, _⟩ | ⟨g', cap', cur, hv, hb, hg, _⟩
  · cases h0
  · injection hv with h1
    injection h1 with h1
    injection h1 with h1
    subst h1
    refine ⟨hb, ?_⟩
    rcases Nat.lt_or_ge g w.heap.size with hlt | hge
    · exact hlt
    · rw [Array.getElem?_eq_none hge] at hg; cases hg
theorem Own.reads (h : Own w base e size g l cap xs) : Reads w (g + 1) size (some ⟨g, 0, none⟩) l xs :=
  ⟨h.1, fun _ => ⟨_, _, rfl, Nat.lt_succ_self _, fun j u hu => by
    have := h.cells (g := g) rfl j u hu
    rwa [Addr.add_lit] at this⟩⟩
theorem Own.alloc (h : Own w base e size g l cap xs) (o : Obj) : Own (w.alloc o) base e size g l cap xs := World.ownsRow.alloc h o
theorem Own.drew (h : Own w base e size g l cap xs) : Own w.drew base e size g l cap xs := h
/-- What lies at whole blocks is kept where the block is. -/
theorem Own.kept (h : Own w base e size g l cap xs) (hb : Below w.heap.size w w') : Own w' base e size g l cap xs := by
  obtain ⟨h1, h2⟩ := h
  refine ⟨h1, ?_⟩
  rcases h2 with h2 | ⟨g', cap', cur, hv, hg, hh, r⟩
  · exact Or.inl h2
  · have hlt : g' < w.heap.size := by
      rcases Nat.lt_or_ge g' w.heap.size with hlt | hge
      · exact hlt
      · rw [Array.getElem?_eq_none hge] at hh; cases hh
    exact Or.inr ⟨g', cap', cur, hv, hg, by rw [hb.block g' hlt]; exact hh, r⟩
/-- A new row out of a literal. -/
theorem Own.new (w : World) (base e size l : Nat) (cs : Array Value) (hb : base ≤ w.heap.size) (hl : cs.size = l * size) (hm : l ≤ maxLen) : Own (w.alloc (.cells cs e)) base e size w.heap.size l l cs.toList :=
  ⟨by simpa using hl, Or.inr ⟨w.heap.size, l, cs, rfl, hb, heap_alloc_new w _, Nat.le_refl _, hm, hl, by rw [List.take_of_length_le]; simp [hl]⟩⟩
/-- A slice value of the call's own, nil or not, reads. -/
theorem own_form {v : Value} {n : Nat} (h : w.ownsRow base e size v n xs) : ∃ A cap, v = .slice A n cap ∧ n ≤ cap ∧ cap ≤ maxLen ∧ Reads w w.heap.size size A n xs := by
  rcases h.2 with ⟨rfl, rfl⟩ | ⟨g, cap, cur, rfl, hb, hg, hn, hc, _⟩
  · exact ⟨none, 0, rfl, Nat.le_refl _, Nat.zero_le _, h.1, fun hn => absurd hn (by omega)⟩
  · have h' : Own w base e size g n cap xs := h
    exact ⟨_, _, rfl, hn, hc, h'.reads.more h'.lt.2⟩
theorem own_kept {v : Value} {n : Nat} (h : w.ownsRow base e size v n xs) (hb : Below w.heap.size w w') : w'.ownsRow base e size v n xs :=
  h.kept (row := none) ⟨hb.os, hb.tape, hb.output, hb.size, fun k hk _ => hb.block k hk⟩ (by
    cases hv : v.ownBlock with
    | none => exact .inl rfl
    | some g => exact .inr (by simp))
end
/-- What the append's law wants to know of a slice type. -/
structure Elem (P : Program) (t e size bytes : Nat) : Prop where
  ht : P.underlying t = some (.slice e)
  ex : ∃ i z, P.info? e = some i ∧ i.zero = some z ∧ i.size = size ∧ i.bytes = bytes ∧ z.cells.size = size
  pos : 0 < size
theorem elem_of {P : Program} {t e size bytes : Nat} {z : Value} (ht : P.underlying t = some (.slice e)) (h : (P.info? e).map (fun i => (i.zero, i.size, i.bytes)) = some (some z, size, bytes)) (hz : z.cells.size = size) (hs : 0 < size) : Elem P t e size bytes := by
  obtain ⟨i, h1, h2, h3, h4⟩ := info_parts h
  exact ⟨ht, ⟨i, z, h1, h2, h3, h4, hz⟩, hs⟩
/-- append of a literal's elements onto a row of the call's own (nil let in). -/
theorem wpList_app {P : Program} {ops : Array Oper} {rest : List Oper} {o : Oper} {a : Act} {Q : Exit → Act → World → Prop} {w0 : World} {cs : Array Value} (t e size bytes : Nat) (E : Elem P t e size bytes) (hgd : o.guard = none) (s x : Operand)
    (ho : o.op = .call { callee := .builtin .append, args := #[s, x], argTypes := #[t, t] }) (base : Nat) (v : Value) (n : Nat) (xs : List Value) (hs : a.eval s = v) (hown : w0.ownsRow base e size v n xs) (m : Nat) (hx : a.eval x = .slice (some ⟨w0.heap.size, 0, none⟩) m m)
    (hl : cs.size = m * size) (h1 : ∀ u ∈ cs.toList, u.oneCell' = true) (hm : 0 < m) (h63 : n + m ≤ maxLen) (hbytes : (n + m) * bytes ≤ 140737488355328) (hbase : base ≤ w0.heap.size)
    (h : ∀ g cap w', w'.ownsRow base e size (.slice (some ⟨g, 0, none⟩) (n + m) cap) (n + m) (xs ++ cs.toList) → Below base w0 w' → (∀ k t' c, Blk w0 k t' c → v.ownBlock ≠ some k → Blk w' k t' c) → w0.heap.size < w'.heap.size → wpList P ops Q rest (a.put o.dst (.slice (some ⟨g, 0, none⟩) (n + m) cap)) w') :
    wpList P ops Q (o :: rest) a (w0.alloc (.cells cs e)) := by
  obtain ⟨ht, ⟨i, z, h1', h2', h3', h4', h5'⟩, hp⟩ := E
  refine wpList_append_lies (w0.alloc (.cells cs e)) hgd s x t ho base e i z size bytes ht h1' h2' h3' h4' h5' hp v n xs hs (hown.alloc _) ⟨w0.heap.size, 0, none⟩ m m cs.toList hx (by simpa using hl) (news_new w0 cs e) h1 hm h63 hbytes (by simp; omega) _ rfl ?_
  intro g cap w' hown' hg _ _
  have hsz : w0.heap.size + 1 ≤ w'.heap.size := by simpa using hg.size
  refine h g cap w' hown' ?_ (fun k t' c hk hne => (hk.alloc _).grown hg (fun e => hne e.symm)) (by omega)
  refine ((Below.refl base w0).alloc hbase _).grown hg (by simp; omega) (fun k hk => (hown.lt k hk).1)
theorem Reads.blk_at {w : World} {g size n off : Nat} {t : TypeId} {cs : Array Value} {pre xs post : List Value} (h : Blk w g t cs) (hcs : cs.toList = pre ++ (xs ++ post)) (ho : pre.length = off) (hl : xs.length = n * size) : Reads w (g + 1) size (some ⟨g, off, none⟩) n xs :=
  ⟨hl, fun _ => ⟨_, _, rfl, Nat.lt_succ_self _, fun j u hu => by
    have hj : j < xs.length := (List.getElem?_eq_some_iff.1 hu).1
    rw [h.cell, ← Array.getElem?_toList, hcs, List.getElem?_append_right (by omega), ho, Nat.add_sub_cancel_left, List.getElem?_append_left hj]
    exact hu⟩⟩
theorem calls_below {P : Program} {f : FuncId} {args : Array Value} {w : World} {v : Value} (h : Calls P f args w fun e w' => e = .returned v ∧ w = w') : Calls P f args w fun e w' => e = .returned v ∧ Below w.heap.size w w' :=
  h.mono fun _ _ ⟨he, hw⟩ => ⟨he, hw ▸ Below.refl _ _⟩
end Go.Proofs.YtjakigncloleaaaDoor
