/- A drawn region with an invariant; append of a whole slice onto an empty literal. -/
import Derived.Test.YtafnebfchhmgcaaGreatQa
import Derived.Laws.OwnMore
namespace Go.Proofs.YtafnebfchhmgcaaGreat
open Go Go.RowKit Go.Sort
section
variable {P : Program} {ops : Array Oper} {md : Region.Mode} {Q : Exit → Act → World → Prop} {w0 : World} {X : List Nat}
/-- Whatever order is picked, an invariant holds while m operations of a group are waiting; behind them one goes on. -/
theorem anyB_inv (I : Nat → Array Bool → Act → World → Prop) (fuel : Nat) (hgrow : ∀ m l a w w', I m l a w → Below w.heap.size w w' → I m l a w')
    (hne : ∀ m l a w, I (m + 1) l a w → Region.ready md ops l ≠ [])
    (hstep : ∀ m l a w, I (m + 1) l a w → ∀ i ∈ Region.ready md ops l, wpOp P ops Q i (fun a' w' => Ex X w0 w' ∧ I m (l.setIfInBounds i true) a' w') a w)
    (hend : ∀ l a w, I 0 l a w → anyB P md ops Q X w0 fuel l a w) : ∀ m l a w, I m l a w → anyB P md ops Q X w0 (m + fuel) l a w
  | 0, l, a, w, h => by rw [Nat.zero_add]; exact hend l a w h
  | m + 1, l, a, w, h => by
    rw [show m + 1 + fuel = (m + fuel) + 1 by omega]
    refine ⟨fun h0 => absurd h0 (hne m l a w h), fun i hi w' hw => ?_⟩
    exact wpOp_mono (fun a' w'' h' => ⟨h'.1, anyB_inv I fuel hgrow hne hstep hend m _ _ _ h'.2⟩) (hstep m l a w' (hgrow _ _ _ _ _ h hw) i hi)
theorem wpOp_plain {i : Nat} {o : Oper} {a : Act} {w : World} {K : Act → World → Prop} (ho : ops[i]? = some o) (hg : o.guard = none) (h : o.wp P a w K Q) : wpOp P ops Q i K a w := by
  unfold wpOp
  simp only [ho, Region.wanted, hg, if_true]
  exact .inl h
end
theorem run_append_none' {P : Program} {w : World} (base : Nat) (t ty e : TypeId) (i : TypeInfo) (size : Nat) (ht : P.underlying t = some (.slice e)) (hi : P.info? e = some i)
    (v : Value) (n c : Nat) (xs : List Value) (hown : w.ownsRow base e size v n xs) :
    (Builtin.append_ #[t, t] ty #[v, .slice none 0 c]).run P w = .ok v w := by
  rcases hown.2 with ⟨rfl, rfl⟩ | ⟨g, cap, cur, rfl, _, _, hnc, _⟩
  · simp [Builtin.append_, run_underlying ht, sizeOf, typeInfo, hi, Builtin.lenOf, Builtin.firstCells]
  · simp [Builtin.append_, run_underlying ht, sizeOf, typeInfo, hi, Builtin.lenOf, Builtin.firstCells, hnc, storeCells]
/-- append(T{}, s...): a row of the call's own with s's elements. -/
theorem wp_spread {P : Program} {o : Oper} {a : Act} {K : Act → World → Prop} {Q : Exit → Act → World → Prop} {w : World} (t e size bytes : Nat) (E : Elem P t e size bytes) (s x : Operand)
    (ho : o.op = .call { callee := .builtin .append, args := #[s, x], argTypes := #[t, t] }) (base b : Nat) (hs : a.eval s = .slice (some ⟨b, 0, none⟩) 0 0) (hown : Own w base e size b 0 0 []) (A : Option Addr) (n c B : Nat) (xs : List Value) (hx : a.eval x = .slice A n c)
    (hr : Reads w B size A n xs) (h1 : ∀ u ∈ xs, u.oneCell' = true) (h63 : n ≤ maxLen) (hbytes : n * bytes ≤ 140737488355328) (hbase : base ≤ w.heap.size)
    (h : ∀ v' w', w'.ownsRow base e size v' n xs → w.grownBy w' (some b) → v' ≠ .slice none 0 0 → K (a.put o.dst v') w') : o.wp P a w K Q := by
  obtain ⟨ht, ⟨i, z, h1', h2', h3', h4', h5'⟩, hp⟩ := E
  have hl := hr.1
  cases A with
  | none =>
    obtain rfl : n = 0 := by
      rcases Nat.eq_zero_or_pos n with h | h
      · exact h
      · obtain ⟨b, o, e, _⟩ := hr.2 h
        cases e
    obtain rfl : xs = [] := List.eq_nil_of_length_eq_zero (by rw [hl]; simp)
    have hrun := run_append_none' (P := P) (w := w) base t o.type e i size ht h1' (.slice (some ⟨b, 0, none⟩) 0 0) 0 c [] hown
    unfold Oper.wp execOp
    simp only [ho, resolve, invoke, builtin, Sem.run_bind, Sem.run_pure, Result.andThen_ok, List.map_toArray, List.map_cons, List.map_nil, hs, hx, hrun]
    exact h _ _ hown ⟨rfl, rfl, rfl, Nat.le_refl _, fun _ _ _ => rfl⟩ (by simp)
  | some ad =>
    refine wp_append_own w s x t ho base e i z size bytes ht h1' h2' h3' h4' h5' hp _ 0 [] hs hown ad n c xs hx hl ?_ h1 (by omega) (by rw [Nat.zero_add]; exact hbytes) hbase ?_
    · intro j u hu
      have hj := (List.getElem?_eq_some_iff.1 hu).1
      have hn0 : 0 < n := by
        rcases Nat.eq_zero_or_pos n with h | h
        · subst h; simp at hl; subst hl; simp at hj
        · exact h
      obtain ⟨b', o', e', _, hc⟩ := hr.2 hn0
      cases e'
      rw [Addr.add_lit]
      exact hc j u hu
    · intro v' w' hown' hg hv
      rw [Nat.zero_add, List.nil_append] at hown'
      exact h v' w' hown' hg (fun e => by have := (hv.1 e).1; simp at this)
theorem own_blk {w : World} {base size g l cap : Nat} {e : TypeId} {xs : List Value} (h : Own w base e size g l cap xs) : ∃ cur, Blk w g e cur := by
  rcases h.2 with ⟨h0, _⟩ | ⟨g', cap', cur, hv, hb, hg, _⟩
  · cases h0
  · cases hv
    exact ⟨cur, hg⟩
/-- A literal that waits for its append (p: it is laid; q: it has had it). -/
def Fl (base : Nat) (T : TypeId) (size n : Nat) (xs : List Value) (p q : Bool) (u v : Value) (W : World) : Prop :=
  (p = true → q = false → ∃ b, u = .slice (some ⟨b, 0, none⟩) 0 0 ∧ Own W base T size b 0 0 []) ∧ (q = true → W.ownsRow base T size v n xs)
section
variable {base size n : Nat} {T : TypeId} {xs : List Value} {p q : Bool} {u v : Value} {W W' : World}
theorem Fl.kept (h : Fl base T size n xs p q u v W) (hb : Below W.heap.size W W') : Fl base T size n xs p q u v W' :=
  ⟨fun hp hq => let ⟨b, e, r⟩ := h.1 hp hq; ⟨b, e, r.kept hb⟩, fun hq => own_kept (h.2 hq) hb⟩
theorem Fl.other {T' size' b n' c' : Nat} {xs' : List Value} (h : Fl base T size n xs p q u v W) (ho : Own W base T' size' b n' c' xs') (hT : T ≠ T') (hg : W.grownBy W' (some b)) : Fl base T size n xs p q u v W' := by
  obtain ⟨cur, hc⟩ := own_blk ho
  refine ⟨fun hp hq => ?_, fun hq => ?_⟩
  · obtain ⟨b', e, r⟩ := h.1 hp hq
    refine ⟨b', e, World.ownsRow.kept r hg (.inr ?_)⟩
    obtain ⟨cur', hc'⟩ := own_blk r
    intro he
    have : b' = b := by simpa [Value.ownBlock] using he
    subst this
    unfold Blk at hc hc'
    rw [hc] at hc'
    cases hc'
    exact hT rfl
  · refine World.ownsRow.kept (h.2 hq) hg ?_
    rcases (h.2 hq).2 with ⟨rfl, _⟩ | ⟨g, cap, cur', rfl, _, hh, _⟩
    · exact .inl rfl
    · refine .inr ?_
      intro he
      have : g = b := by simpa [Value.ownBlock] using he
      subst this
      unfold Blk at hc
      rw [hc] at hh
      cases hh
      exact hT rfl
theorem Fl.put (_ : p = true) (h : W.ownsRow base T size v n xs) : Fl base T size n xs p true u v W := ⟨fun _ hq => (by cases hq), fun _ => h⟩
theorem Fl.lit (hb : base ≤ W.heap.size) : Fl base T size n xs true false (.slice (some ⟨W.heap.size, 0, none⟩) 0 0) v (W.alloc (.cells #[] T)) :=
  ⟨fun _ _ => ⟨_, rfl, Own.new W base T size 0 #[] hb (by simp) (by unfold maxLen; decide)⟩, fun h => (by cases h)⟩
end
end Go.Proofs.YtafnebfchhmgcaaGreat
