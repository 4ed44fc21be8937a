/- A yard that grows: its rows are the call's own; what is left alone by that. -/
import Derived.Test.YtphlojgmfkgeiaaGreatDoorKe
import Derived.Test.YtphlojgmfkgeiaaGreatDoorTC
namespace Go.Proofs.YtphlojgmfkgeiaaGreatDoor
open Go.RowKit Go.Sort Go.Shelf
theorem own_neT {w : World} {base size n k : Nat} {e t : TypeId} {v : Value} {xs : List Value} {d : Array Value} (h : w.ownsRow base e size v n xs) (hk : Blk w k t d) (ht : t ≠ e) : some k ≠ v.ownBlock := by
  rcases h.2 with ⟨rfl, _⟩ | ⟨g, cap, cur, rfl, _, hg, _⟩
  · simp [Value.ownBlock]
  · intro e'
    obtain rfl : k = g := by simpa [Value.ownBlock] using e'
    have := (show w.heap[k]? = _ from hk).symm.trans hg
    simp at this
    exact ht this.2
theorem own_row {w : World} {base size n k : Nat} {e : TypeId} {v : Value} {xs : List Value} (h : w.ownsRow base e size v n xs) (hk : v.ownBlock = some k) : base ≤ k ∧ ∃ d f, w.heap[k]? = some (.cells d e f) := by
  rcases h.2 with ⟨rfl, _⟩ | ⟨g, cap, cur, rfl, hb, hg, _⟩
  · simp [Value.ownBlock] at hk
  · obtain rfl : g = k := by simpa [Value.ownBlock] using hk
    exact ⟨hb, _, _, hg⟩
/-- A struct variable g of three slices, whose rows are the call's own. -/
structure YdO (base g ty a b c : Nat) (y : Yd) (v0 v1 v2 : Value) (W : World) : Prop where
  box : Blk W g ty #[v0, v1, v2]
  r0 : W.ownsRow base a 2 v0 y.s.length (secs y.s)
  r1 : W.ownsRow base b 5 v1 y.w.length (sws y.w)
  r2 : W.ownsRow base c 2 v2 y.p.length (pms y.p)
section
variable {base g ty a b c : Nat} {y : Yd} {v0 v1 v2 : Value} {w W W' : World}
theorem YdO.keep (h : YdO base g ty a b c y v0 v1 v2 W) (hk : ∀ k t d, Blk W k t d → (k = g ∨ t = a ∨ t = b ∨ t = c) → W'.heap[k]? = W.heap[k]?) : YdO base g ty a b c y v0 v1 v2 W' :=
  ⟨(hk g _ _ h.box (.inl rfl)).trans h.box, row_kept h.r0 fun j d hj => hk j _ d hj (.inr (.inl rfl)), row_kept h.r1 fun j d hj => hk j _ d hj (.inr (.inr (.inl rfl))), row_kept h.r2 fun j d hj => hk j _ d hj (.inr (.inr (.inr rfl)))⟩
theorem YdO.kept (h : YdO base g ty a b c y v0 v1 v2 W) (hb : Below W.heap.size W W') : YdO base g ty a b c y v0 v1 v2 W' := h.keep fun k _ _ hd _ => hb.block k hd.lt
theorem YdO.ex {X : List Nat} (h : YdO base g ty a b c y v0 v1 v2 W) (hb : Ex X W W') (hX : ∀ k ∈ X, k ≠ g ∧ ∀ t d, Blk W k t d → t ≠ a ∧ t ≠ b ∧ t ≠ c) : YdO base g ty a b c y v0 v1 v2 W' :=
  h.keep fun k t d hd ho => hb.block k hd.lt fun hx => by
    obtain ⟨h1, h2⟩ := hX k hx
    obtain ⟨q1, q2, q3⟩ := h2 t d hd
    rcases ho with e | e | e | e
    · exact h1 e
    · exact q1 e
    · exact q2 e
    · exact q3 e
theorem YdO.set {k t : Nat} {d : Array Value} (h : YdO base g ty a b c y v0 v1 v2 W) (hk : Blk W k t d) (hg : k ≠ g) (ta : t ≠ a) (tb : t ≠ b) (tc : t ≠ c) (i : Nat) (u : Value) : YdO base g ty a b c y v0 v1 v2 (W.setCell ⟨k, i, none⟩ u) :=
  h.keep fun j t' d' hd ho => Below.heap_setCell W _ u j (by
    show j ≠ k
    rintro rfl
    have e := (show W.heap[j]? = _ from hd).symm.trans hk
    simp at e
    rcases ho with e' | e' | e' | e'
    · exact hg e'
    · exact ta (e.2.symm.trans e')
    · exact tb (e.2.symm.trans e')
    · exact tc (e.2.symm.trans e'))
/-- Read by value. -/
theorem YdO.at_ (h : YdO base g ty a b c y v0 v1 v2 W) : ∃ A0 A1 A2 c0 c1 c2, v0 = .slice A0 y.s.length c0 ∧ v1 = .slice A1 y.w.length c1 ∧ v2 = .slice A2 y.p.length c2 ∧ YdAt W W.heap.size A0 A1 A2 y.s.length y.w.length y.p.length y := by
  obtain ⟨A0, c0, e0, _, _, q0⟩ := own_form h.r0
  obtain ⟨A1, c1, e1, _, _, q1⟩ := own_form h.r1
  obtain ⟨A2, c2, e2, _, _, q2⟩ := own_form h.r2
  exact ⟨A0, A1, A2, c0, c1, c2, e0, e1, e2, q0, q1, q2⟩
theorem grown_keeps {row : Option Nat} (hg : W.grownBy W' row) {k t : Nat} {d : Array Value} (hk : Blk W k t d) (hne : some k ≠ row) : W'.heap[k]? = W.heap[k]? := hg.block k hk.lt hne
/-- An append to a row, and the store of what comes of it. -/
theorem YdO.app0 (h : YdO base g ty a b c y v0 v1 v2 W) (hab : a ≠ b) (hac : a ≠ c) (hta : ty ≠ a) (htb : ty ≠ b) (htc : ty ≠ c) {x : Sec} {g' cap : Nat} (hg : W.grownBy W' v0.ownBlock) (ho : Own W' base a 2 g' (y.s.length + 1) cap (secs y.s ++ x.cells)) :
    YdO base g ty a b c { y with s := y.s ++ [x] } (.slice (some ⟨g', 0, none⟩) (y.s.length + 1) cap) v1 v2 (W'.setCell ⟨g, 0, none⟩ (.slice (some ⟨g', 0, none⟩) (y.s.length + 1) cap)) := by
  have hbox : Blk W' g ty #[v0, v1, v2] := h.box.grown hg (own_neT h.r0 h.box hta)
  have e : secs (y.s ++ [x]) = secs y.s ++ x.cells := by simp [secs]
  refine ⟨hbox.set_ 0 _, ?_, ?_, ?_⟩
  · show (W'.setCell _ _).ownsRow base a 2 _ (y.s ++ [x]).length (secs (y.s ++ [x]))
    rw [e, List.length_append]
    exact row_set ho hbox (Ne.symm hta)
  · exact row_set (row_kept h.r1 fun j d hj => grown_keeps hg hj (own_neT h.r0 hj (Ne.symm hab))) hbox (Ne.symm htb)
  · exact row_set (row_kept h.r2 fun j d hj => grown_keeps hg hj (own_neT h.r0 hj (Ne.symm hac))) hbox (Ne.symm htc)
theorem YdO.app1 (h : YdO base g ty a b c y v0 v1 v2 W) (hab : a ≠ b) (hbc : b ≠ c) (hta : ty ≠ a) (htb : ty ≠ b) (htc : ty ≠ c) {x : Sw} {g' cap : Nat} (hg : W.grownBy W' v1.ownBlock) (ho : Own W' base b 5 g' (y.w.length + 1) cap (sws y.w ++ x.cells)) :
    YdO base g ty a b c { y with w := y.w ++ [x] } v0 (.slice (some ⟨g', 0, none⟩) (y.w.length + 1) cap) v2 (W'.setCell ⟨g, 1, none⟩ (.slice (some ⟨g', 0, none⟩) (y.w.length + 1) cap)) := by
  have hbox : Blk W' g ty #[v0, v1, v2] := h.box.grown hg (own_neT h.r1 h.box htb)
  have e : sws (y.w ++ [x]) = sws y.w ++ x.cells := by simp [sws]
  refine ⟨hbox.set_ 1 _, ?_, ?_, ?_⟩
  · exact row_set (row_kept h.r0 fun j d hj => grown_keeps hg hj (own_neT h.r1 hj hab)) hbox (Ne.symm hta)
  · show (W'.setCell _ _).ownsRow base b 5 _ (y.w ++ [x]).length (sws (y.w ++ [x]))
    rw [e, List.length_append]
    exact row_set ho hbox (Ne.symm htb)
  · exact row_set (row_kept h.r2 fun j d hj => grown_keeps hg hj (own_neT h.r1 hj (Ne.symm hbc))) hbox (Ne.symm htc)
theorem YdO.app2 (h : YdO base g ty a b c y v0 v1 v2 W) (hac : a ≠ c) (hbc : b ≠ c) (hta : ty ≠ a) (htb : ty ≠ b) (htc : ty ≠ c) {x : Pm} {g' cap : Nat} (hg : W.grownBy W' v2.ownBlock) (ho : Own W' base c 2 g' (y.p.length + 1) cap (pms y.p ++ x.cells)) :
    YdO base g ty a b c { y with p := y.p ++ [x] } v0 v1 (.slice (some ⟨g', 0, none⟩) (y.p.length + 1) cap) (W'.setCell ⟨g, 2, none⟩ (.slice (some ⟨g', 0, none⟩) (y.p.length + 1) cap)) := by
  have hbox : Blk W' g ty #[v0, v1, v2] := h.box.grown hg (own_neT h.r2 h.box htc)
  have e : pms (y.p ++ [x]) = pms y.p ++ x.cells := by simp [pms]
  refine ⟨hbox.set_ 2 _, ?_, ?_, ?_⟩
  · exact row_set (row_kept h.r0 fun j d hj => grown_keeps hg hj (own_neT h.r2 hj hac)) hbox (Ne.symm hta)
  · exact row_set (row_kept h.r1 fun j d hj => grown_keeps hg hj (own_neT h.r2 hj hbc)) hbox (Ne.symm htb)
  · show (W'.setCell _ _).ownsRow base c 2 _ (y.p ++ [x]).length (pms (y.p ++ [x]))
    rw [e, List.length_append]
    exact row_set ho hbox (Ne.symm htc)
/-- What is left alone when such a yard grows: all below base but for g; whatever holds none of its rows and is not g; whatever holds no cells. -/
structure Fr3 (base g a b c : Nat) (w W : World) : Prop where
  le : base ≤ w.heap.size
  os : W.os = w.os
  tape : W.tape = w.tape
  output : W.output = w.output
  size : w.heap.size ≤ W.heap.size
  low : ∀ k, k < base → k ≠ g → W.heap[k]? = w.heap[k]?
  blk : ∀ k t d, t ≠ a → t ≠ b → t ≠ c → k ≠ g → Blk w k t d → Blk W k t d
  oth : KeepsOthers w W
theorem Fr3.refl (base g a b c : Nat) (w : World) (h : base ≤ w.heap.size) : Fr3 base g a b c w w := ⟨h, rfl, rfl, rfl, Nat.le_refl _, fun _ _ _ => rfl, fun _ _ _ _ _ _ _ h => h, KeepsOthers.refl _⟩
theorem Fr3.trans {u : World} (h : Fr3 base g a b c w W) (k : Fr3 base g a b c W u) : Fr3 base g a b c w u :=
  ⟨h.le, k.os.trans h.os, k.tape.trans h.tape, k.output.trans h.output, Nat.le_trans h.size k.size, fun i hi hg => (k.low i hi hg).trans (h.low i hi hg), fun i t d h1 h2 h3 h4 h5 => k.blk i t d h1 h2 h3 h4 (h.blk i t d h1 h2 h3 h4 h5), h.oth.trans k.oth⟩
theorem others_of_below (hb : Below W.heap.size W W') : KeepsOthers W W' := ⟨hb.size, fun k _ hk _ => (hb.block k (Array.getElem?_eq_some_iff.1 hk).1).trans hk⟩
theorem Fr3.below (h : Fr3 base g a b c w W) (hb : Below W.heap.size W W') : Fr3 base g a b c w W' :=
  h.trans ⟨Nat.le_trans h.le h.size, hb.os, hb.tape, hb.output, hb.size, fun k hk _ => hb.block k (by have := h.le; have := h.size; omega), fun _ _ _ _ _ _ _ hd => hd.kept hb, others_of_below hb⟩
theorem Fr3.set (h : Fr3 base g a b c w W) {k : Nat} (hk : k = g ∨ w.heap.size ≤ k) (i : Nat) (u : Value) : Fr3 base g a b c w (W.setCell ⟨k, i, none⟩ u) := by
  have hne : ∀ j, j < w.heap.size → j ≠ g → j ≠ k := fun j h1 h2 e => by
    subst e
    rcases hk with hk | hk
    · exact h2 hk
    · omega
  refine ⟨h.le, h.os, h.tape, h.output, by simpa [World.setCell] using h.size, fun j hj hg => (Below.heap_setCell W ⟨k, i, none⟩ u j (hne j (by have := h.le; omega) hg)).trans (h.low j hj hg), fun j t d h1 h2 h3 h4 h5 => (h.blk j t d h1 h2 h3 h4 h5).far (hne j h5.lt h4) u, h.oth.trans (KeepsOthers.setCell _ _ _)⟩
theorem Fr3.grown (h : Fr3 base g a b c w W) {e size n : Nat} {v : Value} {xs : List Value} (he : e = a ∨ e = b ∨ e = c) (hr : W.ownsRow base e size v n xs) (hg : W.grownBy W' v.ownBlock) : Fr3 base g a b c w W' := by
  refine h.trans ⟨Nat.le_trans h.le h.size, hg.os, hg.tape, hg.output, hg.size, fun k hk _ => hg.block k (by have := h.le; have := h.size; omega) (fun e' => by have := (own_row hr e'.symm).1; omega), fun j t' d' h1 h2 h3 _ h5 => h5.grown hg (own_neT hr h5 (by rcases he with rfl | rfl | rfl <;> assumption)), KeepsOthers.of_grownBy hg fun j _o ej hj => ?_⟩
  obtain ⟨_, d, f, hd⟩ := own_row hr ej
  rw [hd] at hj
  cases hj
  rfl
/-- Turns of other blocks leave a yard as it is. -/
theorem YdO.turn {row : Option Nat} (h : YdO base g ty a b c y v0 v1 v2 W) (hg : W.grownBy W' row) (hr : ∀ r, row = some r → r ≠ g ∧ (r < base ∨ ∃ o : Obj, W.heap[r]? = some o ∧ o.isCells = false)) : YdO base g ty a b c y v0 v1 v2 W' := by
  have key : ∀ {e size n : Nat} {v : Value} {xs : List Value}, W.ownsRow base e size v n xs → W'.ownsRow base e size v n xs := fun {e size n v xs} ho => ho.kept hg (by
    cases hv : v.ownBlock with
    | none => exact .inl rfl
    | some k =>
      refine .inr (fun e' => ?_)
      obtain ⟨h1, d, f, hd⟩ := own_row ho hv
      rcases (hr k e'.symm).2 with h2 | ⟨o, ho', hc⟩
      · omega
      · rw [hd] at ho'
        cases ho'
        cases hc)
  exact ⟨h.box.grown hg (fun e' => (hr g e'.symm).1 rfl), key h.r0, key h.r1, key h.r2⟩
end
end Go.Proofs.YtphlojgmfkgeiaaGreatDoor
