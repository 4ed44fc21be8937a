/- An arm that grows: its row is the call's own; what is left alone by that. -/
import Derived.Test.YtjanojmgnpfjeaaGreatDoorQe
import Derived.Test.YtjanojmgnpfjeaaGreatDoorQj
import Derived.Test.YtjanojmgnpfjeaaGreatDoorSH
import Derived.Test.YtjanojmgnpfjeaaGreatDoorTC
namespace Go.Proofs.YtjanojmgnpfjeaaGreatDoor
open Go.RowKit Go.Sort Go.Shelf
set_option linter.unusedSimpArgs false
set_option linter.unusedVariables false
attribute [local go_sem] cell_if frozen_if grow_cell
theorem own_neT {w : World} {base size n k : Nat} {e t : TypeId} {v : Value} {xs : List Value} {d : Array Value} (h : w.ownsRow base e size v n xs) (hk : Blk w k t d) (ht : t ≠ e) : some k ≠ v.ownBlock := fun e' => own_ne h hk ht e'.symm
theorem own_row {w : World} {base size n k : Nat} {e : TypeId} {v : Value} {xs : List Value} (h : w.ownsRow base e size v n xs) (hk : v.ownBlock = some k) : base ≤ k ∧ ∃ d f, w.heap[k]? = some (.cells d e f) := by
  rcases h.2 with ⟨rfl, _⟩ | ⟨g, cap, cur, rfl, hb, hg, _⟩
  · simp [Value.ownBlock] at hk
  · obtain rfl : g = k := by simpa [Value.ownBlock] using hk
    exact ⟨hb, _, _, hg⟩
/-- An arm in a variable g, whose row is the call's own. -/
structure ArO (base g : Nat) (y : Ar) (v : Value) (W : World) : Prop where
  box : Blk W g 36 #[v, .int .i64 y.lo, .int .i64 y.hi, .int .i64 y.cur, .int .i64 y.lim]
  r0 : W.ownsRow base 107 4 v y.m.length (mds y.m)
section
variable {base g : Nat} {y : Ar} {v : Value} {w W W' : World}
theorem ArO.keep (h : ArO base g y v W) (hk : ∀ k t d, Blk W k t d → (k = g ∨ t = 107) → W'.heap[k]? = W.heap[k]?) : ArO base g y v W' :=
  ⟨(hk g _ _ h.box (.inl rfl)).trans h.box, row_kept h.r0 fun j d hj => hk j _ d hj (.inr rfl)⟩
theorem ArO.kept (h : ArO base g y v W) (hb : Below W.heap.size W W') : ArO base g y v W' := h.keep fun k _ _ hd _ => hb.block k hd.lt
theorem ArO.ex {X : List Nat} (h : ArO base g y v W) (hb : Ex X W W') (hX : ∀ k ∈ X, k ≠ g ∧ ∀ t d, Blk W k t d → t ≠ 107) : ArO base g y v W' :=
  h.keep fun k t d hd ho => hb.block k hd.lt fun hx => by
    obtain ⟨h1, h2⟩ := hX k hx
    rcases ho with e | e
    · exact h1 e
    · exact h2 t d hd e
theorem ArO.set {k t : Nat} {d : Array Value} (h : ArO base g y v W) (hk : Blk W k t d) (hg : k ≠ g) (ta : t ≠ 107) (i : Nat) (u : Value) : ArO base g y v (W.setCell ⟨k, i, none⟩ u) :=
  h.keep fun j t' d' hd ho => Below.heap_setCell W _ u j (by
    show j ≠ k
    rintro rfl
    have e := (show W.heap[j]? = _ from hd).symm.trans hk
    simp at e
    rcases ho with e' | e'
    · exact hg e'
    · exact ta (e.2.symm.trans e'))
theorem ArO.lo (h : ArO base g y v W) (u : Int) : ArO base g { y with lo := u } v (W.setCell ⟨g, 1, none⟩ (.int .i64 u)) := ⟨h.box.set_ 1 _, row_set h.r0 h.box (by decide)⟩
theorem ArO.hi (h : ArO base g y v W) (u : Int) : ArO base g { y with hi := u } v (W.setCell ⟨g, 2, none⟩ (.int .i64 u)) := ⟨h.box.set_ 2 _, row_set h.r0 h.box (by decide)⟩
theorem ArO.cur (h : ArO base g y v W) (u : Int) : ArO base g { y with cur := u } v (W.setCell ⟨g, 3, none⟩ (.int .i64 u)) := ⟨h.box.set_ 3 _, row_set h.r0 h.box (by decide)⟩
theorem ArO.lim (h : ArO base g y v W) (u : Int) : ArO base g { y with lim := u } v (W.setCell ⟨g, 4, none⟩ (.int .i64 u)) := ⟨h.box.set_ 4 _, row_set h.r0 h.box (by decide)⟩
/-- Read by value. -/
theorem ArO.at_ (h : ArO base g y v W) : ∃ A c, v = .slice A y.m.length c ∧ MsAt W W.heap.size A y.m.length y.m := by
  obtain ⟨A, c, e, _, _, q⟩ := own_form h.r0
  exact ⟨A, c, e, q⟩
/-- An append to the row, and the store of what comes of it. -/
theorem ArO.app (h : ArO base g y v W) {x : Md} {g' cap : Nat} (hg : W.grownBy W' v.ownBlock) (ho : Own W' base 107 4 g' (y.m.length + 1) cap (mds y.m ++ x.cells)) :
    ArO base g { y with m := y.m ++ [x] } (.slice (some ⟨g', 0, none⟩) (y.m.length + 1) cap) (W'.setCell ⟨g, 0, none⟩ (.slice (some ⟨g', 0, none⟩) (y.m.length + 1) cap)) := by
  have hbox : Blk W' g 36 #[v, .int .i64 y.lo, .int .i64 y.hi, .int .i64 y.cur, .int .i64 y.lim] := h.box.grown hg (own_neT h.r0 h.box (by decide))
  have e : mds (y.m ++ [x]) = mds y.m ++ x.cells := by simp [mds]
  refine ⟨hbox.set_ 0 _, ?_⟩
  show (W'.setCell _ _).ownsRow base _ 4 _ (y.m ++ [x]).length (mds (y.m ++ [x]))
  rw [e, List.length_append]
  exact row_set ho hbox (by decide)
/-- What is left alone when such an arm grows: all below base but for g; whatever holds none of its rows and is not g; whatever holds no cells. -/
structure Fr1 (base g : Nat) (w W : World) : Prop where
  le : base ≤ w.heap.size
  os : W.os = w.os
  tape : W.tape = w.tape
  output : W.output = w.output
  size : w.heap.size ≤ W.heap.size
  low : ∀ k, k < base → k ≠ g → W.heap[k]? = w.heap[k]?
  blk : ∀ k t d, t ≠ 107 → k ≠ g → Blk w k t d → Blk W k t d
  oth : KeepsOthers w W
theorem Fr1.refl (base g : Nat) (w : World) (h : base ≤ w.heap.size) : Fr1 base g w w := ⟨h, rfl, rfl, rfl, Nat.le_refl _, fun _ _ _ => rfl, fun _ _ _ _ _ h => h, KeepsOthers.refl _⟩
theorem Fr1.trans {u : World} (h : Fr1 base g w W) (k : Fr1 base g W u) : Fr1 base g w u :=
  ⟨h.le, k.os.trans h.os, k.tape.trans h.tape, k.output.trans h.output, Nat.le_trans h.size k.size, fun i hi hg => (k.low i hi hg).trans (h.low i hi hg), fun i t d h1 h2 h3 => k.blk i t d h1 h2 (h.blk i t d h1 h2 h3), h.oth.trans k.oth⟩
theorem others_of_below (hb : Below W.heap.size W W') : KeepsOthers W W' := ⟨hb.size, fun k _ hk _ => (hb.block k (Array.getElem?_eq_some_iff.1 hk).1).trans hk⟩
theorem Fr1.below (h : Fr1 base g w W) (hb : Below W.heap.size W W') : Fr1 base g w W' :=
  h.trans ⟨Nat.le_trans h.le h.size, hb.os, hb.tape, hb.output, hb.size, fun k hk _ => hb.block k (by have := h.le; have := h.size; omega), fun _ _ _ _ _ hd => hd.kept hb, others_of_below hb⟩
theorem Fr1.set (h : Fr1 base g w W) {k : Nat} (hk : k = g ∨ w.heap.size ≤ k) (i : Nat) (u : Value) : Fr1 base g w (W.setCell ⟨k, i, none⟩ u) := by
  have hne : ∀ j, j < w.heap.size → j ≠ g → j ≠ k := fun j h1 h2 e => by
    subst e
    rcases hk with hk | hk
    · exact h2 hk
    · omega
  refine ⟨h.le, h.os, h.tape, h.output, by simpa [World.setCell] using h.size, fun j hj hg => (Below.heap_setCell W ⟨k, i, none⟩ u j (hne j (by have := h.le; omega) hg)).trans (h.low j hj hg), fun j t d h1 h4 h5 => (h.blk j t d h1 h4 h5).far (hne j h5.lt h4) u, h.oth.trans (KeepsOthers.setCell _ _ _)⟩
/-- A call that leaves all but a fresh box of cells. -/
theorem Fr1.ex (h : Fr1 base g w W) {k t : Nat} {d d' : Array Value} (hx : Ex [k] W W') (hk : w.heap.size ≤ k) (hb : Blk W k t d) (hb' : Blk W' k t d') : Fr1 base g w W' :=
  ⟨h.le, hx.os.trans h.os, hx.tape.trans h.tape, hx.output.trans h.output, Nat.le_trans h.size hx.size, fun i hi hg => (hx.block i (by have := h.le; have := h.size; omega) (fun hm => by have := List.mem_singleton.1 hm; have := h.le; omega)).trans (h.low i hi hg),
    fun i t d h1 h2 h3 => (hx.block i (Nat.lt_of_lt_of_le h3.lt h.size) (fun hm => by have := List.mem_singleton.1 hm; have := h3.lt; omega)).trans (h.blk i t d h1 h2 h3),
    h.oth.trans ⟨hx.size, fun i o hi ho => (hx.block i (Array.getElem?_eq_some_iff.1 hi).1 (fun hm => by
      rw [List.mem_singleton.1 hm] at hi
      rw [show W.heap[k]? = _ from hb] at hi
      cases hi
      cases ho)).trans hi⟩⟩
theorem Fr1.grown (h : Fr1 base g w W) {size n : Nat} {v : Value} {xs : List Value} (hr : W.ownsRow base 107 size v n xs) (hg : W.grownBy W' v.ownBlock) : Fr1 base g w W' := by
  refine h.trans ⟨Nat.le_trans h.le h.size, hg.os, hg.tape, hg.output, hg.size, fun k hk _ => hg.block k (by have := h.le; have := h.size; omega) (fun e' => by have := (own_row hr e'.symm).1; omega), fun j t' d' h1 _ h5 => h5.grown hg (own_neT hr h5 h1), KeepsOthers.of_grownBy hg fun j _o ej hj => ?_⟩
  obtain ⟨_, d, f, hd⟩ := own_row hr ej
  rw [hd] at hj
  cases hj
  rfl
/-- Turns of other blocks leave an arm as it is. -/
theorem ArO.turn {row : Option Nat} (h : ArO base g y v W) (hg : W.grownBy W' row) (hr : ∀ r, row = some r → r ≠ g ∧ (r < base ∨ ∃ o : Obj, W.heap[r]? = some o ∧ o.isCells = false)) : ArO base g y v W' := by
  have key : ∀ {e size n : Nat} {v : Value} {xs : List Value}, W.ownsRow base e size v n xs → W'.ownsRow base e size v n xs := fun {e size n v xs} ho => ho.kept hg (by
    cases hv : v.ownBlock with
    | none => exact .inl rfl
    | some k =>
      refine .inr (fun e' => ?_)
      obtain ⟨h1, d, f, hd⟩ := own_row ho hv
      rcases (hr k e'.symm).2 with h2 | ⟨o, ho', hc⟩
      · omega
      · rw [hd] at ho'
        cases ho'
        cases hc)
  exact ⟨h.box.grown hg (fun e' => (hr g e'.symm).1 rfl), key h.r0⟩
end
/-- While a line is read: the words that are left, the arm so far. -/
structure RdW (base g bt L : Nat) (st : List ByteArray × Bool) (y : Ar) (v : Value) (w W : World) : Prop where
  tk : TkAt W bt L st
  ar : ArO base g y v W
  fr : Fr1 base g w W
  o0 : w.heap.size ≤ bt
  o1 : w.heap.size ≤ L
  o2 : g < base
section
variable {base g bt L : Nat} {st st' : List ByteArray × Bool} {y y' : Ar} {v v' : Value} {w W W' : World}
theorem RdW.word (h : RdW base g bt L st y v w W) (hx : Ex [bt] W W') (ht : TkAt W' bt L st') : RdW base g bt L st' y v w W' := by
  obtain ⟨d, hd⟩ := h.tk.blk
  obtain ⟨d', hd'⟩ := ht.blk
  have h0 := h.o0
  have h2 := h.o2
  have hle := h.fr.le
  refine ⟨ht, h.ar.ex hx fun k hk => ?_, h.fr.ex hx h0 hd hd', h0, h.o1, h2⟩
  rw [List.mem_singleton.1 hk]
  refine ⟨by omega, fun t d2 hd2 e => ?_⟩
  have := (show W.heap[bt]? = _ from hd).symm.trans hd2
  simp at this
  rw [e] at this
  exact absurd this.2 (by decide)
theorem RdW.kept (h : RdW base g bt L st y v w W) (hb : Below W.heap.size W W') : RdW base g bt L st y v w W' := ⟨h.tk.kept hb, h.ar.kept hb, h.fr.below hb, h.o0, h.o1, h.o2⟩
theorem RdW.put (h : RdW base g bt L st y v w W) (i : Nat) (u : Value) (ha : ArO base g y' v' (W.setCell ⟨g, i, none⟩ u)) : RdW base g bt L st y' v' w (W.setCell ⟨g, i, none⟩ u) := by
  have h0 := h.o0
  have h1 := h.o1
  have h2 := h.o2
  have hle := h.fr.le
  exact ⟨h.tk.low (by omega) (by omega) i u, ha, h.fr.set (.inl rfl) i u, h0, h1, h2⟩
theorem RdW.far (h : RdW base g bt L st y v w W) {k t : Nat} {d : Array Value} (hk : Blk W k t d) (hbk : bt < k) (ht : t ≠ 107) (i : Nat) (u : Value) : RdW base g bt L st y v w (W.setCell ⟨k, i, none⟩ u) := by
  have h0 := h.o0
  have h2 := h.o2
  have hle := h.fr.le
  exact ⟨h.tk.ex (X := [k]) ((Ex.refl [k] W).set_in (p := ⟨k, i, none⟩) (.inl (List.mem_singleton.2 rfl)) u) (fun j hj => by rw [List.mem_singleton.1 hj]; exact hbk), h.ar.set hk (by omega) ht i u, h.fr.set (.inr (by omega)) i u, h0, h.o1, h2⟩
end
end Go.Proofs.YtjanojmgnpfjeaaGreatDoor
