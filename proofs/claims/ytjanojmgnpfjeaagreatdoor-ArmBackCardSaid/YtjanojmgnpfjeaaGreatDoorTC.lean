/- A range over an iterator that keeps its state in a box of its own. -/
import Derived.RangeFuncNested
namespace Go.Proofs.YtjanojmgnpfjeaaGreatDoor
open Go Go.RowKit
section
variable {F : Fence} {n : Nat} {P : Program} {α β : Type} {gb B : Nat}
/-- What stays true when new blocks come, when the iterator's box gb turns, and when a block from B on that holds no cells turns. -/
def AtBox (gb B : Nat) (I : β → World → Prop) : Prop :=
  ∀ s W W' row, I s W → W.grownBy W' row → (∀ r, row = some r → r = gb ∨ (B ≤ r ∧ ∃ o : Obj, W.heap[r]? = some o ∧ o.isCells = false)) → I s W'
theorem AtBox.turns {I : β → World → Prop} (h : AtBox gb B I) {s : β} {W : World} {l : Nat} {o : Obj} (o' : Obj) (hs : I s W) (hB : B ≤ l) (hl : W.heap[l]? = some o) (ho : o.isCells = false) : I s (W.putObj l o') :=
  h s W _ (some l) hs (grownBy_putObj' W l o') (fun r e => by cases e; exact .inr ⟨hB, o, hl, ho⟩)
theorem AtBox.lays {I : β → World → Prop} (h : AtBox gb B I) {s : β} {W : World} (o : Obj) (hs : I s W) : I s (W.alloc o) :=
  h s W _ none hs (World.grownBy_alloc W o none) (fun r e => by cases e)
/-- The word of an iterator that writes its box alone; a round leaves the box as it was. -/
def SeqBox (F : Fence) (n : Nat) (P : Program) (g : Nat) (lb : Array Value) (encs : α → Array Value) (gb : Nat) (S Sp : List α → Prop) (N : Nat) (w : World) : Prop :=
  ∀ (l : Nat) (J Jx : List α → World → Prop) (W : World), W.heap[gb]? = w.heap[gb]? →
    (∀ s A C row, J s A → A.grownBy C row → (∀ r, row = some r → r = gb) → J s C) →
    (∀ pre x W1, J pre W1 → pre.length < N → YieldAt F (n - 1) P l (encs x) W1 fun e W' =>
      (e = .returned (.bool true) ∧ J (pre ++ [x]) W' ∧ W'.heap[gb]? = W1.heap[gb]?) ∨ (e = .returned (.bool false) ∧ Jx (pre ++ [x]) W')) →
    J [] W → CallsIn F n P g (#[.func (.yield l) #[] #[]] ++ lb) W fun e W' => (∃ v, e = .returned v) ∧ ((∃ xs, S xs ∧ J xs W') ∨ (∃ pre, Sp pre ∧ Jx pre W'))
/-- How a round may end: at its end, or by a return. -/
def boxPost (B gb : Nat) (I Ix : List α → World → Prop) (xs : List α) (W : World) : Exit → Act → World → Prop
  | .normal, _, W' => KeepsFrom B W W' ∧ W'.heap[gb]? = W.heap[gb]? ∧ I xs W'
  | .ret, _, W' => KeepsFrom B W W' ∧ Ix xs W'
  | _, _, _ => False
theorem range_box {g : Operand} {ps : Array Tmp} {assign body : Code} {Q : Exit → Act → World → Prop} {a : Act} {w : World}
    (hro : F.round = none) (h1 : 1 ≤ n) {gf : Nat} {lb : Array Value} (hg : a.eval g = .func (.func gf) #[] lb) (hFg : F.fn gf) (eg : ∀ args w, (callFunc gf args).run P w = .ok (.enter gf args) w)
    {encs : α → Array Value} {S Sp : List α → Prop} {N : Nat} (hgb : gb < w.heap.size) (hseq : SeqBox F (n - 1) P gf lb encs gb S Sp N w) (hps : ∀ x, (encs x).size = ps.size)
    (I Ix : List α → World → Prop) (hI : AtBox gb w.heap.size I) (hIx : AtBox gb w.heap.size Ix) (h0 : I [] w) (a1 : α → Act)
    (hassign : ∀ (l : Nat) (x : α) (W : World) (K : Act → World → Prop), K (a1 x) W →
      assign.wpIn (F.inRound l) (n - 1 - 1) P (Exit.then K (fun _ _ _ => False)) { tmps := (ps.zip (encs x)).foldl (fun t (p, v) => t.setIfInBounds p v) a.tmps, defers := [] } W)
    (hbody : ∀ (l : Nat) (pre : List α) (x : α) (W : World), I pre W → pre.length < N → body.wpIn (F.inRound l) (n - 1 - 1) P (boxPost w.heap.size gb I Ix (pre ++ [x]) W) (a1 x) W)
    (hdone : ∀ (D : Nat) (xs : List α) (W : World), w.heap.size ≤ D → S xs → I xs W → W.heap[D]? = some (.deferred (some [])) → Q .normal { a with defers := { target := .collected D, args := #[] } :: a.defers } W)
    (hstop : ∀ (D : Nat) (pre : List α) (W : World), w.heap.size ≤ D → Sp pre → Ix pre W → W.heap[D]? = some (.deferred (some [])) → Code.ret.wpIn F n P Q { a with defers := { target := .collected D, args := #[] } :: a.defers } W) :
    (Code.rangeFunc g ps assign body).wpIn F n P Q a w := by
  refine wpIn_rangeFunc fun fn hfn => ?_
  rw [hro]
  -- the loop's record, by its state and the jump that it bears
  let rec_ : LoopState → Option Code → Loop := fun st pe => { state := st, pending := pe, fn, tmps := a.tmps, params := ps, assign, body, defers := w.heap.size }
  generalize hU : (w.alloc (.deferred (some []))).alloc (.loop (rec_ .ready none)) = U
  have uL : U.heap[w.heap.size + 1]? = some (.loop (rec_ .ready none)) := by
    have := World.alloc_heap_new (w.alloc (.deferred (some []))) (.loop (rec_ .ready none))
    rw [World.size_alloc, hU] at this
    exact this
  have uD : U.heap[w.heap.size]? = some (.deferred (some [])) := by
    rw [← hU]
    exact (Below.heap_alloc _ _ _ (by simp)).trans (World.alloc_heap_new w _)
  have uB : U.heap[gb]? = w.heap[gb]? := by
    rw [← hU]
    exact (Below.heap_alloc _ _ _ (by simp; omega)).trans (Below.heap_alloc _ _ _ hgb)
  have uI : I [] U := by rw [← hU]; exact hI.lays _ (hI.lays _ h0)
  refine ⟨w.heap.size + 1, [{ target := .collected w.heap.size, args := #[] }], U, { target := .fn (.func gf) lb, args := #[.func (.yield (w.heap.size + 1)) #[] #[]] }, U, gf,
    #[.func (.yield (w.heap.size + 1)) #[] #[]] ++ lb, U, by rw [← hU]; exact run_enterLoop_outer _ _ _ _ _, by simp only [resolve, hg]; simp [go_sem], fun f' hf' => by simp [Target.leads] at hf'; subst hf'; exact hFg, by simp [invoke, go_sem, eg], fun _ => h1, ?_⟩
  -- the two blocks of the law's own: they are kept beside the caller's words
  let Book : Loop → World → Prop := fun r W => W.heap[w.heap.size + 1]? = some (.loop r) ∧ W.heap[w.heap.size]? = some (.deferred (some []))
  have bookBox : ∀ {r : Loop} {A C : World} {row : Option Nat}, A.grownBy C row → (∀ z, row = some z → z = gb) → Book r A → Book r C := fun hgr hr ⟨k1, k2⟩ =>
    ⟨(hgr.block _ (Array.getElem?_eq_some_iff.1 k1).1 (fun e => by have := hr _ e.symm; omega)).trans k1, (hgr.block _ (Array.getElem?_eq_some_iff.1 k2).1 (fun e => by have := hr _ e.symm; omega)).trans k2⟩
  have bookPut : ∀ {r r' : Loop} {A : World}, Book r A → Book r' (A.putObj (w.heap.size + 1) (.loop r')) := fun ⟨k1, k2⟩ =>
    ⟨World.putObj_heap_same (Array.getElem?_eq_some_iff.1 k1).1, (World.putObj_heap_other (by omega)).trans k2⟩
  have bookKeep : ∀ {r : Loop} {A C : World}, KeepsFrom w.heap.size A C → Book r A → Book r C := fun hk ⟨k1, k2⟩ =>
    ⟨hk.same _ _ (by omega) k1 rfl, hk.same _ _ (Nat.le_refl _) k2 rfl⟩
  have putBox : ∀ (A : World) (o : Obj), (A.putObj (w.heap.size + 1) o).heap[gb]? = A.heap[gb]? := fun A o => World.putObj_heap_other (by omega)
  refine (hseq (w.heap.size + 1) (fun pre W => I pre W ∧ Book (rec_ .ready none) W) (fun pre W => Ix pre W ∧ Book (rec_ .done (some .ret)) W) U uB
    (fun s A C row hs hgr hr => ⟨hI s A C row hs.1 hgr (fun r e => .inl (hr r e)), bookBox hgr hr hs.2⟩) ?round ⟨uI, uL, uD⟩).mono ?behind
  case round =>
    rintro pre x W ⟨hi, hbk⟩ hlen
    refine ⟨fn, _, assign, body, run_yield (P := P) (args := encs x) hbk.1 (hps x), roundIn_of_wpIn hfn (hassign _ x W _ ⟨_, run_beginRound hbk.1 rfl, ?_⟩)⟩
    have hbusy : Book { rec_ .ready none with state := .busy } (W.putObj (w.heap.size + 1) (.loop { rec_ .ready none with state := .busy })) := bookPut hbk
    refine wpIn_mono (hbody _ pre x _ (hI.turns _ hi (by omega) hbk.1 rfl) hlen) ?_
    rintro e a3 W3 hp
    cases e with
    | normal =>
      obtain ⟨k1, k2, k3⟩ := hp
      have b3 := bookKeep k1 hbusy
      refine ⟨_, _, run_endRound (P := P) none b3.1, .inl ⟨rfl, ⟨hI.turns _ k3 (by omega) b3.1 rfl, bookPut b3⟩, ?_⟩⟩
      rw [putBox, k2, putBox]
    | ret =>
      obtain ⟨k1, k3⟩ := hp
      have b3 := bookKeep k1 hbusy
      exact ⟨_, _, run_endRound (P := P) (some .ret) b3.1, .inr ⟨rfl, hIx.turns _ k3 (by omega) b3.1 rfl, bookPut b3⟩⟩
    | exit id => exact hp.elim
    | goto t => exact hp.elim
    | panic c => exact hp.elim
    | outgrown => exact hp.elim
  case behind =>
    rintro e W2 ⟨⟨v, rfl⟩, (⟨xs, hS, hi, hbk⟩ | ⟨pre, hSp, hi, hbk⟩)⟩
    · exact ⟨none, _, run_endLoop (P := P) hbk.1 (by simp [rec_]), hdone _ xs _ (Nat.le_refl _) hS (hI.turns _ hi (by omega) hbk.1 rfl) ((World.putObj_heap_other (by omega)).trans hbk.2)⟩
    · exact ⟨some .ret, _, run_endLoop (P := P) hbk.1 (by simp [rec_]), hstop _ pre _ (Nat.le_refl _) hSp (hIx.turns _ hi (by omega) hbk.1 rfl) ((World.putObj_heap_other (by omega)).trans hbk.2)⟩
end
end Go.Proofs.YtjanojmgnpfjeaaGreatDoor
