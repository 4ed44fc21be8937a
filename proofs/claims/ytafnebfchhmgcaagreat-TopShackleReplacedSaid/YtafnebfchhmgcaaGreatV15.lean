/- A range over an iterator whose values lie in rows that it lays on its way. -/
import Derived.RangeFuncNested
namespace Go.Proofs.YtafnebfchhmgcaaGreat
open Go Go.RowKit
section
variable {F : Fence} {n : Nat} {P : Program} {α β : Type}
/-- The word of an iterator that only lays new blocks; A says what holds of a value when it is handed out. -/
def SeqRow (F : Fence) (n : Nat) (P : Program) (g : Nat) (lb : Array Value) (encs : α → Array Value) (A : α → World → Prop) (Kp : World → World → Prop) (S Sp : List α → Prop) (w : World) : Prop :=
  ∀ (l : Nat) (J Jx : List α → World → Prop) (W : World), Below w.heap.size w W → w.heap.size + 2 ≤ W.heap.size → (∀ s C D, J s C → C.grownBy D none → J s D) → (∀ s C D, Jx s C → C.grownBy D none → Jx s D) →
    (∀ pre x W1, J pre W1 → A x W1 → YieldAt F (n - 1) P l (encs x) W1 fun e W' =>
      (e = .returned (.bool true) ∧ J (pre ++ [x]) W' ∧ Kp W1 W') ∨ (e = .returned (.bool false) ∧ Jx (pre ++ [x]) W' ∧ Kp W1 W')) →
    J [] W → CallsIn F n P g (#[.func (.yield l) #[] #[]] ++ lb) W fun e W' => (∃ v, e = .returned v) ∧ ((∃ xs, S xs ∧ J xs W') ∨ (∃ pre, Sp pre ∧ Jx pre W'))
/-- How a round may end: at its end, by a return, or by a jump. -/
def rowPost (B : Nat) (Kp : World → World → Prop) (I : List α → World → Prop) (Ix : Code → List α → World → Prop) (xs : List α) (W : World) : Exit → Act → World → Prop
  | .normal, _, W' => KeepsFrom B W W' ∧ Kp W W' ∧ I xs W'
  | .ret, _, W' => KeepsFrom B W W' ∧ Kp W W' ∧ Ix .ret xs W'
  | .exit id, _, W' => KeepsFrom B W W' ∧ Kp W W' ∧ Ix (.exit id) xs W'
  | _, _, _ => False
theorem range_row {g : Operand} {ps : Array Tmp} {assign body : Code} {Q : Exit → Act → World → Prop} {a : Act} {w : World}
    (hro : F.round = none) (h1 : 1 ≤ n) {gf : Nat} {lb : Array Value} (hg : a.eval g = .func (.func gf) #[] lb) (hFg : F.fn gf) (eg : ∀ args w, (callFunc gf args).run P w = .ok (.enter gf args) w)
    {encs : α → Array Value} {A : α → World → Prop} {Kp : World → World → Prop} {S Sp : List α → Prop} {w0 : World} (hseq : SeqRow F (n - 1) P gf lb encs A Kp S Sp w0)
    (hKt : ∀ {C D Z : World}, Kp C D → Kp D Z → Kp C Z) (hKb : ∀ (W : World) (o' : Obj), w.heap.size + 1 < W.heap.size → Kp W (W.putObj (w.heap.size + 1) o')) (hb0 : Below w0.heap.size w0 w) (hps : ∀ x, (encs x).size = ps.size)
    (hA : ∀ x, OwnFrom w.heap.size (fun (_ : Unit) W => A x W))
    (I : List α → World → Prop) (Ix : Code → List α → World → Prop) (hI : OwnFrom w.heap.size I) (hIx : ∀ c, OwnFrom w.heap.size (Ix c)) (h0 : I [] w) (a1 : α → Act)
    (hassign : ∀ (l : Nat) (x : α) (W : World) (K : Act → World → Prop), K (a1 x) W →
      assign.wpIn (F.inRound l) (n - 1 - 1) P (Exit.then K (fun _ _ _ => False)) { tmps := (ps.zip (encs x)).foldl (fun t (p, v) => t.setIfInBounds p v) a.tmps, defers := [] } W)
    (hbody : ∀ (l : Nat) (pre : List α) (x : α) (W : World), I pre W → A x W → body.wpIn (F.inRound l) (n - 1 - 1) P (rowPost w.heap.size Kp I Ix (pre ++ [x]) W) (a1 x) W)
    (hdone : ∀ (D : Nat) (xs : List α) (W : World), w.heap.size ≤ D → S xs → I xs W → W.heap[D]? = some (.deferred (some [])) → Q .normal { a with defers := { target := .collected D, args := #[] } :: a.defers } W)
    (hstop : ∀ (D : Nat) (c : Code) (pre : List α) (W : World), w.heap.size ≤ D → Sp pre → Ix c pre W → W.heap[D]? = some (.deferred (some [])) → c.wpIn F n P Q { a with defers := { target := .collected D, args := #[] } :: a.defers } W) :
    (Code.rangeFunc g ps assign body).wpIn F n P Q a w := by
  refine wpIn_rangeFunc fun fn hfn => ?_
  rw [hro]
  let rec_ : LoopState → Option Code → Loop := fun st pe => { state := st, pending := pe, fn, tmps := a.tmps, params := ps, assign, body, defers := w.heap.size }
  generalize hU : (w.alloc (.deferred (some []))).alloc (.loop (rec_ .ready none)) = U
  have uL : U.heap[w.heap.size + 1]? = some (.loop (rec_ .ready none)) := by
    have := World.alloc_heap_new (w.alloc (.deferred (some []))) (.loop (rec_ .ready none))
    rw [World.size_alloc, hU] at this
    exact this
  have uD : U.heap[w.heap.size]? = some (.deferred (some [])) := by
    rw [← hU]
    exact (Below.heap_alloc _ _ _ (by simp)).trans (World.alloc_heap_new w _)
  have uB : Below w0.heap.size w0 U := by
    rw [← hU]
    exact hb0.trans ((((Below.refl _ w).alloc (Nat.le_refl _) _).alloc (by simp) _).mono hb0.size)
  have uI : I [] U := by rw [← hU]; exact hI.alloc _ (hI.alloc _ h0)
  refine ⟨w.heap.size + 1, [{ target := .collected w.heap.size, args := #[] }], U, { target := .fn (.func gf) lb, args := #[.func (.yield (w.heap.size + 1)) #[] #[]] }, U, gf,
    #[.func (.yield (w.heap.size + 1)) #[] #[]] ++ lb, U, by rw [← hU]; exact run_enterLoop_outer _ _ _ _ _, by simp only [resolve, hg]; simp [go_sem], fun f' hf' => by simp [Target.leads] at hf'; subst hf'; exact hFg, by simp [invoke, go_sem, eg], fun _ => h1, ?_⟩
  let Book : Loop → World → Prop := fun r W => W.heap[w.heap.size + 1]? = some (.loop r) ∧ W.heap[w.heap.size]? = some (.deferred (some []))
  have bookGrow : ∀ {r : Loop} {C D : World}, C.grownBy D none → Book r C → Book r D := fun hgr ⟨k1, k2⟩ =>
    ⟨(hgr.block _ (Array.getElem?_eq_some_iff.1 k1).1 (fun e => by cases e)).trans k1, (hgr.block _ (Array.getElem?_eq_some_iff.1 k2).1 (fun e => by cases e)).trans k2⟩
  have bookPut : ∀ {r r' : Loop} {C : World}, Book r C → Book r' (C.putObj (w.heap.size + 1) (.loop r')) := fun ⟨k1, k2⟩ =>
    ⟨World.putObj_heap_same (Array.getElem?_eq_some_iff.1 k1).1, (World.putObj_heap_other (by omega)).trans k2⟩
  have bookKeep : ∀ {r : Loop} {C D : World}, KeepsFrom w.heap.size C D → Book r C → Book r D := fun hk ⟨k1, k2⟩ =>
    ⟨hk.same _ _ (by omega) k1 rfl, hk.same _ _ (Nat.le_refl _) k2 rfl⟩
  refine (hseq (w.heap.size + 1) (fun pre W => I pre W ∧ Book (rec_ .ready none) W) (fun pre W => ∃ c, Ix c pre W ∧ Book (rec_ .done (some c)) W) U uB
    (by rw [← hU]; simp; have := hb0.size; omega)
    (fun s C D hs hgr => ⟨hI s C D none hs.1 hgr (fun r e => by cases e), bookGrow hgr hs.2⟩)
    (fun s C D hs hgr => by obtain ⟨c, k1, k2⟩ := hs; exact ⟨c, hIx c s C D none k1 hgr (fun r e => by cases e), bookGrow hgr k2⟩) ?round ⟨uI, uL, uD⟩).mono ?behind
  case round =>
    rintro pre x W ⟨hi, hbk⟩ hax
    refine ⟨fn, _, assign, body, run_yield (P := P) (args := encs x) hbk.1 (hps x), roundIn_of_wpIn hfn (hassign _ x W _ ⟨_, run_beginRound hbk.1 rfl, ?_⟩)⟩
    have hbusy : Book { rec_ .ready none with state := .busy } (W.putObj (w.heap.size + 1) (.loop { rec_ .ready none with state := .busy })) := bookPut hbk
    have hk0 : Kp W (W.putObj (w.heap.size + 1) (.loop { rec_ .ready none with state := .busy })) := hKb _ _ (Array.getElem?_eq_some_iff.1 hbk.1).1
    refine wpIn_mono (hbody _ pre x _ (hI.putObj _ hi (by omega) hbk.1 rfl) ((hA x).putObj (s := ()) _ hax (by omega) hbk.1 rfl)) ?_
    rintro e a3 W3 hp
    cases e with
    | normal =>
      obtain ⟨k1, k2, k3⟩ := hp
      have b3 := bookKeep k1 hbusy
      exact ⟨_, _, run_endRound (P := P) none b3.1, .inl ⟨rfl, ⟨hI.putObj _ k3 (by omega) b3.1 rfl, bookPut b3⟩, hKt (hKt hk0 k2) (hKb _ _ (Array.getElem?_eq_some_iff.1 b3.1).1)⟩⟩
    | ret =>
      obtain ⟨k1, k2, k3⟩ := hp
      have b3 := bookKeep k1 hbusy
      exact ⟨_, _, run_endRound (P := P) (some .ret) b3.1, .inr ⟨rfl, ⟨.ret, (hIx _).putObj _ k3 (by omega) b3.1 rfl, bookPut b3⟩, hKt (hKt hk0 k2) (hKb _ _ (Array.getElem?_eq_some_iff.1 b3.1).1)⟩⟩
    | exit id =>
      obtain ⟨k1, k2, k3⟩ := hp
      have b3 := bookKeep k1 hbusy
      exact ⟨_, _, run_endRound (P := P) (some (.exit id)) b3.1, .inr ⟨rfl, ⟨.exit id, (hIx _).putObj _ k3 (by omega) b3.1 rfl, bookPut b3⟩, hKt (hKt hk0 k2) (hKb _ _ (Array.getElem?_eq_some_iff.1 b3.1).1)⟩⟩
    | goto t => exact hp.elim
    | panic c => exact hp.elim
    | outgrown => exact hp.elim
  case behind =>
    rintro e W2 ⟨⟨v, rfl⟩, (⟨xs, hS, hi, hbk⟩ | ⟨pre, hSp, c, hi, hbk⟩)⟩
    · exact ⟨none, _, run_endLoop (P := P) hbk.1 (by simp [rec_]), hdone _ xs _ (Nat.le_refl _) hS (hI.putObj _ hi (by omega) hbk.1 rfl) ((World.putObj_heap_other (by omega)).trans hbk.2)⟩
    · exact ⟨some c, _, run_endLoop (P := P) hbk.1 (by simp [rec_]), hstop _ c pre _ (Nat.le_refl _) hSp ((hIx _).putObj _ hi (by omega) hbk.1 rfl) ((World.putObj_heap_other (by omega)).trans hbk.2)⟩
end
end Go.Proofs.YtafnebfchhmgcaaGreat
