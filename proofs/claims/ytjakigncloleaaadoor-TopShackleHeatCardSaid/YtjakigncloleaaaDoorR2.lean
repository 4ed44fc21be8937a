/- A region that draws its order: operations that only read, and calls that lay new blocks, may be taken first, ahead of allocs and stores into new memory. -/
import Derived.Test.YtjakigncloleaaaDoorR
namespace Go.Proofs.YtjakigncloleaaaDoor
open Go Go.RowKit Go.Sort
/-- Apart from the blocks X, all that was there in w is as it was. -/
structure Ex (X : List Nat) (w w' : World) : Prop where
  os : w'.os = w.os
  tape : w'.tape = w.tape
  output : w'.output = w.output
  size : w.heap.size ≤ w'.heap.size
  block : ∀ k, k < w.heap.size → k ∉ X → w'.heap[k]? = w.heap[k]?
theorem Ex.refl (X : List Nat) (w : World) : Ex X w w := ⟨rfl, rfl, rfl, Nat.le_refl _, fun _ _ _ => rfl⟩
theorem Ex.grown {X : List Nat} {a b c : World} (h : Ex X a b) (k : Below b.heap.size b c) : Ex X a c :=
  ⟨k.os.trans h.os, k.tape.trans h.tape, k.output.trans h.output, Nat.le_trans h.size k.size, fun i hi hn => (k.block i (Nat.lt_of_lt_of_le hi h.size)).trans (h.block i hi hn)⟩
theorem Ex.alloc {X : List Nat} {a b : World} (h : Ex X a b) (o : Obj) : Ex X a (b.alloc o) := h.grown ((Below.refl _ _).alloc (Nat.le_refl _) o)
theorem Ex.set_in {X : List Nat} {a b : World} {p : Addr} (hp : p.block ∈ X ∨ a.heap.size ≤ p.block) (h : Ex X a b) (u : Value) : Ex X a (b.setCell p u) :=
  ⟨h.os, h.tape, h.output, by simpa [World.setCell] using h.size, fun i hi hn => (Below.heap_setCell b p u i (by
    rintro rfl
    rcases hp with hp | hp
    · exact hn hp
    · omega)).trans (h.block i hi hn)⟩
theorem Ex.step {X : List Nat} {s a c : World} (hb : Below a.heap.size a c) (h : Ex X s a) : Ex X s c := h.grown hb
theorem ifs_ex {X : List Nat} {W w1 : World} (hb : Ex X W w1) : (∀ b o, w1.cell? ⟨b, o, none⟩ = if b < W.heap.size ∧ b ∉ X then W.cell? ⟨b, o, none⟩ else farC w1 b o) := by
  intro b o
  split
  · rename_i h; exact World.cell?_of_block (w := W) (hb.block b h.1 h.2)
  · rfl
section
variable {P : Program} {ops : Array Oper} {md : Region.Mode} {Q : Exit → Act → World → Prop} {w0 : World} {X : List Nat}

/-- In every world that has grown out of w0 the operation yields v; a call leaves a world that has grown out of the one that it got. -/
def YieldsB (P : Program) (ops : Array Oper) (X : List Nat) (w0 : World) (o : Oper) (v : Value) (a : Act) : Prop :=
  (Region.wanted o (yielded ops a.tmps) = true ∧ ∀ w, Ex X w0 w → Oper.quietUpon P (fun w'' => Below w.heap.size w w'') w v ((execOp a.eval o).run P w)) ∨
  (Region.wanted o (yielded ops a.tmps) = false ∧ v = undef)

theorem YieldsB.of_same {o : Oper} {v : Value} {a a' : Act} (hy : YieldsB P ops X w0 o v a) (he : execOp a'.eval o = execOp a.eval o)
    (hw : Region.wanted o (yielded ops a'.tmps) = Region.wanted o (yielded ops a.tmps)) : YieldsB P ops X w0 o v a' := by
  unfold YieldsB at *
  rw [he, hw]
  exact hy

theorem YieldsB.wpOp {i : Nat} {o : Oper} {v : Value} {a : Act} (hi : ops[i]? = some o) (hy : YieldsB P ops X w0 o v a) {K : Act → World → Prop} {w : World} (hB : Ex X w0 w)
    (h : ∀ w', Below w.heap.size w w' → K (a.put o.dst v) w') : wpOp P ops Q i K a w := by
  unfold Go.wpOp
  simp only [hi]
  rcases hy with ⟨hw, hv⟩ | ⟨hw, rfl⟩
  · simp only [hw, if_true]
    refine .inl ?_
    have h3 := hv w hB
    unfold Oper.wp
    generalize (execOp a.eval o).run P w = r at *
    cases r with
    | ok n w' =>
      cases n <;> simp only [Oper.quietUpon] at h3 <;> simp only [Oper.upon]
      case value u =>
        obtain ⟨e1, e2⟩ := h3
        rw [e1, e2]
        exact h _ (Below.refl _ _)
      case skip =>
        obtain ⟨e1, e2⟩ := h3
        rw [e1, ← e2]
        exact h _ (Below.refl _ _)
      case enter f args =>
        obtain ⟨e1, hc⟩ := h3
        rw [e1]
        exact hc.mono fun e w'' ⟨he, hw''⟩ => by subst he; exact h _ hw''
    | halt x w' => simp only [Oper.quietUpon] at h3
  · simp only [hw, Bool.false_eq_true, if_false]; exact h _ (Below.refl _ _)

/-- One operation 'oj', apart from the quiet 'oi'. -/
theorem wpOp_putB {j : Nat} {oi oj : Oper} {v : Value} (hj : ops[j]? = some oj) (hap : oi.apart ops oj = true)
    (hsi : ∀ cs b, oi.op ≠ .select cs b) (hsj : ∀ cs b, oj.op ≠ .select cs b)
    (hQ : ∀ c a w, Q (.panic c) (a.put oi.dst v) w → Q (.panic c) a w) {K : Act → World → Prop} {a : Act} {w : World}
    (hy : YieldsB P ops X w0 oi v a) (h : wpOp P ops Q j K (a.put oi.dst v) w) :
    wpOp P ops Q j (fun a' w' => YieldsB P ops X w0 oi v a' ∧ K (a'.put oi.dst v) w') a w := by
  obtain ⟨h1, h2, h3⟩ := Oper.apart_spec hap
  have keep : ∀ (a : Act), YieldsB P ops X w0 oi v a → ∀ u, YieldsB P ops X w0 oi v (a.put oj.dst u) := fun a hy u =>
    hy.of_same (execOp_put oi hsi a oj.dst u h3) (wanted_put oi a oj.dst u h3)
  have keepD : ∀ d, YieldsB P ops X w0 oi v { a with defers := d :: a.defers } := fun d => hy.of_same rfl rfl
  unfold wpOp at *
  simp only [hj] at *
  rw [wanted_put oj a oi.dst v h1] at h
  split
  · rename_i hw
    simp only [hw, if_true] at h
    rcases h with h | ⟨hasks, hlets⟩
    case inr => exact .inr ⟨by unfold Oper.asks at *; rw [execOp_put oj hsj a oi.dst v h1] at hasks; exact hasks, hlets⟩
    refine .inl ?_
    unfold Oper.wp at *
    rw [execOp_put oj hsj a oi.dst v h1] at h
    generalize (execOp a.eval oj).run P w = r at *
    cases r with
    | ok n w' =>
      cases n <;> simp only [Oper.upon] at h ⊢
      case value u => exact ⟨keep a hy u, by rw [← Act.put_comm a v u h2]; exact h⟩
      case skip => exact ⟨keep a hy _, by rw [← Act.put_comm a v undef h2]; exact h⟩
      case defer d =>
        refine ⟨keep _ (keepD d) _, ?_⟩
        rw [← Act.put_comm _ v undef h2, ← Act.put_defers]
        exact h
      case enter f args =>
        refine Calls.mono h fun e w'' he => ?_
        cases e with
        | returned u => exact ⟨keep a hy u, by rw [← Act.put_comm a v u h2]; exact he⟩
        | panicked c => exact hQ _ _ _ he
        | outgrown => exact he
      case row row args => exact Rows.mono h fun u w'' he => ⟨keep a hy u, by rw [← Act.put_comm a v u h2]; exact he⟩
    | halt x w' =>
      cases x <;> simp only [Oper.upon] at h ⊢
      case panic u => exact hQ _ _ _ h
  · rename_i hw
    simp only [hw] at h
    exact ⟨keep a hy _, by rw [← Act.put_comm a v undef h2]; exact h⟩

/-- Whatever order is picked from here on, in every world that has grown out of w1; behind each operation the world has grown out of w0. -/
def anyB (P : Program) (md : Region.Mode) (ops : Array Oper) (Q : Exit → Act → World → Prop) (X : List Nat) (w0 : World) : Nat → Array Bool → Act → World → Prop
  | 0, listed, a, w1 => Region.ready md ops listed = [] ∧ ∀ w, Below w1.heap.size w1 w → Q .normal a w
  | fuel + 1, listed, a, w1 =>
    (Region.ready md ops listed = [] → ∀ w, Below w1.heap.size w1 w → Q .normal a w) ∧
    ∀ i ∈ Region.ready md ops listed, ∀ w, Below w1.heap.size w1 w → wpOp P ops Q i (fun a' w' => Ex X w0 w' ∧ anyB P md ops Q X w0 fuel (listed.setIfInBounds i true) a' w') a w

theorem below_trans {a b c : World} (h : Below a.heap.size a b) (k : Below b.heap.size b c) : Below a.heap.size a c := h.trans (k.mono h.size)

theorem any_of_B : ∀ (fuel : Nat) (listed : Array Bool) (a : Act) (w : World), anyB P md ops Q X w0 fuel listed a w → wpAny P md ops Q fuel listed a w
  | 0, _, _, _, h => ⟨h.1, h.2 _ (Below.refl _ _)⟩
  | fuel + 1, _, _, _, h => ⟨fun h0 => h.1 h0 _ (Below.refl _ _), fun i hi => wpOp_mono (fun a' w' h' => any_of_B fuel _ a' w' h'.2) (h.2 i hi _ (Below.refl _ _))⟩

theorem anyB_grown {fuel : Nat} {listed : Array Bool} {a : Act} {w1 w2 : World} (hb : Below w1.heap.size w1 w2) (h : anyB P md ops Q X w0 fuel listed a w1) : anyB P md ops Q X w0 fuel listed a w2 := by
  cases fuel with
  | zero => exact ⟨h.1, fun w hw => h.2 w (below_trans hb hw)⟩
  | succ f => exact ⟨fun h0 w hw => h.1 h0 w (below_trans hb hw), fun i hi w hw => h.2 i hi w (below_trans hb hw)⟩

theorem anyB_first {i : Nat} {oi : Oper} {v : Value} (hi : ops[i]? = some oi) (hsel : ∀ (j : Nat) (o : Oper) cs b, ops[j]? = some o → o.op ≠ .select cs b)
    (hQ : ∀ c a w, Q (.panic c) (a.put oi.dst v) w → Q (.panic c) a w) :
    ∀ (fuel : Nat) (listed : Array Bool) (a : Act) (w1 : World),
      (∀ j oj, ops[j]? = some oj → j ≠ i → listed.getD j true = false → (∀ e ∈ oj.after, Region.binds md e = true → e.on ≠ i) → oi.apart ops oj = true) →
      i ∈ Region.ready md ops listed → YieldsB P ops X w0 oi v a → Ex X w0 w1 →
      anyB P md ops Q X w0 fuel (listed.setIfInBounds i true) (a.put oi.dst v) w1 → anyB P md ops Q X w0 (fuel + 1) listed a w1 := by
  intro fuel
  induction fuel with
  | zero =>
    intro listed a w1 _ hr hy hB H
    refine ⟨fun h => (by rw [h] at hr; cases hr), fun j hj w hw => ?_⟩
    by_cases hji : j = i
    · subst hji; exact hy.wpOp hi (hB.grown hw) fun w' hw' => ⟨(hB.grown hw).grown hw', anyB_grown (below_trans hw hw') H⟩
    · have := ready_mono hj hji
      rw [H.1] at this
      cases this
  | succ fuel ih =>
    intro listed a w1 hfree hr hy hB H
    refine ⟨fun h => (by rw [h] at hr; cases hr), fun j hj w hw => ?_⟩
    by_cases hji : j = i
    · subst hji; exact hy.wpOp hi (hB.grown hw) fun w' hw' => ⟨(hB.grown hw).grown hw', anyB_grown (below_trans hw hw') H⟩
    · have h1 := H.2 j (ready_mono hj hji) w hw
      obtain ⟨hjun, oj, hoj, hall⟩ := mem_ready.1 hj
      have hnot : ∀ e ∈ oj.after, Region.binds md e = true → e.on ≠ i := fun e he hb heq => by
        have h1 := hall e he hb
        have h0 := (mem_ready.1 hr).1
        rw [heq] at h1
        rcases Nat.lt_or_ge i listed.size with h' | h'
        · simp [h'] at h0 h1; rw [h0] at h1; cases h1
        · simp [Array.getElem?_eq_none h'] at h1
      have h2 := wpOp_putB hoj (hfree j oj hoj hji hjun hnot) (fun cs b => hsel i oi cs b hi) (fun cs b => hsel j oj cs b hoj) hQ hy h1
      have hfree' : ∀ k ok, ops[k]? = some ok → k ≠ i → (listed.setIfInBounds j true).getD k true = false →
          (∀ e ∈ ok.after, Region.binds md e = true → e.on ≠ i) → oi.apart ops ok = true := fun k ok hk hki hun hno => by
        refine hfree k ok hk hki ?_ hno
        by_cases hjk : j = k
        · subst hjk; exact hjun
        · rw [getD_set_ne true hjk] at hun; exact hun
      refine wpOp_mono (fun a' w' h3 => ⟨h3.2.1, ih (listed.setIfInBounds j true) a' w' hfree' (ready_mono hr (Ne.symm hji)) h3.1 h3.2.1 ?_⟩) h2
      rw [Array.setIfInBounds_comm _ _ hji]
      exact h3.2.2

/-- 'Below' from the end of the heap on, closed to simp. -/
def Grew (w w' : World) : Prop := Below w.heap.size w w'
/-- The quiet operations of a list, one after the other. -/
def quietL (P : Program) (ops : Array Oper) (X : List Nat) (w0 : World) (K : Act → Prop) : List Oper → Act → Prop
  | [], a => K a
  | o :: rest, a =>
    if Region.wanted o (yielded ops a.tmps) then ∃ v, (∀ w, Ex X w0 w → Oper.quietUpon P (Grew w) w v ((execOp a.eval o).run P w)) ∧ quietL P ops X w0 K rest (a.put o.dst v)
    else quietL P ops X w0 K rest (a.put o.dst undef)
theorem quietL_nil {K : Act → Prop} {a : Act} (h : K a) : quietL P ops X w0 K [] a := h
theorem quietL_plain {K : Act → Prop} {a : Act} {o : Oper} {rest : List Oper} (hg : o.guard = none)
    (h : ∀ K' : Act → Prop, (∀ a, quietL P ops X w0 K rest a → K' a) → ∃ v, (∀ w, Ex X w0 w → Oper.quietUpon P (Grew w) w v ((execOp a.eval o).run P w)) ∧ K' (a.put o.dst v)) : quietL P ops X w0 K (o :: rest) a := by
  unfold quietL
  rw [if_pos (by simp [Region.wanted, hg])]
  exact h _ (fun _ h => h)
def okB (md : Region.Mode) (ops : Array Oper) : List Nat → Array Bool → Bool
  | [], _ => true
  | i :: is, listed => (Region.ready md ops listed).contains i && Region.free md ops listed i && okB md ops is (listed.setIfInBounds i true)
def setB : List Nat → Array Bool → Array Bool
  | [], listed => listed
  | i :: is, listed => setB is (listed.setIfInBounds i true)
def pickB (ops : Array Oper) (is : List Nat) : List Oper := is.filterMap fun i => ops[i]?
theorem anyB_quiet (hsel : Region.noSelect ops = true) (hQ : ∀ d v c a w, Q (.panic c) (Act.put a d v) w → Q (.panic c) a w) (fuel : Nat) : ∀ (is : List Nat) (listed : Array Bool) (a : Act), okB md ops is listed = true → (∀ i ∈ is, i < ops.size) →
    quietL P ops X w0 (fun a' => anyB P md ops Q X w0 fuel (setB is listed) a' w0) (pickB ops is) a → anyB P md ops Q X w0 (is.length + fuel) listed a w0
  | [], listed, a, _, _, h => by rw [List.length_nil, Nat.zero_add]; exact h
  | i :: is, listed, a, hok, hlt, h => by
    obtain ⟨oi, hi⟩ : ∃ oi, ops[i]? = some oi := ⟨_, Array.getElem?_eq_getElem (hlt i List.mem_cons_self)⟩
    simp only [okB, Bool.and_eq_true] at hok
    obtain ⟨⟨hr, hf⟩, hok'⟩ := hok
    have e : pickB ops (i :: is) = oi :: pickB ops is := by simp [pickB, hi]
    rw [e] at h
    rw [List.length_cons, show is.length + 1 + fuel = (is.length + fuel) + 1 by omega]
    unfold quietL at h
    by_cases hw : Region.wanted oi (yielded ops a.tmps) = true
    · rw [if_pos hw] at h
      obtain ⟨v, hv, hn⟩ := h
      refine anyB_first hi (Region.noSelect_spec hsel) (fun c a w hh => hQ _ _ c a w hh) _ listed a w0 (Region.free_spec hi hf) (by simpa using hr) (.inl ⟨hw, hv⟩) (Ex.refl _ _) (anyB_quiet hsel hQ fuel is _ _ hok' (fun j hj => hlt j (List.mem_cons_of_mem _ hj)) hn)
    · rw [if_neg hw] at h
      exact anyB_first hi (Region.noSelect_spec hsel) (fun c a w hh => hQ _ _ c a w hh) _ listed a w0 (Region.free_spec hi hf) (by simpa using hr) (.inr ⟨by simpa using hw, rfl⟩) (Ex.refl _ _) (anyB_quiet hsel hQ fuel is _ _ hok' (fun j hj => hlt j (List.mem_cons_of_mem _ hj)) h)
/-- **The region**: the quiet operations 'is' first; then the others. -/
theorem wp_region_B {id : Nat} {a : Act} {l : List Oper} (is : List Nat) (fuel : Nat) (hm : P.follows .mixedOrders = true) (hfu : is.length + fuel = l.length) (hsel : Region.noSelect l.toArray = true) (hok : okB .any l.toArray is (Array.replicate l.length false) = true) (hlt : is.all (fun i => decide (i < l.length)) = true)
    (hQ : ∀ d v c a w, Q (.panic c) (Act.put a d v) w → Q (.panic c) a w)
    (h : quietL P l.toArray X w0 (fun a' => anyB P .any l.toArray Q X w0 fuel (setB is (Array.replicate l.length false)) a' w0) (pickB l.toArray is) a) : (Code.region id l.toArray true).wp P Q a w0 := by
  have H := anyB_quiet (md := .any) hsel hQ fuel is _ a hok (fun i hi => by simpa using List.all_eq_true.1 hlt i hi) h
  rw [hfu] at H
  have hb : Below w0.heap.size w0 { w0 with drawn := w0.drawn + 1 } := ⟨rfl, rfl, rfl, Nat.le_refl _, fun _ _ => rfl⟩
  refine wp_region_any hm ?_
  have := any_of_B _ _ _ _ (anyB_grown hb H)
  simpa using this
/-- Nothing panics in the region: its post at a panic may be taken for False. -/
def Calm (Q : Exit → Act → World → Prop) : Exit → Act → World → Prop
  | .panic _, _, _ => False
  | e, a, w => Q e a w
theorem wp_region_calm (X : List Nat) {id : Nat} {a : Act} {l : List Oper} (is : List Nat) (fuel : Nat) (hm : P.follows .mixedOrders = true) (hfu : is.length + fuel = l.length) (hsel : Region.noSelect l.toArray = true) (hok : okB .any l.toArray is (Array.replicate l.length false) = true) (hlt : is.all (fun i => decide (i < l.length)) = true)
    (h : quietL P l.toArray X w0 (fun a' => anyB P .any l.toArray (Calm Q) X w0 fuel (setB is (Array.replicate l.length false)) a' w0) (pickB l.toArray is) a) : (Code.region id l.toArray true).wp P Q a w0 :=
  Code.wp_mono (fun e a w hh => by cases e <;> first | exact hh | exact False.elim hh) (wp_region_B (Q := Calm Q) (X := X) is fuel hm hfu hsel hok hlt (fun _ _ _ _ _ h => h) h)
/-- One operation is ready: it is carried out, in whatever world has grown out of w1. -/
theorem anyB_one {fuel i : Nat} {listed : Array Bool} {a : Act} {w1 : World} {o : Oper} (hr : Region.ready md ops listed = [i]) (ho : ops[i]? = some o) (hg : o.guard = none)
    (h : ∀ w, Below w1.heap.size w1 w → ∀ K : Act → World → Prop, (∀ a' w', (Ex X w0 w' ∧ anyB P md ops Q X w0 fuel (listed.setIfInBounds i true) a' w') → K a' w') → o.wp P a w K Q) : anyB P md ops Q X w0 (fuel + 1) listed a w1 := by
  refine ⟨fun h0 => (by rw [hr] at h0; cases h0), fun j hj w hw => ?_⟩
  rw [hr] at hj
  obtain rfl : j = i := by simpa using hj
  unfold wpOp
  simp only [ho, Region.wanted, hg, if_true]
  exact .inl (h w hw _ (fun _ _ hh => hh))
/-- Two are ready: each may come first. -/
theorem anyB_two {fuel i j : Nat} {listed : Array Bool} {a : Act} {w1 : World} {o o' : Oper} (hr : Region.ready md ops listed = [i, j]) (ho : ops[i]? = some o) (hg : o.guard = none) (ho' : ops[j]? = some o') (hg' : o'.guard = none)
    (h : ∀ w, Below w1.heap.size w1 w → ∀ K : Act → World → Prop, (∀ a' w', (Ex X w0 w' ∧ anyB P md ops Q X w0 fuel (listed.setIfInBounds i true) a' w') → K a' w') → o.wp P a w K Q)
    (h' : ∀ w, Below w1.heap.size w1 w → ∀ K : Act → World → Prop, (∀ a' w', (Ex X w0 w' ∧ anyB P md ops Q X w0 fuel (listed.setIfInBounds j true) a' w') → K a' w') → o'.wp P a w K Q) : anyB P md ops Q X w0 (fuel + 1) listed a w1 := by
  refine ⟨fun h0 => (by rw [hr] at h0; cases h0), fun k hk w hw => ?_⟩
  rw [hr] at hk
  simp only [List.mem_cons, List.not_mem_nil, or_false] at hk
  unfold wpOp
  rcases hk with rfl | rfl
  · simp only [ho, Region.wanted, hg, if_true]
    exact .inl (h w hw _ (fun _ _ hh => hh))
  · simp only [ho', Region.wanted, hg', if_true]
    exact .inl (h' w hw _ (fun _ _ hh => hh))
theorem anyB_end {fuel : Nat} {listed : Array Bool} {a : Act} {w1 : World} (hr : Region.ready md ops listed = []) (h : ∀ w, Below w1.heap.size w1 w → Q .normal a w) : anyB P md ops Q X w0 fuel listed a w1 := by
  cases fuel with
  | zero => exact ⟨hr, h⟩
  | succ f => exact ⟨fun _ => h, fun i hi => by rw [hr] at hi; cases hi⟩
end
/-- A callee's contract, in a world that has grown. -/
theorem calls_B {P : Program} {f : FuncId} {args : Array Value} {w : World} {v : Value} (h : Calls P f args w fun e w' => e = .returned v ∧ Below w.heap.size w w') : Calls P f args w fun e w'' => e = .returned v ∧ Grew w w'' := h
end Go.Proofs.YtjakigncloleaaaDoor
