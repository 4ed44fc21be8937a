/- Joined texts: A A2 B1 R R2 R3 R4. -/
import Derived.WalkKit
import Derived.WalkLawsBesides
import Derived.WalkSpells
import Derived.Lib.Hide
import Derived.Deep.AppendLies
import Derived.Deep.Draws
import Derived.Maps.AppendAt
import Derived.Lib.QuietBelow
import Derived.StillTail
import Derived.BigQuiet
/- Words for memory: a slice that reads as a list of cells; a block that is known whole; small facts on integers. -/
namespace Go.Proofs.YtafnebfchhmgcaaGreat
open Go.RowKit

theorem bcell {W w1 : World} (hb : Below W.heap.size W w1) : (∀ b o, b < W.heap.size → w1.cell? ⟨b, o, none⟩ = W.cell? ⟨b, o, none⟩) ∧ (∀ b o, b < W.heap.size → w1.frozen? ⟨b, o, none⟩ = W.frozen? ⟨b, o, none⟩) :=
  ⟨fun b o h => hb.cell (p := ⟨b, o, none⟩) h, fun b o h => hb.frozen (p := ⟨b, o, none⟩) h⟩
theorem below_step {B B' : Nat} {s a c : World} (hb : Below B' a c) (h : Below B s a) (hB : B ≤ B') : Below B s c := h.trans (hb.mono hB)
theorem w64 (n : Int) (h1 : -9223372036854775808 ≤ n) (h2 : n ≤ 9223372036854775807) : wrap64 n = n := by unfold wrap64; omega

/-- Cells and marks in the form that the walk decides by arithmetic. -/
def farC (w : World) (b o : Nat) : Option Value := w.cell? ⟨b, o, none⟩
def farF (w : World) (b o : Nat) : Bool := w.frozen? ⟨b, o, none⟩
theorem cell_if (w : World) (c : Array Value) (t : TypeId) (n i : Nat) : (w.alloc (.cells c t)).cell? ⟨n, i, none⟩ = if n < w.heap.size then w.cell? ⟨n, i, none⟩ else if n = w.heap.size then c[i]? else farC (w.alloc (.cells c t)) n i := by
  split
  · rename_i h; exact World.cell?_alloc_past _ n i h
  · split
    · rename_i h; exact World.cell?_alloc_at c t n i h
    · rfl
theorem frozen_if (w : World) (c : Array Value) (t : TypeId) (n i : Nat) : (w.alloc (.cells c t)).frozen? ⟨n, i, none⟩ = if n < w.heap.size then w.frozen? ⟨n, i, none⟩ else if n = w.heap.size then false else farF (w.alloc (.cells c t)) n i := by
  split
  · rename_i h; exact World.frozen?_alloc_past _ n i h
  · split
    · rename_i h; exact World.frozen?_alloc_at c t n i h
    · rfl
theorem ifs_of {W w1 : World} (hb : Below W.heap.size W w1) : (∀ b o, w1.cell? ⟨b, o, none⟩ = if b < W.heap.size then W.cell? ⟨b, o, none⟩ else farC w1 b o) ∧ (∀ b o, w1.frozen? ⟨b, o, none⟩ = if b < W.heap.size then W.frozen? ⟨b, o, none⟩ else farF w1 b o) := by
  refine ⟨fun b o => ?_, fun b o => ?_⟩
  · split
    · rename_i h; exact hb.cell (p := ⟨b, o, none⟩) h
    · rfl
  · split
    · rename_i h; exact hb.frozen (p := ⟨b, o, none⟩) h
    · rfl

/-- The slice 'A, n' (elements of 'size' cells) lies below block B and holds the cells xs. -/
def Reads (w : World) (B size : Nat) (A : Option Addr) (n : Nat) (xs : List Value) : Prop :=
  xs.length = n * size ∧ (0 < n → ∃ b o, A = some ⟨b, o, none⟩ ∧ b < B ∧ ∀ j u, xs[j]? = some u → w.cell? ⟨b, o + j, none⟩ = some u)

section
variable {w w' : World} {B B' size n : Nat} {A : Option Addr} {xs : List Value}
theorem Reads.nil_ : Reads w B size A 0 [] := ⟨by simp, fun h => absurd h (by omega)⟩
theorem Reads.at_ {k : Nat} (h : Reads w B 1 A n xs) (hk : k < n) : ∃ b o u, A = some ⟨b, o, none⟩ ∧ b < B ∧ xs[k]? = some u ∧ w.cell? ⟨b, o + k, none⟩ = some u := by
  obtain ⟨b, o, e, hb, hc⟩ := h.2 (by omega)
  have hl : k < xs.length := by have := h.1; omega
  exact ⟨b, o, xs[k], e, hb, List.getElem?_eq_getElem hl, hc k _ (List.getElem?_eq_getElem hl)⟩
theorem Reads.keep (h : Reads w B size A n xs) (hk : ∀ p : Addr, p.block < B → w'.cell? p = w.cell? p) : Reads w' B size A n xs :=
  ⟨h.1, fun hn => by
    obtain ⟨b, o, e, hb, hc⟩ := h.2 hn
    exact ⟨b, o, e, hb, fun j u hu => (hk _ hb).trans (hc j u hu)⟩⟩
theorem Reads.more (h : Reads w B size A n xs) (hB : B ≤ B') : Reads w B' size A n xs :=
  ⟨h.1, fun hn => by
    obtain ⟨b, o, e, hb, hc⟩ := h.2 hn
    exact ⟨b, o, e, by omega, hc⟩⟩
theorem Reads.below (h : Reads w B size A n xs) (hb : Below B w w') : Reads w' B size A n xs := h.keep fun _ hp => hb.cell hp
theorem Reads.alloc (h : Reads w B size A n xs) (hB : B ≤ w.heap.size) (o : Obj) : Reads (w.alloc o) B size A n xs := h.keep fun p hp => World.cell?_alloc_lt w o p (by omega)
theorem Reads.new (w : World) (cs : Array Value) (t : TypeId) (n : Nat) (h : cs.size = n * size) : Reads (w.alloc (.cells cs t)) (w.heap.size + 1) size (some ⟨w.heap.size, 0, none⟩) n cs.toList :=
  ⟨by simpa using h, fun _ => ⟨_, _, rfl, Nat.lt_succ_self _, fun j u hu => by
    have := cell_of_row (w.alloc (.cells cs t)) w.heap.size j cs t (0, 0) (heap_alloc_new w (.cells cs t))
    rw [Nat.zero_add, this]
    simpa using hu⟩⟩
end

/-- A block that is known whole, nothing of it frozen. -/
def Blk (w : World) (g : Nat) (t : TypeId) (cs : Array Value) : Prop := w.heap[g]? = some (.cells cs t (0, 0))
section
variable {w w' : World} {g : Nat} {t : TypeId} {cs : Array Value}
theorem Blk.lt (h : Blk w g t cs) : g < w.heap.size := by
  rcases Nat.lt_or_ge g w.heap.size with hlt | hge
  · exact hlt
  · unfold Blk at h; rw [Array.getElem?_eq_none hge] at h; cases h
theorem Blk.cell (h : Blk w g t cs) (i : Nat) : w.cell? ⟨g, i, none⟩ = cs[i]? := cell_of_row w g i cs t (0, 0) h
theorem Blk.frozen (h : Blk w g t cs) (i : Nat) : w.frozen? ⟨g, i, none⟩ = false := by
  unfold Blk at h
  simp [World.frozen?, h]
theorem Blk.new (w : World) (t : TypeId) (cs : Array Value) : Blk (w.alloc (.cells cs t)) w.heap.size t cs := heap_alloc_new w _
theorem Blk.new_at {w : World} {g : Nat} (t : TypeId) (cs : Array Value) (h : g = w.heap.size) : Blk (w.alloc (.cells cs t)) g t cs := by subst h; exact heap_alloc_new w _
theorem Blk.alloc (h : Blk w g t cs) (o : Obj) : Blk (w.alloc o) g t cs := (Below.heap_alloc w o g h.lt).trans h
theorem Blk.drew (h : Blk w g t cs) : Blk w.drew g t cs := h
theorem Blk.set_ (h : Blk w g t cs) (i : Nat) (u : Value) : Blk (w.setCell ⟨g, i, none⟩ u) g t (cs.setIfInBounds i u) := by
  unfold Blk at h ⊢
  simp [World.setCell, Array.getElem?_modify, h]
theorem Blk.far (h : Blk w g t cs) {p : Addr} (hp : g ≠ p.block) (u : Value) : Blk (w.setCell p u) g t cs := (Below.heap_setCell w p u g hp).trans h
theorem Blk.below {B : Nat} (h : Blk w g t cs) (hb : Below B w w') (hg : g < B) : Blk w' g t cs := (hb.block g hg).trans h
theorem Blk.grown {row : Option Nat} (h : Blk w g t cs) (hb : w.grownBy w' row) (hg : some g ≠ row) : Blk w' g t cs := (hb.block g h.lt hg).trans h
theorem Blk.kept (h : Blk w g t cs) (hb : Below w.heap.size w w') : Blk w' g t cs := h.below hb h.lt
/-- A block of two cells: what the walk wants of it. -/
theorem Blk.two {a b : Value} (h : Blk w g t #[a, b]) : w.cell? ⟨g, 0, none⟩ = some a ∧ w.cell? ⟨g, 1, none⟩ = some b ∧ w.frozen? ⟨g, 0, none⟩ = false ∧ w.frozen? ⟨g, 1, none⟩ = false :=
  ⟨h.cell 0, h.cell 1, h.frozen 0, h.frozen 1⟩
end
theorem Reads.blk {w : World} {g size n : Nat} {t : TypeId} {cs : Array Value} (h : Blk w g t cs) (hl : cs.size = n * size) : Reads w (g + 1) size (some ⟨g, 0, none⟩) n cs.toList :=
  ⟨by simpa using hl, fun _ => ⟨_, _, rfl, Nat.lt_succ_self _, fun j u hu => by
    rw [Nat.zero_add, h.cell j]
    simpa using hu⟩⟩
/-- '==' on arrays: element by element. -/
def eqElems (d : Nat) (e sz : Nat) (xs ys : Array Value) : List Nat → Sem Bool
  | [] => pure true
  | i :: is => do
    let a ← part e xs (i * sz)
    let b ← part e ys (i * sz)
    let r ← Op.equalIn d e a b
    if (!r) = true then pure false else eqElems d e sz xs ys is
attribute [go_sem] eqElems
section
variable {P : Program} (w : World)
theorem run_equalIn_array (d : Nat) (t e n sz : Nat) (xs ys : Array Value) (ht : P.underlying t = some (.array n e)) (hz : (P.info? e).map (·.size) = some sz) :
    (Op.equalIn (d + 1) t (.agg xs) (.agg ys)).run P w = (eqElems d e sz xs ys (List.range' 0 n)).run P w := by
  obtain ⟨i, hi, rfl⟩ := Option.map_eq_some_iff.1 hz
  simp only [Op.equalIn, Sem.run_bind, run_underlying ht, Result.andThen_ok, sizeOf, typeInfo, run_program, hi, Sem.run_pure]
  rw [Std.Legacy.Range.forIn_eq_forIn_range']
  simp only [Std.Legacy.Range.size, Nat.sub_zero, Nat.add_sub_cancel, Nat.div_one]
  generalize List.range' 0 n = l
  clear ht
  induction l generalizing w with
  | nil => simp [eqElems]
  | cons k l ih =>
    simp only [List.forIn_cons, eqElems, Sem.run_bind, Sem.run_ite]
    generalize (part e xs (k * i.size)).run P w = r1
    cases r1 with
    | ok a w1 =>
      simp only [Result.andThen_ok]
      generalize (part e ys (k * i.size)).run P w1 = r2
      cases r2 with
      | ok b w2 =>
        simp only [Result.andThen_ok]
        generalize (Op.equalIn d e a b).run P w2 = r3
        cases r3 with
        | ok r w3 =>
          cases r
          · simp only [Result.andThen_ok, Bool.not_false, if_true, Sem.run_pure]
          · simp only [Result.andThen_ok, Bool.not_true, Bool.false_eq_true, if_false, Sem.run_pure]
            exact ih w3
        | halt x w3 => simp [Result.andThen]
      | halt x w2 => simp [Result.andThen]
    | halt x w1 => simp [Result.andThen]
end
theorem bl_ {B : Nat} {w w' : World} (h : Below B w w' := by repeat (first | (with_reducible exact Below.refl _ _) | (with_reducible assumption) | ((with_reducible refine Below.alloc ?_ ?_ _); rotate_left; (· first | (simp; done) | (simp; omega) | omega)) | ((with_reducible refine Below.setCell ?_ ?_ _); rotate_left; (· first | (simp; done) | (simp; omega) | omega)) | (with_reducible apply Below.drew) | ((with_reducible apply below_step); (· with_reducible assumption); rotate_left; (· first | (simp; done) | (simp; omega) | omega)))) : Below B w w' := h
end Go.Proofs.YtafnebfchhmgcaaGreat
/- Words for memory, more: rows that the call itself makes. -/
namespace Go.Proofs.YtafnebfchhmgcaaGreat
open Go.RowKit
theorem news_new (w : World) (cs : Array Value) (t : TypeId) : ∀ j u, cs.toList[j]? = some u → (w.alloc (.cells cs t)).cell? ((⟨w.heap.size, 0, none⟩ : Addr).add j) = some u := by
  intro j u hu
  have := cell_of_row (w.alloc (.cells cs t)) w.heap.size j cs t (0, 0) (heap_alloc_new w (.cells cs t))
  rw [Addr.add_lit, Nat.zero_add, this]
  simpa using hu
/-- A row of the call's own: at the head of block g, from 'base' on. -/
def Own (w : World) (base : Nat) (e size g l cap : Nat) (xs : List Value) : Prop := w.ownsRow base e size (.slice (some ⟨g, 0, none⟩) l cap) l xs
section
variable {w w' : World} {base e size g l cap : Nat} {xs : List Value}
theorem Own.len (h : Own w base e size g l cap xs) : xs.length = l * size := h.1
theorem Own.lt (h : Own w base e size g l cap xs) : base ≤ g ∧ g < w.heap.size := by
  rcases h.2 with ⟨h0, _⟩ | ⟨g', cap', cur, hv, hb, hg, _⟩
  · cases h0
  · injection hv with h1
    injection h1 with h1
    injection h1 with h1
    subst h1
    refine ⟨hb, ?_⟩
    rcases Nat.lt_or_ge g w.heap.size with hlt | hge
    · exact hlt
    · rw [Array.getElem?_eq_none hge] at hg; cases hg
theorem Own.reads (h : Own w base e size g l cap xs) : Reads w (g + 1) size (some ⟨g, 0, none⟩) l xs :=
  ⟨h.1, fun _ => ⟨_, _, rfl, Nat.lt_succ_self _, fun j u hu => by
    have := h.cells (g := g) rfl j u hu
    rwa [Addr.add_lit] at this⟩⟩
theorem Own.alloc (h : Own w base e size g l cap xs) (o : Obj) : Own (w.alloc o) base e size g l cap xs := World.ownsRow.alloc h o
theorem Own.drew (h : Own w base e size g l cap xs) : Own w.drew base e size g l cap xs := h
/-- What lies at whole blocks is kept where the block is. -/
theorem Own.kept (h : Own w base e size g l cap xs) (hb : Below w.heap.size w w') : Own w' base e size g l cap xs := by
  obtain ⟨h1, h2⟩ := h
  refine ⟨h1, ?_⟩
  rcases h2 with h2 | ⟨g', cap', cur, hv, hg, hh, r⟩
  · exact Or.inl h2
  · have hlt : g' < w.heap.size := by
      rcases Nat.lt_or_ge g' w.heap.size with hlt | hge
      · exact hlt
      · rw [Array.getElem?_eq_none hge] at hh; cases hh
    exact Or.inr ⟨g', cap', cur, hv, hg, by rw [hb.block g' hlt]; exact hh, r⟩
/-- A new row out of a literal. -/
theorem Own.new (w : World) (base e size l : Nat) (cs : Array Value) (hb : base ≤ w.heap.size) (hl : cs.size = l * size) (hm : l ≤ maxLen) : Own (w.alloc (.cells cs e)) base e size w.heap.size l l cs.toList :=
  ⟨by simpa using hl, Or.inr ⟨w.heap.size, l, cs, rfl, hb, heap_alloc_new w _, Nat.le_refl _, hm, hl, by rw [List.take_of_length_le]; simp [hl]⟩⟩
/-- A slice value of the call's own, nil or not, reads. -/
theorem own_form {v : Value} {n : Nat} (h : w.ownsRow base e size v n xs) : ∃ A cap, v = .slice A n cap ∧ n ≤ cap ∧ cap ≤ maxLen ∧ Reads w w.heap.size size A n xs := by
  rcases h.2 with ⟨rfl, rfl⟩ | ⟨g, cap, cur, rfl, hb, hg, hn, hc, _⟩
  · exact ⟨none, 0, rfl, Nat.le_refl _, Nat.zero_le _, h.1, fun hn => absurd hn (by omega)⟩
  · have h' : Own w base e size g n cap xs := h
    exact ⟨_, _, rfl, hn, hc, h'.reads.more h'.lt.2⟩
theorem own_kept {v : Value} {n : Nat} (h : w.ownsRow base e size v n xs) (hb : Below w.heap.size w w') : w'.ownsRow base e size v n xs :=
  h.kept (row := none) ⟨hb.os, hb.tape, hb.output, hb.size, fun k hk _ => hb.block k hk⟩ (by
    cases hv : v.ownBlock with
    | none => exact .inl rfl
    | some g => exact .inr (by simp))
end
/-- What the append's law wants to know of a slice type. -/
structure Elem (P : Program) (t e size bytes : Nat) : Prop where
  ht : P.underlying t = some (.slice e)
  ex : ∃ i z, P.info? e = some i ∧ i.zero = some z ∧ i.size = size ∧ i.bytes = bytes ∧ z.cells.size = size
  pos : 0 < size
theorem elem_of {P : Program} {t e size bytes : Nat} {z : Value} (ht : P.underlying t = some (.slice e)) (h : (P.info? e).map (fun i => (i.zero, i.size, i.bytes)) = some (some z, size, bytes)) (hz : z.cells.size = size) (hs : 0 < size) : Elem P t e size bytes := by
  obtain ⟨i, h1, h2, h3, h4⟩ := info_parts h
  exact ⟨ht, ⟨i, z, h1, h2, h3, h4, hz⟩, hs⟩
/-- append of a literal's elements onto a row of the call's own (nil let in). -/
theorem wpList_app {P : Program} {ops : Array Oper} {rest : List Oper} {o : Oper} {a : Act} {Q : Exit → Act → World → Prop} {w0 : World} {cs : Array Value} (t e size bytes : Nat) (E : Elem P t e size bytes) (hgd : o.guard = none) (s x : Operand)
    (ho : o.op = .call { callee := .builtin .append, args := #[s, x], argTypes := #[t, t] }) (base : Nat) (v : Value) (n : Nat) (xs : List Value) (hs : a.eval s = v) (hown : w0.ownsRow base e size v n xs) (m : Nat) (hx : a.eval x = .slice (some ⟨w0.heap.size, 0, none⟩) m m)
    (hl : cs.size = m * size) (h1 : ∀ u ∈ cs.toList, u.oneCell' = true) (hm : 0 < m) (h63 : n + m ≤ maxLen) (hbytes : (n + m) * bytes ≤ 140737488355328) (hbase : base ≤ w0.heap.size)
    (h : ∀ g cap w', w'.ownsRow base e size (.slice (some ⟨g, 0, none⟩) (n + m) cap) (n + m) (xs ++ cs.toList) → Below base w0 w' → (∀ k t' c, Blk w0 k t' c → v.ownBlock ≠ some k → Blk w' k t' c) → w0.heap.size < w'.heap.size → wpList P ops Q rest (a.put o.dst (.slice (some ⟨g, 0, none⟩) (n + m) cap)) w') :
    wpList P ops Q (o :: rest) a (w0.alloc (.cells cs e)) := by
  obtain ⟨ht, ⟨i, z, h1', h2', h3', h4', h5'⟩, hp⟩ := E
  refine wpList_append_lies (w0.alloc (.cells cs e)) hgd s x t ho base e i z size bytes ht h1' h2' h3' h4' h5' hp v n xs hs (hown.alloc _) ⟨w0.heap.size, 0, none⟩ m m cs.toList hx (by simpa using hl) (news_new w0 cs e) h1 hm h63 hbytes (by simp; omega) _ rfl ?_
  intro g cap w' hown' hg _ _
  have hsz : w0.heap.size + 1 ≤ w'.heap.size := by simpa using hg.size
  refine h g cap w' hown' ?_ (fun k t' c hk hne => (hk.alloc _).grown hg (fun e => hne e.symm)) (by omega)
  refine ((Below.refl base w0).alloc hbase _).grown hg (by simp; omega) (fun k hk => (hown.lt k hk).1)
theorem Reads.blk_at {w : World} {g size n off : Nat} {t : TypeId} {cs : Array Value} {pre xs post : List Value} (h : Blk w g t cs) (hcs : cs.toList = pre ++ (xs ++ post)) (ho : pre.length = off) (hl : xs.length = n * size) : Reads w (g + 1) size (some ⟨g, off, none⟩) n xs :=
  ⟨hl, fun _ => ⟨_, _, rfl, Nat.lt_succ_self _, fun j u hu => by
    have hj : j < xs.length := (List.getElem?_eq_some_iff.1 hu).1
    rw [h.cell, ← Array.getElem?_toList, hcs, List.getElem?_append_right (by omega), ho, Nat.add_sub_cancel_left, List.getElem?_append_left hj]
    exact hu⟩⟩
theorem calls_below {P : Program} {f : FuncId} {args : Array Value} {w : World} {v : Value} (h : Calls P f args w fun e w' => e = .returned v ∧ w = w') : Calls P f args w fun e w' => e = .returned v ∧ Below w.heap.size w w' :=
  h.mono fun _ _ ⟨he, hw⟩ => ⟨he, hw ▸ Below.refl _ _⟩
end Go.Proofs.YtafnebfchhmgcaaGreat
/- Kept blocks. -/
namespace Go.Proofs.YtafnebfchhmgcaaGreat
open Go.RowKit
theorem blk_kept {w w' : World} {g : Nat} {t : TypeId} {cs : Array Value} (hb : Below w.heap.size w w') (h : Blk w g t cs) : Blk w' g t cs := h.kept hb
theorem blk_two {w : World} {g : Nat} {t : TypeId} {p q x y : Value} (h : Blk w g t #[p, q]) : Blk ((w.setCell ⟨g, 0, none⟩ x).setCell ⟨g, 1, none⟩ y) g t #[x, y] := (h.set_ 0 x).set_ 1 y
theorem blk_far {w : World} {g : Nat} {t : TypeId} {cs : Array Value} {p : Addr} (hp : g ≠ p.block) (h : Blk w g t cs) (u : Value) : Blk (w.setCell p u) g t cs := h.far hp u
theorem bk_ {w : World} {g : Nat} {t : TypeId} {cs : Array Value} (h : Blk w g t cs := by repeat (first | (with_reducible assumption) | ((with_reducible apply Blk.new_at); (first | (simp; done) | (simp; omega))) | (with_reducible apply Blk.drew) | (with_reducible refine Blk.alloc ?_ _) | (with_reducible apply blk_two) | ((with_reducible refine blk_far ?_ ?_ _); (· first | (simp; done) | (simp; omega) | omega)) | ((with_reducible apply blk_kept); (· with_reducible assumption)))) : Blk w g t cs := h
end Go.Proofs.YtafnebfchhmgcaaGreat
/- A region that draws its order, whose head only reads and calls functions that lay new blocks, and whose tail runs in one order: one walk. Over whatever class of worlds. -/
namespace Go.Proofs.YtafnebfchhmgcaaGreat
open Go Go.RowKit Go.Sort
section
variable {P : Program} {ops : Array Oper} {md : Region.Mode} {C : World → Prop}

/-- Whatever order is picked, while only operations before number n come up; 'L' is asked once f of them have come up. -/
def anyHead (P : Program) (md : Region.Mode) (ops : Array Oper) (C : World → Prop) (n : Nat) (L : Array Bool → Act → Prop) : Nat → Array Bool → Act → Prop
  | 0, listed, a => L listed a
  | f + 1, listed, a => Region.ready md ops listed ≠ [] ∧ ∀ i ∈ Region.ready md ops listed, i < n ∧ qOp P ops C i (anyHead P md ops C n L f (listed.setIfInBounds i true)) a

theorem any_of_head {n g : Nat} {L : Array Bool → Act → Prop} {Q : Exit → Act → World → Prop} (hL : ∀ listed a w, C w → L listed a → wpAny P md ops Q g listed a w) :
    ∀ (f : Nat) (listed : Array Bool) (a : Act) (w : World), C w → anyHead P md ops C n L f listed a → wpAny P md ops Q (f + g) listed a w
  | 0, listed, a, w, hw, h => by rw [Nat.zero_add]; exact hL _ _ _ hw h
  | f + 1, listed, a, w, hw, h => by
    rw [show f + 1 + g = (f + g) + 1 by omega]
    exact ⟨fun h0 => absurd h0 h.1, fun i hi => wpOp_of_qOp hw (fun a' w' hw' h' => any_of_head hL f _ a' w' hw' h') (h.2 i hi).2⟩

theorem head_first {n i : Nat} {oi : Oper} {v : Value} {L : Array Bool → Act → Prop} (hi : ops[i]? = some oi) (hsel : ∀ (j : Nat) (o : Oper) cs b, ops[j]? = some o → o.op ≠ .select cs b)
    (hs : Region.sinkB md ops n = true) (hc : Region.chainB md ops n = true) (hn : n < ops.size) (hin : i < n)
    (hdone : ∀ listed a, L listed a → ∀ j ∈ Region.ready md ops listed, n ≤ j) :
    ∀ (f : Nat) (listed : Array Bool) (a : Act), HeadInv md ops n listed →
      (∀ j oj, ops[j]? = some oj → j ≠ i → listed.getD j true = false → (∀ e ∈ oj.after, Region.binds md e = true → e.on ≠ i) → oi.apart ops oj = true) →
      i ∈ Region.ready md ops listed → YieldsIn P ops C oi v a →
      anyHead P md ops C n L f (listed.setIfInBounds i true) (a.put oi.dst v) → anyHead P md ops C n L (f + 1) listed a := by
  intro f
  induction f with
  | zero =>
    intro listed a inv _ hr hy H
    have hun := (mem_ready.1 hr).1
    refine ⟨fun h => (by rw [h] at hr; cases hr), fun j hj => ?_⟩
    have hjn : j < n := by
      rcases Nat.lt_or_ge j n with h | h
      · exact h
      · exact absurd hj (tail_waits hs hc hn inv _ i rfl hin hun j h)
    refine ⟨hjn, ?_⟩
    by_cases hji : j = i
    · subst hji; exact hy.qOp hi H
    · have := hdone _ _ H j (ready_mono hj hji)
      omega
  | succ f ih =>
    intro listed a inv hfree hr hy H
    have hun := (mem_ready.1 hr).1
    refine ⟨fun h => (by rw [h] at hr; cases hr), fun j hj => ?_⟩
    have hjn : j < n := by
      rcases Nat.lt_or_ge j n with h | h
      · exact h
      · exact absurd hj (tail_waits hs hc hn inv _ i rfl hin hun j h)
    refine ⟨hjn, ?_⟩
    by_cases hji : j = i
    · subst hji; exact hy.qOp hi H
    · have h1 := (H.2 j (ready_mono hj hji)).2
      obtain ⟨hjun, oj, hoj, hall⟩ := mem_ready.1 hj
      have hnot : ∀ e ∈ oj.after, Region.binds md e = true → e.on ≠ i := fun e he hb heq => by
        have h1 := hall e he hb
        rw [heq, getD_both hun] at h1
        cases h1
      have h2 := qOp_put hoj (hfree j oj hoj hji hjun hnot) (fun cs b => hsel i oi cs b hi) (fun cs b => hsel j oj cs b hoj) hy h1
      have hfree' : ∀ k ok, ops[k]? = some ok → k ≠ i → (listed.setIfInBounds j true).getD k true = false →
          (∀ e ∈ ok.after, Region.binds md e = true → e.on ≠ i) → oi.apart ops ok = true := fun k ok hk hki hun hno => by
        refine hfree k ok hk hki ?_ hno
        by_cases hjk : j = k
        · subst hjk; exact hjun
        · rw [getD_set_ne true hjk] at hun; exact hun
      refine qOp_mono (fun a' h3 => ih (listed.setIfInBounds j true) a' (inv.set hj hjn) hfree' (ready_mono hr (Ne.symm hji)) h3.1 ?_) h2
      rw [Array.setIfInBounds_comm _ _ hji]
      exact h3.2

theorem head_lex {n g : Nat} {Lq : Act → Prop} (hsel : Region.noSelect ops = true) (hs : Region.sinkB md ops n = true) (hc : Region.chainB md ops n = true) (hn : n < ops.size) :
    ∀ (l : List Oper) (k : Nat) (listed : Array Bool) (a : Act), (∀ j, j < l.length → l[j]? = ops[k + j]?) → k + l.length = n → HeadInv md ops n listed →
    Region.lexHead md ops g l.length k listed = true → wpQuiet P ops C Lq l a →
    anyHead P md ops C n (fun listed' a' => Region.seqB md ops g n listed' = true ∧ Lq a') l.length listed a
  | [], k, listed, a, _, hk, _, hB, h => by
    have : k = n := by simpa using hk
    subst this
    exact ⟨by simpa [Region.lexHead] using hB, h⟩
  | o :: l, k, listed, a, hl, hk, inv, hB, h => by
    have h0 : ops[k]? = some o := by simpa using (hl 0 (by simp)).symm
    simp only [List.length_cons, Region.lexHead, Bool.and_eq_true] at hB
    obtain ⟨⟨hr, hf⟩, hB'⟩ := hB
    have hkn : k < n := by simp only [List.length_cons] at hk; omega
    have hr' : k ∈ Region.ready md ops listed := by simpa using hr
    have hst : qOp P ops C k (wpQuiet P ops C Lq l) a := by unfold qOp; simp only [h0]; exact h
    obtain ⟨v, hy, hK⟩ := yieldsIn_of_qOp h0 hst
    exact head_first h0 (Region.noSelect_spec hsel) hs hc hn hkn (fun listed' a' hL => seqB_ready hL.1) l.length listed a inv (Region.free_spec h0 hf) hr' hy
      (head_lex hsel hs hc hn l (k + 1) _ _ (fun j hj => by have := hl (j + 1) (by simp; omega); simpa [Nat.add_assoc, Nat.add_comm 1 j] using this) (by simp only [List.length_cons] at hk; omega) (inv.set hr' hkn) hB' hK)

/-- The head quiet in the class C, the tail (from operation n on) walked as a list in every world of C. -/
theorem wp_region_head {id : Nat} {Q : Exit → Act → World → Prop} {a : Act} {w : World} {l : List Oper} (n : Nat) (hm : P.follows .mixedOrders = true) (hB : Region.lexTailB .any l.toArray n = true) (hC : C { w with drawn := w.drawn + 1 })
    (h : wpQuiet P l.toArray C (fun a' => ∀ w', C w' → wpList P l.toArray Q (l.drop n) a' w') (l.take n) a) : (Code.region id l.toArray true).wp P Q a w := by
  simp only [Region.lexTailB, Bool.and_eq_true, decide_eq_true_eq] at hB
  obtain ⟨⟨⟨⟨hsel, hn⟩, hs⟩, hc⟩, hlex⟩ := hB
  have hn' : n < l.length := by simpa using hn
  have htl : (l.take n).length = n := by simp; omega
  have hdl : (l.drop n).length = l.toArray.size - n := by simp
  have inv0 : HeadInv .any l.toArray n (Array.replicate l.toArray.size false) :=
    ⟨by simp, fun j oj _ hl => (by rw [getD_replicate_false] at hl; cases hl), fun t _ ht => getD_in (by simpa using ht) (getD_replicate_false _ _)⟩
  have H := head_lex (md := .any) (C := C) (g := l.toArray.size - n) hsel hs hc hn (l.take n) 0 _ a (fun j hj => by
    have hj' : j < n := by rw [htl] at hj; exact hj
    simp [hj']) (by simpa using htl) inv0 (by rw [htl]; exact hlex) h
  refine wp_region_any hm ?_
  have := any_of_head (C := C) (Q := Q) (g := l.toArray.size - n) (fun listed a' w' hw' hL => by
    have := wpAny_of_seq (md := .any) (Q' := Q) (l.drop n) n listed a' w' (fun j => by simp [List.getElem?_drop]) (by rw [hdl]; exact hL.1) (hL.2 w' hw')
    rwa [hdl] at this) _ _ _ _ hC H
  rw [htl, show n + (l.toArray.size - n) = l.toArray.size by omega] at this
  exact this
end

/-- The class 'w, some blocks laid, some draws taken'. -/
def Re (w w' : World) : Prop := ∃ p : Regrown, w' = grow (redrawn w p.d) p.os
theorem Re.below {w w' : World} (h : Re w w') : Below w.heap.size w w' := by obtain ⟨p, rfl⟩ := h; exact below_regrown w p.d p.os

theorem grow_cell (W : World) (d : Nat) (os : Array Obj) (b o : Nat) : (grow (redrawn W d) os).cell? ⟨b, o, none⟩ = if b < W.heap.size then W.cell? ⟨b, o, none⟩ else farC (grow (redrawn W d) os) b o := (ifs_of (below_regrown W d os)).1 b o

theorem wp_region_head_below {P : Program} {id : Nat} {Q : Exit → Act → World → Prop} {a : Act} {w : World} {l : List Oper} (n : Nat) (hm : P.follows .mixedOrders = true) (hB : Region.lexTailB .any l.toArray n = true)
    (h : wpQuiet P l.toArray (fun w' => ∃ p : Regrown, w' = grow (redrawn w p.d) p.os) (fun a' => ∀ w', Below w.heap.size w w' → wpList P l.toArray Q (l.drop n) a' w') (l.take n) a) : (Code.region id l.toArray true).wp P Q a w := by
  refine wp_region_head (C := fun w' => ∃ p : Regrown, w' = grow (redrawn w p.d) p.os) n hm hB ⟨⟨w.drawn + 1, #[]⟩, by rw [grow_empty]; rfl⟩ ?_
  have e : (fun a' : Act => ∀ w', (∃ p : Regrown, w' = grow (redrawn w p.d) p.os) → wpList P l.toArray Q (l.drop n) a' w') = (fun a' => ∀ w', Below w.heap.size w w' → wpList P l.toArray Q (l.drop n) a' w') := by
    funext a'
    apply propext
    exact ⟨fun hh w' hb => hh w' (regrown_of_below hb), fun hh w' ⟨p, hp⟩ => hh w' (by rw [hp]; exact below_regrown w p.d p.os)⟩
  rw [e]
  exact h

theorem wp_region_all_below {P : Program} {id : Nat} {Q : Exit → Act → World → Prop} {a : Act} {w : World} {l : List Oper} (hm : P.follows .mixedOrders = true) (hB : Region.lexB .any l.toArray = true)
    (h : wpQuiet P l.toArray (fun w' => ∃ p : Regrown, w' = grow (redrawn w p.d) p.os) (fun a' => ∀ w', Below w.heap.size w w' → Q .normal a' w') l a) : (Code.region id l.toArray true).wp P Q a w := by
  refine wp_region_quiet_below hm hB ?_
  have e : (fun a' : Act => ∀ w', (∃ p : Regrown, w' = grow (redrawn w p.d) p.os) → Q .normal a' w') = (fun a' => ∀ w', Below w.heap.size w w' → Q .normal a' w') := by
    funext a'
    apply propext
    exact ⟨fun hh w' hb => hh w' (regrown_of_below hb), fun hh w' ⟨p, hp⟩ => hh w' (by rw [hp]; exact below_regrown w p.d p.os)⟩
  rw [e]
  exact h
end Go.Proofs.YtafnebfchhmgcaaGreat
/- A region that draws its order: operations that only read, and calls that lay new blocks, may be taken first, ahead of allocs and stores into new memory. -/
namespace Go.Proofs.YtafnebfchhmgcaaGreat
open Go Go.RowKit Go.Sort
/-- Apart from the blocks X, all that was there in w is as it was. -/
structure Ex (X : List Nat) (w w' : World) : Prop where
  os : w'.os = w.os
  tape : w'.tape = w.tape
  output : w'.output = w.output
  size : w.heap.size ≤ w'.heap.size
  block : ∀ k, k < w.heap.size → k ∉ X → w'.heap[k]? = w.heap[k]?
theorem Ex.refl (X : List Nat) (w : World) : Ex X w w := ⟨rfl, rfl, rfl, Nat.le_refl _, fun _ _ _ => rfl⟩
theorem Ex.grown {X : List Nat} {a b c : World} (h : Ex X a b) (k : Below b.heap.size b c) : Ex X a c :=
  ⟨k.os.trans h.os, k.tape.trans h.tape, k.output.trans h.output, Nat.le_trans h.size k.size, fun i hi hn => (k.block i (Nat.lt_of_lt_of_le hi h.size)).trans (h.block i hi hn)⟩
theorem Ex.alloc {X : List Nat} {a b : World} (h : Ex X a b) (o : Obj) : Ex X a (b.alloc o) := h.grown ((Below.refl _ _).alloc (Nat.le_refl _) o)
theorem Ex.set_in {X : List Nat} {a b : World} {p : Addr} (hp : p.block ∈ X ∨ a.heap.size ≤ p.block) (h : Ex X a b) (u : Value) : Ex X a (b.setCell p u) :=
  ⟨h.os, h.tape, h.output, by simpa [World.setCell] using h.size, fun i hi hn => (Below.heap_setCell b p u i (by
    rintro rfl
    rcases hp with hp | hp
    · exact hn hp
    · omega)).trans (h.block i hi hn)⟩
theorem Ex.step {X : List Nat} {s a c : World} (hb : Below a.heap.size a c) (h : Ex X s a) : Ex X s c := h.grown hb
theorem ifs_ex {X : List Nat} {W w1 : World} (hb : Ex X W w1) : (∀ b o, w1.cell? ⟨b, o, none⟩ = if b < W.heap.size ∧ b ∉ X then W.cell? ⟨b, o, none⟩ else farC w1 b o) := by
  intro b o
  split
  · rename_i h; exact World.cell?_of_block (w := W) (hb.block b h.1 h.2)
  · rfl
section
variable {P : Program} {ops : Array Oper} {md : Region.Mode} {Q : Exit → Act → World → Prop} {w0 : World} {X : List Nat}

/-- In every world that has grown out of w0 the operation yields v; a call leaves a world that has grown out of the one that it got. -/
def YieldsB (P : Program) (ops : Array Oper) (X : List Nat) (w0 : World) (o : Oper) (v : Value) (a : Act) : Prop :=
  (Region.wanted o (yielded ops a.tmps) = true ∧ ∀ w, Ex X w0 w → Oper.quietUpon P (fun w'' => Below w.heap.size w w'') w v ((execOp a.eval o).run P w)) ∨
  (Region.wanted o (yielded ops a.tmps) = false ∧ v = undef)

theorem YieldsB.of_same {o : Oper} {v : Value} {a a' : Act} (hy : YieldsB P ops X w0 o v a) (he : execOp a'.eval o = execOp a.eval o)
    (hw : Region.wanted o (yielded ops a'.tmps) = Region.wanted o (yielded ops a.tmps)) : YieldsB P ops X w0 o v a' := by
  unfold YieldsB at *
  rw [he, hw]
  exact hy

theorem YieldsB.wpOp {i : Nat} {o : Oper} {v : Value} {a : Act} (hi : ops[i]? = some o) (hy : YieldsB P ops X w0 o v a) {K : Act → World → Prop} {w : World} (hB : Ex X w0 w)
    (h : ∀ w', Below w.heap.size w w' → K (a.put o.dst v) w') : wpOp P ops Q i K a w := by
  unfold Go.wpOp
  simp only [hi]
  rcases hy with ⟨hw, hv⟩ | ⟨hw, rfl⟩
  · simp only [hw, if_true]
    refine .inl ?_
    have h3 := hv w hB
    unfold Oper.wp
    generalize (execOp a.eval o).run P w = r at *
    cases r with
    | ok n w' =>
      cases n <;> simp only [Oper.quietUpon] at h3 <;> simp only [Oper.upon]
      case value u =>
        obtain ⟨e1, e2⟩ := h3
        rw [e1, e2]
        exact h _ (Below.refl _ _)
      case skip =>
        obtain ⟨e1, e2⟩ := h3
        rw [e1, ← e2]
        exact h _ (Below.refl _ _)
      case enter f args =>
        obtain ⟨e1, hc⟩ := h3
        rw [e1]
        exact hc.mono fun e w'' ⟨he, hw''⟩ => by subst he; exact h _ hw''
    | halt x w' => simp only [Oper.quietUpon] at h3
  · simp only [hw, Bool.false_eq_true, if_false]; exact h _ (Below.refl _ _)

/-- One operation 'oj', apart from the quiet 'oi'. -/
theorem wpOp_putB {j : Nat} {oi oj : Oper} {v : Value} (hj : ops[j]? = some oj) (hap : oi.apart ops oj = true)
    (hsi : ∀ cs b, oi.op ≠ .select cs b) (hsj : ∀ cs b, oj.op ≠ .select cs b)
    (hQ : ∀ c a w, Q (.panic c) (a.put oi.dst v) w → Q (.panic c) a w) {K : Act → World → Prop} {a : Act} {w : World}
    (hy : YieldsB P ops X w0 oi v a) (h : wpOp P ops Q j K (a.put oi.dst v) w) :
    wpOp P ops Q j (fun a' w' => YieldsB P ops X w0 oi v a' ∧ K (a'.put oi.dst v) w') a w := by
  obtain ⟨h1, h2, h3⟩ := Oper.apart_spec hap
  have keep : ∀ (a : Act), YieldsB P ops X w0 oi v a → ∀ u, YieldsB P ops X w0 oi v (a.put oj.dst u) := fun a hy u =>
    hy.of_same (execOp_put oi hsi a oj.dst u h3) (wanted_put oi a oj.dst u h3)
  have keepD : ∀ d, YieldsB P ops X w0 oi v { a with defers := d :: a.defers } := fun d => hy.of_same rfl rfl
  unfold wpOp at *
  simp only [hj] at *
  rw [wanted_put oj a oi.dst v h1] at h
  split
  · rename_i hw
    simp only [hw, if_true] at h
    rcases h with h | ⟨hasks, hlets⟩
    case inr => exact .inr ⟨by unfold Oper.asks at *; rw [execOp_put oj hsj a oi.dst v h1] at hasks; exact hasks, hlets⟩
    refine .inl ?_
    unfold Oper.wp at *
    rw [execOp_put oj hsj a oi.dst v h1] at h
    generalize (execOp a.eval oj).run P w = r at *
    cases r with
    | ok n w' =>
      cases n <;> simp only [Oper.upon] at h ⊢
      case value u => exact ⟨keep a hy u, by rw [← Act.put_comm a v u h2]; exact h⟩
      case skip => exact ⟨keep a hy _, by rw [← Act.put_comm a v undef h2]; exact h⟩
      case defer d =>
        refine ⟨keep _ (keepD d) _, ?_⟩
        rw [← Act.put_comm _ v undef h2, ← Act.put_defers]
        exact h
      case enter f args =>
        refine Calls.mono h fun e w'' he => ?_
        cases e with
        | returned u => exact ⟨keep a hy u, by rw [← Act.put_comm a v u h2]; exact he⟩
        | panicked c => exact hQ _ _ _ he
        | outgrown => exact he
      case row row args => exact Rows.mono h fun u w'' he => ⟨keep a hy u, by rw [← Act.put_comm a v u h2]; exact he⟩
    | halt x w' =>
      cases x <;> simp only [Oper.upon] at h ⊢
      case panic u => exact hQ _ _ _ h
  · rename_i hw
    simp only [hw] at h
    exact ⟨keep a hy _, by rw [← Act.put_comm a v undef h2]; exact h⟩

/-- Whatever order is picked from here on, in every world that has grown out of w1; behind each operation the world has grown out of w0. -/
def anyB (P : Program) (md : Region.Mode) (ops : Array Oper) (Q : Exit → Act → World → Prop) (X : List Nat) (w0 : World) : Nat → Array Bool → Act → World → Prop
  | 0, listed, a, w1 => Region.ready md ops listed = [] ∧ ∀ w, Below w1.heap.size w1 w → Q .normal a w
  | fuel + 1, listed, a, w1 =>
    (Region.ready md ops listed = [] → ∀ w, Below w1.heap.size w1 w → Q .normal a w) ∧
    ∀ i ∈ Region.ready md ops listed, ∀ w, Below w1.heap.size w1 w → wpOp P ops Q i (fun a' w' => Ex X w0 w' ∧ anyB P md ops Q X w0 fuel (listed.setIfInBounds i true) a' w') a w

theorem below_trans {a b c : World} (h : Below a.heap.size a b) (k : Below b.heap.size b c) : Below a.heap.size a c := h.trans (k.mono h.size)

theorem any_of_B : ∀ (fuel : Nat) (listed : Array Bool) (a : Act) (w : World), anyB P md ops Q X w0 fuel listed a w → wpAny P md ops Q fuel listed a w
  | 0, _, _, _, h => ⟨h.1, h.2 _ (Below.refl _ _)⟩
  | fuel + 1, _, _, _, h => ⟨fun h0 => h.1 h0 _ (Below.refl _ _), fun i hi => wpOp_mono (fun a' w' h' => any_of_B fuel _ a' w' h'.2) (h.2 i hi _ (Below.refl _ _))⟩

theorem anyB_grown {fuel : Nat} {listed : Array Bool} {a : Act} {w1 w2 : World} (hb : Below w1.heap.size w1 w2) (h : anyB P md ops Q X w0 fuel listed a w1) : anyB P md ops Q X w0 fuel listed a w2 := by
  cases fuel with
  | zero => exact ⟨h.1, fun w hw => h.2 w (below_trans hb hw)⟩
  | succ f => exact ⟨fun h0 w hw => h.1 h0 w (below_trans hb hw), fun i hi w hw => h.2 i hi w (below_trans hb hw)⟩

theorem anyB_first {i : Nat} {oi : Oper} {v : Value} (hi : ops[i]? = some oi) (hsel : ∀ (j : Nat) (o : Oper) cs b, ops[j]? = some o → o.op ≠ .select cs b)
    (hQ : ∀ c a w, Q (.panic c) (a.put oi.dst v) w → Q (.panic c) a w) :
    ∀ (fuel : Nat) (listed : Array Bool) (a : Act) (w1 : World),
      (∀ j oj, ops[j]? = some oj → j ≠ i → listed.getD j true = false → (∀ e ∈ oj.after, Region.binds md e = true → e.on ≠ i) → oi.apart ops oj = true) →
      i ∈ Region.ready md ops listed → YieldsB P ops X w0 oi v a → Ex X w0 w1 →
      anyB P md ops Q X w0 fuel (listed.setIfInBounds i true) (a.put oi.dst v) w1 → anyB P md ops Q X w0 (fuel + 1) listed a w1 := by
  intro fuel
  induction fuel with
  | zero =>
    intro listed a w1 _ hr hy hB H
    refine ⟨fun h => (by rw [h] at hr; cases hr), fun j hj w hw => ?_⟩
    by_cases hji : j = i
    · subst hji; exact hy.wpOp hi (hB.grown hw) fun w' hw' => ⟨(hB.grown hw).grown hw', anyB_grown (below_trans hw hw') H⟩
    · have := ready_mono hj hji
      rw [H.1] at this
      cases this
  | succ fuel ih =>
    intro listed a w1 hfree hr hy hB H
    refine ⟨fun h => (by rw [h] at hr; cases hr), fun j hj w hw => ?_⟩
    by_cases hji : j = i
    · subst hji; exact hy.wpOp hi (hB.grown hw) fun w' hw' => ⟨(hB.grown hw).grown hw', anyB_grown (below_trans hw hw') H⟩
    · have h1 := H.2 j (ready_mono hj hji) w hw
      obtain ⟨hjun, oj, hoj, hall⟩ := mem_ready.1 hj
      have hnot : ∀ e ∈ oj.after, Region.binds md e = true → e.on ≠ i := fun e he hb heq => by
        have h1 := hall e he hb
        have h0 := (mem_ready.1 hr).1
        rw [heq] at h1
        rcases Nat.lt_or_ge i listed.size with h' | h'
        · simp [h'] at h0 h1; rw [h0] at h1; cases h1
        · simp [Array.getElem?_eq_none h'] at h1
      have h2 := wpOp_putB hoj (hfree j oj hoj hji hjun hnot) (fun cs b => hsel i oi cs b hi) (fun cs b => hsel j oj cs b hoj) hQ hy h1
      have hfree' : ∀ k ok, ops[k]? = some ok → k ≠ i → (listed.setIfInBounds j true).getD k true = false →
          (∀ e ∈ ok.after, Region.binds md e = true → e.on ≠ i) → oi.apart ops ok = true := fun k ok hk hki hun hno => by
        refine hfree k ok hk hki ?_ hno
        by_cases hjk : j = k
        · subst hjk; exact hjun
        · rw [getD_set_ne true hjk] at hun; exact hun
      refine wpOp_mono (fun a' w' h3 => ⟨h3.2.1, ih (listed.setIfInBounds j true) a' w' hfree' (ready_mono hr (Ne.symm hji)) h3.1 h3.2.1 ?_⟩) h2
      rw [Array.setIfInBounds_comm _ _ hji]
      exact h3.2.2

/-- 'Below' from the end of the heap on, closed to simp. -/
def Grew (w w' : World) : Prop := Below w.heap.size w w'
/-- The quiet operations of a list, one after the other. -/
def quietL (P : Program) (ops : Array Oper) (X : List Nat) (w0 : World) (K : Act → Prop) : List Oper → Act → Prop
  | [], a => K a
  | o :: rest, a =>
    if Region.wanted o (yielded ops a.tmps) then ∃ v, (∀ w, Ex X w0 w → Oper.quietUpon P (Grew w) w v ((execOp a.eval o).run P w)) ∧ quietL P ops X w0 K rest (a.put o.dst v)
    else quietL P ops X w0 K rest (a.put o.dst undef)
theorem quietL_nil {K : Act → Prop} {a : Act} (h : K a) : quietL P ops X w0 K [] a := h
theorem quietL_plain {K : Act → Prop} {a : Act} {o : Oper} {rest : List Oper} (hg : o.guard = none)
    (h : ∀ K' : Act → Prop, (∀ a, quietL P ops X w0 K rest a → K' a) → ∃ v, (∀ w, Ex X w0 w → Oper.quietUpon P (Grew w) w v ((execOp a.eval o).run P w)) ∧ K' (a.put o.dst v)) : quietL P ops X w0 K (o :: rest) a := by
  unfold quietL
  rw [if_pos (by simp [Region.wanted, hg])]
  exact h _ (fun _ h => h)
def okB (md : Region.Mode) (ops : Array Oper) : List Nat → Array Bool → Bool
  | [], _ => true
  | i :: is, listed => (Region.ready md ops listed).contains i && Region.free md ops listed i && okB md ops is (listed.setIfInBounds i true)
def setB : List Nat → Array Bool → Array Bool
  | [], listed => listed
  | i :: is, listed => setB is (listed.setIfInBounds i true)
def pickB (ops : Array Oper) (is : List Nat) : List Oper := is.filterMap fun i => ops[i]?
theorem anyB_quiet (hsel : Region.noSelect ops = true) (hQ : ∀ d v c a w, Q (.panic c) (Act.put a d v) w → Q (.panic c) a w) (fuel : Nat) : ∀ (is : List Nat) (listed : Array Bool) (a : Act), okB md ops is listed = true → (∀ i ∈ is, i < ops.size) →
    quietL P ops X w0 (fun a' => anyB P md ops Q X w0 fuel (setB is listed) a' w0) (pickB ops is) a → anyB P md ops Q X w0 (is.length + fuel) listed a w0
  | [], listed, a, _, _, h => by rw [List.length_nil, Nat.zero_add]; exact h
  | i :: is, listed, a, hok, hlt, h => by
    obtain ⟨oi, hi⟩ : ∃ oi, ops[i]? = some oi := ⟨_, Array.getElem?_eq_getElem (hlt i List.mem_cons_self)⟩
    simp only [okB, Bool.and_eq_true] at hok
    obtain ⟨⟨hr, hf⟩, hok'⟩ := hok
    have e : pickB ops (i :: is) = oi :: pickB ops is := by simp [pickB, hi]
    rw [e] at h
    rw [List.length_cons, show is.length + 1 + fuel = (is.length + fuel) + 1 by omega]
    unfold quietL at h
    by_cases hw : Region.wanted oi (yielded ops a.tmps) = true
    · rw [if_pos hw] at h
      obtain ⟨v, hv, hn⟩ := h
      refine anyB_first hi (Region.noSelect_spec hsel) (fun c a w hh => hQ _ _ c a w hh) _ listed a w0 (Region.free_spec hi hf) (by simpa using hr) (.inl ⟨hw, hv⟩) (Ex.refl _ _) (anyB_quiet hsel hQ fuel is _ _ hok' (fun j hj => hlt j (List.mem_cons_of_mem _ hj)) hn)
    · rw [if_neg hw] at h
      exact anyB_first hi (Region.noSelect_spec hsel) (fun c a w hh => hQ _ _ c a w hh) _ listed a w0 (Region.free_spec hi hf) (by simpa using hr) (.inr ⟨by simpa using hw, rfl⟩) (Ex.refl _ _) (anyB_quiet hsel hQ fuel is _ _ hok' (fun j hj => hlt j (List.mem_cons_of_mem _ hj)) h)
/-- **The region**: the quiet operations 'is' first; then the others. -/
theorem wp_region_B {id : Nat} {a : Act} {l : List Oper} (is : List Nat) (fuel : Nat) (hm : P.follows .mixedOrders = true) (hfu : is.length + fuel = l.length) (hsel : Region.noSelect l.toArray = true) (hok : okB .any l.toArray is (Array.replicate l.length false) = true) (hlt : is.all (fun i => decide (i < l.length)) = true)
    (hQ : ∀ d v c a w, Q (.panic c) (Act.put a d v) w → Q (.panic c) a w)
    (h : quietL P l.toArray X w0 (fun a' => anyB P .any l.toArray Q X w0 fuel (setB is (Array.replicate l.length false)) a' w0) (pickB l.toArray is) a) : (Code.region id l.toArray true).wp P Q a w0 := by
  have H := anyB_quiet (md := .any) hsel hQ fuel is _ a hok (fun i hi => by simpa using List.all_eq_true.1 hlt i hi) h
  rw [hfu] at H
  have hb : Below w0.heap.size w0 { w0 with drawn := w0.drawn + 1 } := ⟨rfl, rfl, rfl, Nat.le_refl _, fun _ _ => rfl⟩
  refine wp_region_any hm ?_
  have := any_of_B _ _ _ _ (anyB_grown hb H)
  simpa using this
/-- Nothing panics in the region: its post at a panic may be taken for False. -/
def Calm (Q : Exit → Act → World → Prop) : Exit → Act → World → Prop
  | .panic _, _, _ => False
  | e, a, w => Q e a w
theorem wp_region_calm (X : List Nat) {id : Nat} {a : Act} {l : List Oper} (is : List Nat) (fuel : Nat) (hm : P.follows .mixedOrders = true) (hfu : is.length + fuel = l.length) (hsel : Region.noSelect l.toArray = true) (hok : okB .any l.toArray is (Array.replicate l.length false) = true) (hlt : is.all (fun i => decide (i < l.length)) = true)
    (h : quietL P l.toArray X w0 (fun a' => anyB P .any l.toArray (Calm Q) X w0 fuel (setB is (Array.replicate l.length false)) a' w0) (pickB l.toArray is) a) : (Code.region id l.toArray true).wp P Q a w0 :=
  Code.wp_mono (fun e a w hh => by cases e <;> first | exact hh | exact False.elim hh) (wp_region_B (Q := Calm Q) (X := X) is fuel hm hfu hsel hok hlt (fun _ _ _ _ _ h => h) h)
/-- One operation is ready: it is carried out, in whatever world has grown out of w1. -/
theorem anyB_one {fuel i : Nat} {listed : Array Bool} {a : Act} {w1 : World} {o : Oper} (hr : Region.ready md ops listed = [i]) (ho : ops[i]? = some o) (hg : o.guard = none)
    (h : ∀ w, Below w1.heap.size w1 w → ∀ K : Act → World → Prop, (∀ a' w', (Ex X w0 w' ∧ anyB P md ops Q X w0 fuel (listed.setIfInBounds i true) a' w') → K a' w') → o.wp P a w K Q) : anyB P md ops Q X w0 (fuel + 1) listed a w1 := by
  refine ⟨fun h0 => (by rw [hr] at h0; cases h0), fun j hj w hw => ?_⟩
  rw [hr] at hj
  obtain rfl : j = i := by simpa using hj
  unfold wpOp
  simp only [ho, Region.wanted, hg, if_true]
  exact .inl (h w hw _ (fun _ _ hh => hh))
/-- Two are ready: each may come first. -/
theorem anyB_two {fuel i j : Nat} {listed : Array Bool} {a : Act} {w1 : World} {o o' : Oper} (hr : Region.ready md ops listed = [i, j]) (ho : ops[i]? = some o) (hg : o.guard = none) (ho' : ops[j]? = some o') (hg' : o'.guard = none)
    (h : ∀ w, Below w1.heap.size w1 w → ∀ K : Act → World → Prop, (∀ a' w', (Ex X w0 w' ∧ anyB P md ops Q X w0 fuel (listed.setIfInBounds i true) a' w') → K a' w') → o.wp P a w K Q)
    (h' : ∀ w, Below w1.heap.size w1 w → ∀ K : Act → World → Prop, (∀ a' w', (Ex X w0 w' ∧ anyB P md ops Q X w0 fuel (listed.setIfInBounds j true) a' w') → K a' w') → o'.wp P a w K Q) : anyB P md ops Q X w0 (fuel + 1) listed a w1 := by
  refine ⟨fun h0 => (by rw [hr] at h0; cases h0), fun k hk w hw => ?_⟩
  rw [hr] at hk
  simp only [List.mem_cons, List.not_mem_nil, or_false] at hk
  unfold wpOp
  rcases hk with rfl | rfl
  · simp only [ho, Region.wanted, hg, if_true]
    exact .inl (h w hw _ (fun _ _ hh => hh))
  · simp only [ho', Region.wanted, hg', if_true]
    exact .inl (h' w hw _ (fun _ _ hh => hh))
theorem anyB_end {fuel : Nat} {listed : Array Bool} {a : Act} {w1 : World} (hr : Region.ready md ops listed = []) (h : ∀ w, Below w1.heap.size w1 w → Q .normal a w) : anyB P md ops Q X w0 fuel listed a w1 := by
  cases fuel with
  | zero => exact ⟨hr, h⟩
  | succ f => exact ⟨fun _ => h, fun i hi => by rw [hr] at hi; cases hi⟩
end
/-- A callee's contract, in a world that has grown. -/
theorem calls_B {P : Program} {f : FuncId} {args : Array Value} {w : World} {v : Value} (h : Calls P f args w fun e w' => e = .returned v ∧ Below w.heap.size w w') : Calls P f args w fun e w'' => e = .returned v ∧ Grew w w'' := h
theorem xs_ {X : List Nat} {w w' : World} (h : Ex X w w' := by repeat (first | (with_reducible exact Ex.refl _ _) | (with_reducible assumption) | (with_reducible refine Ex.alloc ?_ _) | ((with_reducible refine Ex.set_in ?_ ?_ _); (· first | (left; simp; done) | (right; simp; done) | (right; simp; omega) | (right; omega))) | ((with_reducible apply Ex.step); (· with_reducible assumption)))) : Ex X w w' := h
end Go.Proofs.YtafnebfchhmgcaaGreat
/- A drawn region, further on: quiet operations at whatever state, whatever else is waiting. -/
namespace Go.Proofs.YtafnebfchhmgcaaGreat
open Go Go.RowKit Go.Sort
section
variable {P : Program} {ops : Array Oper} {md : Region.Mode} {Q : Exit → Act → World → Prop} {w0 w1 : World} {X : List Nat}
theorem anyB_quiet_at (hsel : Region.noSelect ops = true) (hQ : ∀ d v c a w, Q (.panic c) (Act.put a d v) w → Q (.panic c) a w) (hw : Ex X w0 w1) (fuel : Nat) : ∀ (is : List Nat) (listed : Array Bool) (a : Act), okB md ops is listed = true → (∀ i ∈ is, i < ops.size) →
    quietL P ops X w0 (fun a' => anyB P md ops Q X w0 fuel (setB is listed) a' w1) (pickB ops is) a → anyB P md ops Q X w0 (is.length + fuel) listed a w1
  | [], listed, a, _, _, h => by rw [List.length_nil, Nat.zero_add]; exact h
  | i :: is, listed, a, hok, hlt, h => by
    obtain ⟨oi, hi⟩ : ∃ oi, ops[i]? = some oi := ⟨_, Array.getElem?_eq_getElem (hlt i List.mem_cons_self)⟩
    simp only [okB, Bool.and_eq_true] at hok
    obtain ⟨⟨hr, hf⟩, hok'⟩ := hok
    have e : pickB ops (i :: is) = oi :: pickB ops is := by simp [pickB, hi]
    rw [e] at h
    rw [List.length_cons, show is.length + 1 + fuel = (is.length + fuel) + 1 by omega]
    unfold quietL at h
    by_cases hw' : Region.wanted oi (yielded ops a.tmps) = true
    · rw [if_pos hw'] at h
      obtain ⟨v, hv, hn⟩ := h
      refine anyB_first hi (Region.noSelect_spec hsel) (fun c a w hh => hQ _ _ c a w hh) _ listed a w1 (Region.free_spec hi hf) (by simpa using hr) (.inl ⟨hw', hv⟩) hw (anyB_quiet_at hsel hQ hw fuel is _ _ hok' (fun j hj => hlt j (List.mem_cons_of_mem _ hj)) hn)
    · rw [if_neg hw'] at h
      exact anyB_first hi (Region.noSelect_spec hsel) (fun c a w hh => hQ _ _ c a w hh) _ listed a w1 (Region.free_spec hi hf) (by simpa using hr) (.inr ⟨by simpa using hw', rfl⟩) hw (anyB_quiet_at hsel hQ hw fuel is _ _ hok' (fun j hj => hlt j (List.mem_cons_of_mem _ hj)) h)
theorem calm_panic {Q : Exit → Act → World → Prop} : ∀ d v c a w, Calm Q (.panic c) (Act.put a d v) w → Calm Q (.panic c) a w := fun _ _ _ _ _ h => h
end
theorem Ex.under {X : List Nat} {a b c : World} (h : Ex X a b) (k : Below a.heap.size b c) : Ex X a c :=
  ⟨k.os.trans h.os, k.tape.trans h.tape, k.output.trans h.output, Nat.le_trans h.size k.size, fun i hi hn => (k.block i hi).trans (h.block i hi hn)⟩
theorem wp_world {P : Program} {c : Code} {Q : Exit → Act → World → Prop} {a : Act} {w : World} (h : ∀ W, W = w → c.wp P Q a W) : c.wp P Q a w := h w rfl
/-- append onto an empty literal, at one operation of a region that draws. -/
theorem wp_fresh {P : Program} {o : Oper} {a : Act} {K : Act → World → Prop} {Q : Exit → Act → World → Prop} {w : World} (t e size bytes : Nat) (E : Elem P t e size bytes) (s x : Operand)
    (ho : o.op = .call { callee := .builtin .append, args := #[s, x], argTypes := #[t, t] }) (base b0 : Nat) (hs : a.eval s = .slice (some ⟨b0, 0, none⟩) 0 0) (hown : Own w base e size b0 0 0 []) (ad : Addr) (m c : Nat) (news : List Value) (hx : a.eval x = .slice (some ad) m c)
    (hnews : ∀ j u, news[j]? = some u → w.cell? (ad.add j) = some u) (hl : news.length = m * size) (h1 : ∀ u ∈ news, u.oneCell' = true) (hm : 0 < m) (h63 : m ≤ maxLen) (hbytes : m * bytes ≤ 140737488355328) (hbase : base ≤ w.heap.size)
    (h : ∀ g cap w', Own w' base e size g m cap news → Below base w w' → (∀ k t' c, k ≠ b0 → Blk w k t' c → Blk w' k t' c) → K (a.put o.dst (.slice (some ⟨g, 0, none⟩) m cap)) w') : o.wp P a w K Q := by
  obtain ⟨ht, ⟨i, z, h1', h2', h3', h4', h5'⟩, hp⟩ := E
  refine wp_append_lies w s x t ho base e i z size bytes ht h1' h2' h3' h4' h5' hp _ 0 [] hs hown ad m c news hx hl hnews h1 hm (by omega) (by rw [Nat.zero_add]; exact hbytes) hbase _ rfl ?_
  intro g cap w' hown' hg _ _
  rw [Nat.zero_add, List.nil_append] at hown'
  rw [Nat.zero_add]
  refine h g cap w' hown' ((Below.refl base w).grown hg hbase (fun k hk => ?_)) (fun k t' c hne hk => hk.grown hg (by simp [Value.ownBlock]; omega))
  have := hown.lt
  have : k = b0 := by simpa [Value.ownBlock] using hk.symm
  omega
end Go.Proofs.YtafnebfchhmgcaaGreat
/- Quiet operations with a guard. -/
namespace Go.Proofs.YtafnebfchhmgcaaGreat
open Go Go.RowKit Go.Sort
section
variable {P : Program} {ops : Array Oper} {w0 : World} {X : List Nat} {K : Act → Prop} {a : Act} {o : Oper} {rest : List Oper}
theorem quietL_skip (hg : Region.wanted o (yielded ops a.tmps) = false) (h : quietL P ops X w0 K rest (a.put o.dst undef)) : quietL P ops X w0 K (o :: rest) a := by
  unfold quietL
  rw [if_neg (by rw [hg]; exact Bool.false_ne_true)]
  exact h
theorem quietL_want (hg : Region.wanted o (yielded ops a.tmps) = true)
    (h : ∀ K' : Act → Prop, (∀ a, quietL P ops X w0 K rest a → K' a) → ∃ v, (∀ w, Ex X w0 w → Oper.quietUpon P (Grew w) w v ((execOp a.eval o).run P w)) ∧ K' (a.put o.dst v)) : quietL P ops X w0 K (o :: rest) a := by
  unfold quietL
  rw [if_pos hg]
  exact h _ (fun _ h => h)
end
end Go.Proofs.YtafnebfchhmgcaaGreat
