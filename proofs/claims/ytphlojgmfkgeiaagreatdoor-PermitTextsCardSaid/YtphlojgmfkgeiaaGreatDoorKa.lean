/- Joined texts: A A2 B1 R R2 R3 R4 R5 R6 YA YB YC YD YE YF YG. -/
import Derived.WalkKit
import Derived.WalkLawsBesides
import Derived.WalkSpells
import Derived.Lib.Hide
import Derived.Deep.AppendLies
import Derived.Deep.Draws
import Derived.Maps.AppendAt
import Derived.Lib.QuietBelow
import Derived.StillTail
import Derived.BigQuiet
import Derived.Laws.OwnMore
import Derived.Test.YtphlojgmfkgeiaaGreatDoorRows
/- Words for memory: a slice that reads as a list of cells; a block that is known whole; small facts on integers. -/
namespace Go.Proofs.YtphlojgmfkgeiaaGreatDoor
open Go.RowKit

theorem bcell {W w1 : World} (hb : Below W.heap.size W w1) : (∀ b o, b < W.heap.size → w1.cell? ⟨b, o, none⟩ = W.cell? ⟨b, o, none⟩) ∧ (∀ b o, b < W.heap.size → w1.frozen? ⟨b, o, none⟩ = W.frozen? ⟨b, o, none⟩) :=
  ⟨fun b o h => hb.cell (p := ⟨b, o, none⟩) h, fun b o h => hb.frozen (p := ⟨b, o, none⟩) h⟩
theorem below_step {B B' : Nat} {s a c : World} (hb : Below B' a c) (h : Below B s a) (hB : B ≤ B') : Below B s c := h.trans (hb.mono hB)
theorem w64 (n : Int) (h1 : -9223372036854775808 ≤ n) (h2 : n ≤ 9223372036854775807) : wrap64 n = n := by unfold wrap64; omega

/-- Cells and marks in the form that the walk decides by arithmetic. -/
def farC (w : World) (b o : Nat) : Option Value := w.cell? ⟨b, o, none⟩
def farF (w : World) (b o : Nat) : Bool := w.frozen? ⟨b, o, none⟩
theorem cell_if (w : World) (c : Array Value) (t : TypeId) (n i : Nat) : (w.alloc (.cells c t)).cell? ⟨n, i, none⟩ = if n < w.heap.size then w.cell? ⟨n, i, none⟩ else if n = w.heap.size then c[i]? else farC (w.alloc (.cells c t)) n i := by
  split
  · rename_i h; exact World.cell?_alloc_past _ n i h
  · split
    · rename_i h; exact World.cell?_alloc_at c t n i h
    · rfl
theorem frozen_if (w : World) (c : Array Value) (t : TypeId) (n i : Nat) : (w.alloc (.cells c t)).frozen? ⟨n, i, none⟩ = if n < w.heap.size then w.frozen? ⟨n, i, none⟩ else if n = w.heap.size then false else farF (w.alloc (.cells c t)) n i := by
  split
  · rename_i h; exact World.frozen?_alloc_past _ n i h
  · split
    · rename_i h; exact World.frozen?_alloc_at c t n i h
    · rfl
theorem ifs_of {W w1 : World} (hb : Below W.heap.size W w1) : (∀ b o, w1.cell? ⟨b, o, none⟩ = if b < W.heap.size then W.cell? ⟨b, o, none⟩ else farC w1 b o) ∧ (∀ b o, w1.frozen? ⟨b, o, none⟩ = if b < W.heap.size then W.frozen? ⟨b, o, none⟩ else farF w1 b o) := by
  refine ⟨fun b o => ?_, fun b o => ?_⟩
  · split
    · rename_i h; exact hb.cell (p := ⟨b, o, none⟩) h
    · rfl
  · split
    · rename_i h; exact hb.frozen (p := ⟨b, o, none⟩) h
    · rfl

/-- The slice 'A, n' (elements of 'size' cells) lies below block B and holds the cells xs. -/
def Reads (w : World) (B size : Nat) (A : Option Addr) (n : Nat) (xs : List Value) : Prop :=
  xs.length = n * size ∧ (0 < n → ∃ b o, A = some ⟨b, o, none⟩ ∧ b < B ∧ ∀ j u, xs[j]? = some u → w.cell? ⟨b, o + j, none⟩ = some u)

section
variable {w w' : World} {B B' size n : Nat} {A : Option Addr} {xs : List Value}
theorem Reads.nil_ : Reads w B size A 0 [] := ⟨by simp, fun h => absurd h (by omega)⟩
theorem Reads.at_ {k : Nat} (h : Reads w B 1 A n xs) (hk : k < n) : ∃ b o u, A = some ⟨b, o, none⟩ ∧ b < B ∧ xs[k]? = some u ∧ w.cell? ⟨b, o + k, none⟩ = some u := by
  obtain ⟨b, o, e, hb, hc⟩ := h.2 (by omega)
  have hl : k < xs.length := by have := h.1; omega
  exact ⟨b, o, xs[k], e, hb, List.getElem?_eq_getElem hl, hc k _ (List.getElem?_eq_getElem hl)⟩
theorem Reads.keep (h : Reads w B size A n xs) (hk : ∀ p : Addr, p.block < B → w'.cell? p = w.cell? p) : Reads w' B size A n xs :=
  ⟨h.1, fun hn => by
    obtain ⟨b, o, e, hb, hc⟩ := h.2 hn
    exact ⟨b, o, e, hb, fun j u hu => (hk _ hb).trans (hc j u hu)⟩⟩
theorem Reads.more (h : Reads w B size A n xs) (hB : B ≤ B') : Reads w B' size A n xs :=
  ⟨h.1, fun hn => by
    obtain ⟨b, o, e, hb, hc⟩ := h.2 hn
    exact ⟨b, o, e, by omega, hc⟩⟩
theorem Reads.below (h : Reads w B size A n xs) (hb : Below B w w') : Reads w' B size A n xs := h.keep fun _ hp => hb.cell hp
theorem Reads.alloc (h : Reads w B size A n xs) (hB : B ≤ w.heap.size) (o : Obj) : Reads (w.alloc o) B size A n xs := h.keep fun p hp => World.cell?_alloc_lt w o p (by omega)
theorem Reads.new (w : World) (cs : Array Value) (t : TypeId) (n : Nat) (h : cs.size = n * size) : Reads (w.alloc (.cells cs t)) (w.heap.size + 1) size (some ⟨w.heap.size, 0, none⟩) n cs.toList :=
  ⟨by simpa using h, fun _ => ⟨_, _, rfl, Nat.lt_succ_self _, fun j u hu => by
    have := cell_of_row (w.alloc (.cells cs t)) w.heap.size j cs t (0, 0) (heap_alloc_new w (.cells cs t))
    rw [Nat.zero_add, this]
    simpa using hu⟩⟩
end

/-- A block that is known whole, nothing of it frozen. -/
def Blk (w : World) (g : Nat) (t : TypeId) (cs : Array Value) : Prop := w.heap[g]? = some (.cells cs t (0, 0))
section
variable {w w' : World} {g : Nat} {t : TypeId} {cs : Array Value}
theorem Blk.lt (h : Blk w g t cs) : g < w.heap.size := by
  rcases Nat.lt_or_ge g w.heap.size with hlt | hge
  · exact hlt
  · unfold Blk at h; rw [Array.getElem?_eq_none hge] at h; cases h
theorem Blk.cell (h : Blk w g t cs) (i : Nat) : w.cell? ⟨g, i, none⟩ = cs[i]? := cell_of_row w g i cs t (0, 0) h
theorem Blk.frozen (h : Blk w g t cs) (i : Nat) : w.frozen? ⟨g, i, none⟩ = false := by
  unfold Blk at h
  simp [World.frozen?, h]
theorem Blk.new (w : World) (t : TypeId) (cs : Array Value) : Blk (w.alloc (.cells cs t)) w.heap.size t cs := heap_alloc_new w _
theorem Blk.new_at {w : World} {g : Nat} (t : TypeId) (cs : Array Value) (h : g = w.heap.size) : Blk (w.alloc (.cells cs t)) g t cs := by subst h; exact heap_alloc_new w _
theorem Blk.alloc (h : Blk w g t cs) (o : Obj) : Blk (w.alloc o) g t cs := (Below.heap_alloc w o g h.lt).trans h
theorem Blk.drew (h : Blk w g t cs) : Blk w.drew g t cs := h
theorem Blk.set_ (h : Blk w g t cs) (i : Nat) (u : Value) : Blk (w.setCell ⟨g, i, none⟩ u) g t (cs.setIfInBounds i u) := by
  unfold Blk at h ⊢
  simp [World.setCell, Array.getElem?_modify, h]
theorem Blk.far (h : Blk w g t cs) {p : Addr} (hp : g ≠ p.block) (u : Value) : Blk (w.setCell p u) g t cs := (Below.heap_setCell w p u g hp).trans h
theorem Blk.below {B : Nat} (h : Blk w g t cs) (hb : Below B w w') (hg : g < B) : Blk w' g t cs := (hb.block g hg).trans h
theorem Blk.grown {row : Option Nat} (h : Blk w g t cs) (hb : w.grownBy w' row) (hg : some g ≠ row) : Blk w' g t cs := (hb.block g h.lt hg).trans h
theorem Blk.kept (h : Blk w g t cs) (hb : Below w.heap.size w w') : Blk w' g t cs := h.below hb h.lt
/-- A block of two cells: what the walk wants of it. -/
theorem Blk.two {a b : Value} (h : Blk w g t #[a, b]) : w.cell? ⟨g, 0, none⟩ = some a ∧ w.cell? ⟨g, 1, none⟩ = some b ∧ w.frozen? ⟨g, 0, none⟩ = false ∧ w.frozen? ⟨g, 1, none⟩ = false :=
  ⟨h.cell 0, h.cell 1, h.frozen 0, h.frozen 1⟩
end
theorem Reads.blk {w : World} {g size n : Nat} {t : TypeId} {cs : Array Value} (h : Blk w g t cs) (hl : cs.size = n * size) : Reads w (g + 1) size (some ⟨g, 0, none⟩) n cs.toList :=
  ⟨by simpa using hl, fun _ => ⟨_, _, rfl, Nat.lt_succ_self _, fun j u hu => by
    rw [Nat.zero_add, h.cell j]
    simpa using hu⟩⟩
/-- '==' on arrays: element by element. -/
def eqElems (d : Nat) (e sz : Nat) (xs ys : Array Value) : List Nat → Sem Bool
  | [] => pure true
  | i :: is => do
    let a ← part e xs (i * sz)
    let b ← part e ys (i * sz)
    let r ← Op.equalIn d e a b
    if (!r) = true then pure false else eqElems d e sz xs ys is
attribute [go_sem] eqElems
section
variable {P : Program} (w : World)
theorem run_equalIn_array (d : Nat) (t e n sz : Nat) (xs ys : Array Value) (ht : P.underlying t = some (.array n e)) (hz : (P.info? e).map (·.size) = some sz) :
    (Op.equalIn (d + 1) t (.agg xs) (.agg ys)).run P w = (eqElems d e sz xs ys (List.range' 0 n)).run P w := by
  obtain ⟨i, hi, rfl⟩ := Option.map_eq_some_iff.1 hz
  simp only [Op.equalIn, Sem.run_bind, run_underlying ht, Result.andThen_ok, sizeOf, typeInfo, run_program, hi, Sem.run_pure]
  rw [Std.Legacy.Range.forIn_eq_forIn_range']
  simp only [Std.Legacy.Range.size, Nat.sub_zero, Nat.add_sub_cancel, Nat.div_one]
  generalize List.range' 0 n = l
  clear ht
  induction l generalizing w with
  | nil => simp [eqElems]
  | cons k l ih =>
    simp only [List.forIn_cons, eqElems, Sem.run_bind, Sem.run_ite]
    generalize (part e xs (k * i.size)).run P w = r1
    cases r1 with
    | ok a w1 =>
      simp only [Result.andThen_ok]
      generalize (part e ys (k * i.size)).run P w1 = r2
      cases r2 with
      | ok b w2 =>
        simp only [Result.andThen_ok]
        generalize (Op.equalIn d e a b).run P w2 = r3
        cases r3 with
        | ok r w3 =>
          cases r
          · simp only [Result.andThen_ok, Bool.not_false, if_true, Sem.run_pure]
          · simp only [Result.andThen_ok, Bool.not_true, Bool.false_eq_true, if_false, Sem.run_pure]
            exact ih w3
        | halt x w3 => simp [Result.andThen]
      | halt x w2 => simp [Result.andThen]
    | halt x w1 => simp [Result.andThen]
end
theorem bl_ {B : Nat} {w w' : World} (h : Below B w w' := by repeat (first | (with_reducible exact Below.refl _ _) | (with_reducible assumption) | ((with_reducible refine Below.alloc ?_ ?_ _); rotate_left; (· first | (simp; done) | (simp; omega) | omega)) | ((with_reducible refine Below.setCell ?_ ?_ _); rotate_left; (· first | (simp; done) | (simp; omega) | omega)) | (with_reducible apply Below.drew) | ((with_reducible apply below_step); (· with_reducible assumption); rotate_left; (· first | (simp; done) | (simp; omega) | omega)))) : Below B w w' := h
end Go.Proofs.YtphlojgmfkgeiaaGreatDoor
/- Words for memory, more: rows that the call itself makes. -/
namespace Go.Proofs.YtphlojgmfkgeiaaGreatDoor
open Go.RowKit
theorem news_new (w : World) (cs : Array Value) (t : TypeId) : ∀ j u, cs.toList[j]? = some u → (w.alloc (.cells cs t)).cell? ((⟨w.heap.size, 0, none⟩ : Addr).add j) = some u := by
  intro j u hu
  have := cell_of_row (w.alloc (.cells cs t)) w.heap.size j cs t (0, 0) (heap_alloc_new w (.cells cs t))
  rw [Addr.add_lit, Nat.zero_add, this]
  simpa using hu
/-- A row of the call's own: at the head of block g, from 'base' on. -/
def Own (w : World) (base : Nat) (e size g l cap : Nat) (xs : List Value) : Prop := w.ownsRow base e size (.slice (some ⟨g, 0, none⟩) l cap) l xs
section
variable {w w' : World} {base e size g l cap : Nat} {xs : List Value}
theorem Own.len (h : Own w base e size g l cap xs) : xs.length = l * size := h.1
theorem Own.lt (h : Own w base e size g l cap xs) : base ≤ g ∧ g < w.heap.size := by
  rcases h.2 with ⟨h0, _⟩ | ⟨g', cap', cur, hv, hb, hg, _⟩
  · cases h0
  · injection hv with h1
    injection h1 with h1
    injection h1 with h1
    subst h1
    refine ⟨hb, ?_⟩
    rcases Nat.lt_or_ge g w.heap.size with hlt | hge
    · exact hlt
    · rw [Array.getElem?_eq_none hge] at hg; cases hg
theorem Own.reads (h : Own w base e size g l cap xs) : Reads w (g + 1) size (some ⟨g, 0, none⟩) l xs :=
  ⟨h.1, fun _ => ⟨_, _, rfl, Nat.lt_succ_self _, fun j u hu => by
    have := h.cells (g := g) rfl j u hu
    rwa [Addr.add_lit] at this⟩⟩
theorem Own.alloc (h : Own w base e size g l cap xs) (o : Obj) : Own (w.alloc o) base e size g l cap xs := World.ownsRow.alloc h o
theorem Own.drew (h : Own w base e size g l cap xs) : Own w.drew base e size g l cap xs := h
/-- What lies at whole blocks is kept where the block is. -/
theorem Own.kept (h : Own w base e size g l cap xs) (hb : Below w.heap.size w w') : Own w' base e size g l cap xs := by
  obtain ⟨h1, h2⟩ := h
  refine ⟨h1, ?_⟩
  rcases h2 with h2 | ⟨g', cap', cur, hv, hg, hh, r⟩
  · exact Or.inl h2
  · have hlt : g' < w.heap.size := by
      rcases Nat.lt_or_ge g' w.heap.size with hlt | hge
      · exact hlt
      · rw [Array.getElem?_eq_none hge] at hh; cases hh
    exact Or.inr ⟨g', cap', cur, hv, hg, by rw [hb.block g' hlt]; exact hh, r⟩
/-- A new row out of a literal. -/
theorem Own.new (w : World) (base e size l : Nat) (cs : Array Value) (hb : base ≤ w.heap.size) (hl : cs.size = l * size) (hm : l ≤ maxLen) : Own (w.alloc (.cells cs e)) base e size w.heap.size l l cs.toList :=
  ⟨by simpa using hl, Or.inr ⟨w.heap.size, l, cs, rfl, hb, heap_alloc_new w _, Nat.le_refl _, hm, hl, by rw [List.take_of_length_le]; simp [hl]⟩⟩
/-- A slice value of the call's own, nil or not, reads. -/
theorem own_form {v : Value} {n : Nat} (h : w.ownsRow base e size v n xs) : ∃ A cap, v = .slice A n cap ∧ n ≤ cap ∧ cap ≤ maxLen ∧ Reads w w.heap.size size A n xs := by
  rcases h.2 with ⟨rfl, rfl⟩ | ⟨g, cap, cur, rfl, hb, hg, hn, hc, _⟩
  · exact ⟨none, 0, rfl, Nat.le_refl _, Nat.zero_le _, h.1, fun hn => absurd hn (by omega)⟩
  · have h' : Own w base e size g n cap xs := h
    exact ⟨_, _, rfl, hn, hc, h'.reads.more h'.lt.2⟩
theorem own_kept {v : Value} {n : Nat} (h : w.ownsRow base e size v n xs) (hb : Below w.heap.size w w') : w'.ownsRow base e size v n xs :=
  h.kept (row := none) ⟨hb.os, hb.tape, hb.output, hb.size, fun k hk _ => hb.block k hk⟩ (by
    cases hv : v.ownBlock with
    | none => exact .inl rfl
    | some g => exact .inr (by simp))
end
/-- What the append's law wants to know of a slice type. -/
structure Elem (P : Program) (t e size bytes : Nat) : Prop where
  ht : P.underlying t = some (.slice e)
  ex : ∃ i z, P.info? e = some i ∧ i.zero = some z ∧ i.size = size ∧ i.bytes = bytes ∧ z.cells.size = size
  pos : 0 < size
theorem elem_of {P : Program} {t e size bytes : Nat} {z : Value} (ht : P.underlying t = some (.slice e)) (h : (P.info? e).map (fun i => (i.zero, i.size, i.bytes)) = some (some z, size, bytes)) (hz : z.cells.size = size) (hs : 0 < size) : Elem P t e size bytes := by
  obtain ⟨i, h1, h2, h3, h4⟩ := info_parts h
  exact ⟨ht, ⟨i, z, h1, h2, h3, h4, hz⟩, hs⟩
/-- append of a literal's elements onto a row of the call's own (nil let in). -/
theorem wpList_app {P : Program} {ops : Array Oper} {rest : List Oper} {o : Oper} {a : Act} {Q : Exit → Act → World → Prop} {w0 : World} {cs : Array Value} (t e size bytes : Nat) (E : Elem P t e size bytes) (hgd : o.guard = none) (s x : Operand)
    (ho : o.op = .call { callee := .builtin .append, args := #[s, x], argTypes := #[t, t] }) (base : Nat) (v : Value) (n : Nat) (xs : List Value) (hs : a.eval s = v) (hown : w0.ownsRow base e size v n xs) (m : Nat) (hx : a.eval x = .slice (some ⟨w0.heap.size, 0, none⟩) m m)
    (hl : cs.size = m * size) (h1 : ∀ u ∈ cs.toList, u.oneCell' = true) (hm : 0 < m) (h63 : n + m ≤ maxLen) (hbytes : (n + m) * bytes ≤ 140737488355328) (hbase : base ≤ w0.heap.size)
    (h : ∀ g cap w', w'.ownsRow base e size (.slice (some ⟨g, 0, none⟩) (n + m) cap) (n + m) (xs ++ cs.toList) → Below base w0 w' → (∀ k t' c, Blk w0 k t' c → v.ownBlock ≠ some k → Blk w' k t' c) → w0.heap.size < w'.heap.size → wpList P ops Q rest (a.put o.dst (.slice (some ⟨g, 0, none⟩) (n + m) cap)) w') :
    wpList P ops Q (o :: rest) a (w0.alloc (.cells cs e)) := by
  obtain ⟨ht, ⟨i, z, h1', h2', h3', h4', h5'⟩, hp⟩ := E
  refine wpList_append_lies (w0.alloc (.cells cs e)) hgd s x t ho base e i z size bytes ht h1' h2' h3' h4' h5' hp v n xs hs (hown.alloc _) ⟨w0.heap.size, 0, none⟩ m m cs.toList hx (by simpa using hl) (news_new w0 cs e) h1 hm h63 hbytes (by simp; omega) _ rfl ?_
  intro g cap w' hown' hg _ _
  have hsz : w0.heap.size + 1 ≤ w'.heap.size := by simpa using hg.size
  refine h g cap w' hown' ?_ (fun k t' c hk hne => (hk.alloc _).grown hg (fun e => hne e.symm)) (by omega)
  refine ((Below.refl base w0).alloc hbase _).grown hg (by simp; omega) (fun k hk => (hown.lt k hk).1)
theorem Reads.blk_at {w : World} {g size n off : Nat} {t : TypeId} {cs : Array Value} {pre xs post : List Value} (h : Blk w g t cs) (hcs : cs.toList = pre ++ (xs ++ post)) (ho : pre.length = off) (hl : xs.length = n * size) : Reads w (g + 1) size (some ⟨g, off, none⟩) n xs :=
  ⟨hl, fun _ => ⟨_, _, rfl, Nat.lt_succ_self _, fun j u hu => by
    have hj : j < xs.length := (List.getElem?_eq_some_iff.1 hu).1
    rw [h.cell, ← Array.getElem?_toList, hcs, List.getElem?_append_right (by omega), ho, Nat.add_sub_cancel_left, List.getElem?_append_left hj]
    exact hu⟩⟩
theorem calls_below {P : Program} {f : FuncId} {args : Array Value} {w : World} {v : Value} (h : Calls P f args w fun e w' => e = .returned v ∧ w = w') : Calls P f args w fun e w' => e = .returned v ∧ Below w.heap.size w w' :=
  h.mono fun _ _ ⟨he, hw⟩ => ⟨he, hw ▸ Below.refl _ _⟩
end Go.Proofs.YtphlojgmfkgeiaaGreatDoor
/- Kept blocks. -/
namespace Go.Proofs.YtphlojgmfkgeiaaGreatDoor
open Go.RowKit
theorem blk_kept {w w' : World} {g : Nat} {t : TypeId} {cs : Array Value} (hb : Below w.heap.size w w') (h : Blk w g t cs) : Blk w' g t cs := h.kept hb
theorem blk_two {w : World} {g : Nat} {t : TypeId} {p q x y : Value} (h : Blk w g t #[p, q]) : Blk ((w.setCell ⟨g, 0, none⟩ x).setCell ⟨g, 1, none⟩ y) g t #[x, y] := (h.set_ 0 x).set_ 1 y
theorem blk_far {w : World} {g : Nat} {t : TypeId} {cs : Array Value} {p : Addr} (hp : g ≠ p.block) (h : Blk w g t cs) (u : Value) : Blk (w.setCell p u) g t cs := h.far hp u
theorem bk_ {w : World} {g : Nat} {t : TypeId} {cs : Array Value} (h : Blk w g t cs := by repeat (first | (with_reducible assumption) | ((with_reducible apply Blk.new_at); (first | (simp; done) | (simp; omega))) | (with_reducible apply Blk.drew) | (with_reducible refine Blk.alloc ?_ _) | (with_reducible apply blk_two) | ((with_reducible refine blk_far ?_ ?_ _); (· first | (simp; done) | (simp; omega) | omega)) | ((with_reducible apply blk_kept); (· with_reducible assumption)))) : Blk w g t cs := h
end Go.Proofs.YtphlojgmfkgeiaaGreatDoor
/- A region that draws its order, whose head only reads and calls functions that lay new blocks, and whose tail runs in one order: one walk. Over whatever class of worlds. -/
namespace Go.Proofs.YtphlojgmfkgeiaaGreatDoor
open Go Go.RowKit Go.Sort
section
variable {P : Program} {ops : Array Oper} {md : Region.Mode} {C : World → Prop}

/-- Whatever order is picked, while only operations before number n come up; 'L' is asked once f of them have come up. -/
def anyHead (P : Program) (md : Region.Mode) (ops : Array Oper) (C : World → Prop) (n : Nat) (L : Array Bool → Act → Prop) : Nat → Array Bool → Act → Prop
  | 0, listed, a => L listed a
  | f + 1, listed, a => Region.ready md ops listed ≠ [] ∧ ∀ i ∈ Region.ready md ops listed, i < n ∧ qOp P ops C i (anyHead P md ops C n L f (listed.setIfInBounds i true)) a

theorem any_of_head {n g : Nat} {L : Array Bool → Act → Prop} {Q : Exit → Act → World → Prop} (hL : ∀ listed a w, C w → L listed a → wpAny P md ops Q g listed a w) :
    ∀ (f : Nat) (listed : Array Bool) (a : Act) (w : World), C w → anyHead P md ops C n L f listed a → wpAny P md ops Q (f + g) listed a w
  | 0, listed, a, w, hw, h => by rw [Nat.zero_add]; exact hL _ _ _ hw h
  | f + 1, listed, a, w, hw, h => by
    rw [show f + 1 + g = (f + g) + 1 by omega]
    exact ⟨fun h0 => absurd h0 h.1, fun i hi => wpOp_of_qOp hw (fun a' w' hw' h' => any_of_head hL f _ a' w' hw' h') (h.2 i hi).2⟩

theorem head_first {n i : Nat} {oi : Oper} {v : Value} {L : Array Bool → Act → Prop} (hi : ops[i]? = some oi) (hsel : ∀ (j : Nat) (o : Oper) cs b, ops[j]? = some o → o.op ≠ .select cs b)
    (hs : Region.sinkB md ops n = true) (hc : Region.chainB md ops n = true) (hn : n < ops.size) (hin : i < n)
    (hdone : ∀ listed a, L listed a → ∀ j ∈ Region.ready md ops listed, n ≤ j) :
    ∀ (f : Nat) (listed : Array Bool) (a : Act), HeadInv md ops n listed →
      (∀ j oj, ops[j]? = some oj → j ≠ i → listed.getD j true = false → (∀ e ∈ oj.after, Region.binds md e = true → e.on ≠ i) → oi.apart ops oj = true) →
      i ∈ Region.ready md ops listed → YieldsIn P ops C oi v a →
      anyHead P md ops C n L f (listed.setIfInBounds i true) (a.put oi.dst v) → anyHead P md ops C n L (f + 1) listed a := by
  intro f
  induction f with
  | zero =>
    intro listed a inv _ hr hy H
    have hun := (mem_ready.1 hr).1
    refine ⟨fun h => (by rw [h] at hr; cases hr), fun j hj => ?_⟩
    have hjn : j < n := by
      rcases Nat.lt_or_ge j n with h | h
      · exact h
      · exact absurd hj (tail_waits hs hc hn inv _ i rfl hin hun j h)
    refine ⟨hjn, ?_⟩
    by_cases hji : j = i
    · subst hji; exact hy.qOp hi H
    · have := hdone _ _ H j (ready_mono hj hji)
      omega
  | succ f ih =>
    intro listed a inv hfree hr hy H
    have hun := (mem_ready.1 hr).1
    refine ⟨fun h => (by rw [h] at hr; cases hr), fun j hj => ?_⟩
    have hjn : j < n := by
      rcases Nat.lt_or_ge j n with h | h
      · exact h
      · exact absurd hj (tail_waits hs hc hn inv _ i rfl hin hun j h)
    refine ⟨hjn, ?_⟩
    by_cases hji : j = i
    · subst hji; exact hy.qOp hi H
    · have h1 := (H.2 j (ready_mono hj hji)).2
      obtain ⟨hjun, oj, hoj, hall⟩ := mem_ready.1 hj
      have hnot : ∀ e ∈ oj.after, Region.binds md e = true → e.on ≠ i := fun e he hb heq => by
        have h1 := hall e he hb
        rw [heq, getD_both hun] at h1
        cases h1
      have h2 := qOp_put hoj (hfree j oj hoj hji hjun hnot) (fun cs b => hsel i oi cs b hi) (fun cs b => hsel j oj cs b hoj) hy h1
      have hfree' : ∀ k ok, ops[k]? = some ok → k ≠ i → (listed.setIfInBounds j true).getD k true = false →
          (∀ e ∈ ok.after, Region.binds md e = true → e.on ≠ i) → oi.apart ops ok = true := fun k ok hk hki hun hno => by
        refine hfree k ok hk hki ?_ hno
        by_cases hjk : j = k
        · subst hjk; exact hjun
        · rw [getD_set_ne true hjk] at hun; exact hun
      refine qOp_mono (fun a' h3 => ih (listed.setIfInBounds j true) a' (inv.set hj hjn) hfree' (ready_mono hr (Ne.symm hji)) h3.1 ?_) h2
      rw [Array.setIfInBounds_comm _ _ hji]
      exact h3.2

theorem head_lex {n g : Nat} {Lq : Act → Prop} (hsel : Region.noSelect ops = true) (hs : Region.sinkB md ops n = true) (hc : Region.chainB md ops n = true) (hn : n < ops.size) :
    ∀ (l : List Oper) (k : Nat) (listed : Array Bool) (a : Act), (∀ j, j < l.length → l[j]? = ops[k + j]?) → k + l.length = n → HeadInv md ops n listed →
    Region.lexHead md ops g l.length k listed = true → wpQuiet P ops C Lq l a →
    anyHead P md ops C n (fun listed' a' => Region.seqB md ops g n listed' = true ∧ Lq a') l.length listed a
  | [], k, listed, a, _, hk, _, hB, h => by
    have : k = n := by simpa using hk
    subst this
    exact ⟨by simpa [Region.lexHead] using hB, h⟩
  | o :: l, k, listed, a, hl, hk, inv, hB, h => by
    have h0 : ops[k]? = some o := by simpa using (hl 0 (by simp)).symm
    simp only [List.length_cons, Region.lexHead, Bool.and_eq_true] at hB
    obtain ⟨⟨hr, hf⟩, hB'⟩ := hB
    have hkn : k < n := by simp only [List.length_cons] at hk; omega
    have hr' : k ∈ Region.ready md ops listed := by simpa using hr
    have hst : qOp P ops C k (wpQuiet P ops C Lq l) a := by unfold qOp; simp only [h0]; exact h
    obtain ⟨v, hy, hK⟩ := yieldsIn_of_qOp h0 hst
    exact head_first h0 (Region.noSelect_spec hsel) hs hc hn hkn (fun listed' a' hL => seqB_ready hL.1) l.length listed a inv (Region.free_spec h0 hf) hr' hy
      (head_lex hsel hs hc hn l (k + 1) _ _ (fun j hj => by have := hl (j + 1) (by simp; omega); simpa [Nat.add_assoc, Nat.add_comm 1 j] using this) (by simp only [List.length_cons] at hk; omega) (inv.set hr' hkn) hB' hK)

/-- The head quiet in the class C, the tail (from operation n on) walked as a list in every world of C. -/
theorem wp_region_head {id : Nat} {Q : Exit → Act → World → Prop} {a : Act} {w : World} {l : List Oper} (n : Nat) (hm : P.follows .mixedOrders = true) (hB : Region.lexTailB .any l.toArray n = true) (hC : C { w with drawn := w.drawn + 1 })
    (h : wpQuiet P l.toArray C (fun a' => ∀ w', C w' → wpList P l.toArray Q (l.drop n) a' w') (l.take n) a) : (Code.region id l.toArray true).wp P Q a w := by
  simp only [Region.lexTailB, Bool.and_eq_true, decide_eq_true_eq] at hB
  obtain ⟨⟨⟨⟨hsel, hn⟩, hs⟩, hc⟩, hlex⟩ := hB
  have hn' : n < l.length := by simpa using hn
  have htl : (l.take n).length = n := by simp; omega
  have hdl : (l.drop n).length = l.toArray.size - n := by simp
  have inv0 : HeadInv .any l.toArray n (Array.replicate l.toArray.size false) :=
    ⟨by simp, fun j oj _ hl => (by rw [getD_replicate_false] at hl; cases hl), fun t _ ht => getD_in (by simpa using ht) (getD_replicate_false _ _)⟩
  have H := head_lex (md := .any) (C := C) (g := l.toArray.size - n) hsel hs hc hn (l.take n) 0 _ a (fun j hj => by
    have hj' : j < n := by rw [htl] at hj; exact hj
    simp [hj']) (by simpa using htl) inv0 (by rw [htl]; exact hlex) h
  refine wp_region_any hm ?_
  have := any_of_head (C := C) (Q := Q) (g := l.toArray.size - n) (fun listed a' w' hw' hL => by
    have := wpAny_of_seq (md := .any) (Q' := Q) (l.drop n) n listed a' w' (fun j => by simp [List.getElem?_drop]) (by rw [hdl]; exact hL.1) (hL.2 w' hw')
    rwa [hdl] at this) _ _ _ _ hC H
  rw [htl, show n + (l.toArray.size - n) = l.toArray.size by omega] at this
  exact this
end

/-- The class 'w, some blocks laid, some draws taken'. -/
def Re (w w' : World) : Prop := ∃ p : Regrown, w' = grow (redrawn w p.d) p.os
theorem Re.below {w w' : World} (h : Re w w') : Below w.heap.size w w' := by obtain ⟨p, rfl⟩ := h; exact below_regrown w p.d p.os

theorem grow_cell (W : World) (d : Nat) (os : Array Obj) (b o : Nat) : (grow (redrawn W d) os).cell? ⟨b, o, none⟩ = if b < W.heap.size then W.cell? ⟨b, o, none⟩ else farC (grow (redrawn W d) os) b o := (ifs_of (below_regrown W d os)).1 b o

theorem wp_region_head_below {P : Program} {id : Nat} {Q : Exit → Act → World → Prop} {a : Act} {w : World} {l : List Oper} (n : Nat) (hm : P.follows .mixedOrders = true) (hB : Region.lexTailB .any l.toArray n = true)
    (h : wpQuiet P l.toArray (fun w' => ∃ p : Regrown, w' = grow (redrawn w p.d) p.os) (fun a' => ∀ w', Below w.heap.size w w' → wpList P l.toArray Q (l.drop n) a' w') (l.take n) a) : (Code.region id l.toArray true).wp P Q a w := by
  refine wp_region_head (C := fun w' => ∃ p : Regrown, w' = grow (redrawn w p.d) p.os) n hm hB ⟨⟨w.drawn + 1, #[]⟩, by rw [grow_empty]; rfl⟩ ?_
  have e : (fun a' : Act => ∀ w', (∃ p : Regrown, w' = grow (redrawn w p.d) p.os) → wpList P l.toArray Q (l.drop n) a' w') = (fun a' => ∀ w', Below w.heap.size w w' → wpList P l.toArray Q (l.drop n) a' w') := by
    funext a'
    apply propext
    exact ⟨fun hh w' hb => hh w' (regrown_of_below hb), fun hh w' ⟨p, hp⟩ => hh w' (by rw [hp]; exact below_regrown w p.d p.os)⟩
  rw [e]
  exact h

theorem wp_region_all_below {P : Program} {id : Nat} {Q : Exit → Act → World → Prop} {a : Act} {w : World} {l : List Oper} (hm : P.follows .mixedOrders = true) (hB : Region.lexB .any l.toArray = true)
    (h : wpQuiet P l.toArray (fun w' => ∃ p : Regrown, w' = grow (redrawn w p.d) p.os) (fun a' => ∀ w', Below w.heap.size w w' → Q .normal a' w') l a) : (Code.region id l.toArray true).wp P Q a w := by
  refine wp_region_quiet_below hm hB ?_
  have e : (fun a' : Act => ∀ w', (∃ p : Regrown, w' = grow (redrawn w p.d) p.os) → Q .normal a' w') = (fun a' => ∀ w', Below w.heap.size w w' → Q .normal a' w') := by
    funext a'
    apply propext
    exact ⟨fun hh w' hb => hh w' (regrown_of_below hb), fun hh w' ⟨p, hp⟩ => hh w' (by rw [hp]; exact below_regrown w p.d p.os)⟩
  rw [e]
  exact h
end Go.Proofs.YtphlojgmfkgeiaaGreatDoor
/- A region that draws its order: operations that only read, and calls that lay new blocks, may be taken first, ahead of allocs and stores into new memory. -/
namespace Go.Proofs.YtphlojgmfkgeiaaGreatDoor
open Go Go.RowKit Go.Sort
/-- Apart from the blocks X, all that was there in w is as it was. -/
structure Ex (X : List Nat) (w w' : World) : Prop where
  os : w'.os = w.os
  tape : w'.tape = w.tape
  output : w'.output = w.output
  size : w.heap.size ≤ w'.heap.size
  block : ∀ k, k < w.heap.size → k ∉ X → w'.heap[k]? = w.heap[k]?
theorem Ex.refl (X : List Nat) (w : World) : Ex X w w := ⟨rfl, rfl, rfl, Nat.le_refl _, fun _ _ _ => rfl⟩
theorem Ex.grown {X : List Nat} {a b c : World} (h : Ex X a b) (k : Below b.heap.size b c) : Ex X a c :=
  ⟨k.os.trans h.os, k.tape.trans h.tape, k.output.trans h.output, Nat.le_trans h.size k.size, fun i hi hn => (k.block i (Nat.lt_of_lt_of_le hi h.size)).trans (h.block i hi hn)⟩
theorem Ex.alloc {X : List Nat} {a b : World} (h : Ex X a b) (o : Obj) : Ex X a (b.alloc o) := h.grown ((Below.refl _ _).alloc (Nat.le_refl _) o)
theorem Ex.set_in {X : List Nat} {a b : World} {p : Addr} (hp : p.block ∈ X ∨ a.heap.size ≤ p.block) (h : Ex X a b) (u : Value) : Ex X a (b.setCell p u) :=
  ⟨h.os, h.tape, h.output, by simpa [World.setCell] using h.size, fun i hi hn => (Below.heap_setCell b p u i (by
    rintro rfl
    rcases hp with hp | hp
    · exact hn hp
    · omega)).trans (h.block i hi hn)⟩
theorem Ex.step {X : List Nat} {s a c : World} (hb : Below a.heap.size a c) (h : Ex X s a) : Ex X s c := h.grown hb
theorem ifs_ex {X : List Nat} {W w1 : World} (hb : Ex X W w1) : (∀ b o, w1.cell? ⟨b, o, none⟩ = if b < W.heap.size ∧ b ∉ X then W.cell? ⟨b, o, none⟩ else farC w1 b o) := by
  intro b o
  split
  · rename_i h; exact World.cell?_of_block (w := W) (hb.block b h.1 h.2)
  · rfl
section
variable {P : Program} {ops : Array Oper} {md : Region.Mode} {Q : Exit → Act → World → Prop} {w0 : World} {X : List Nat}

/-- In every world that has grown out of w0 the operation yields v; a call leaves a world that has grown out of the one that it got. -/
def YieldsB (P : Program) (ops : Array Oper) (X : List Nat) (w0 : World) (o : Oper) (v : Value) (a : Act) : Prop :=
  (Region.wanted o (yielded ops a.tmps) = true ∧ ∀ w, Ex X w0 w → Oper.quietUpon P (fun w'' => Below w.heap.size w w'') w v ((execOp a.eval o).run P w)) ∨
  (Region.wanted o (yielded ops a.tmps) = false ∧ v = undef)

theorem YieldsB.of_same {o : Oper} {v : Value} {a a' : Act} (hy : YieldsB P ops X w0 o v a) (he : execOp a'.eval o = execOp a.eval o)
    (hw : Region.wanted o (yielded ops a'.tmps) = Region.wanted o (yielded ops a.tmps)) : YieldsB P ops X w0 o v a' := by
  unfold YieldsB at *
  rw [he, hw]
  exact hy

theorem YieldsB.wpOp {i : Nat} {o : Oper} {v : Value} {a : Act} (hi : ops[i]? = some o) (hy : YieldsB P ops X w0 o v a) {K : Act → World → Prop} {w : World} (hB : Ex X w0 w)
    (h : ∀ w', Below w.heap.size w w' → K (a.put o.dst v) w') : wpOp P ops Q i K a w := by
  unfold Go.wpOp
  simp only [hi]
  rcases hy with ⟨hw, hv⟩ | ⟨hw, rfl⟩
  · simp only [hw, if_true]
    refine .inl ?_
    have h3 := hv w hB
    unfold Oper.wp
    generalize (execOp a.eval o).run P w = r at *
    cases r with
    | ok n w' =>
      cases n <;> simp only [Oper.quietUpon] at h3 <;> simp only [Oper.upon]
      case value u =>
        obtain ⟨e1, e2⟩ := h3
        rw [e1, e2]
        exact h _ (Below.refl _ _)
      case skip =>
        obtain ⟨e1, e2⟩ := h3
        rw [e1, ← e2]
        exact h _ (Below.refl _ _)
      case enter f args =>
        obtain ⟨e1, hc⟩ := h3
        rw [e1]
        exact hc.mono fun e w'' ⟨he, hw''⟩ => by subst he; exact h _ hw''
    | halt x w' => simp only [Oper.quietUpon] at h3
  · simp only [hw, Bool.false_eq_true, if_false]; exact h _ (Below.refl _ _)

/-- One operation 'oj', apart from the quiet 'oi'. -/
theorem wpOp_putB {j : Nat} {oi oj : Oper} {v : Value} (hj : ops[j]? = some oj) (hap : oi.apart ops oj = true)
    (hsi : ∀ cs b, oi.op ≠ .select cs b) (hsj : ∀ cs b, oj.op ≠ .select cs b)
    (hQ : ∀ c a w, Q (.panic c) (a.put oi.dst v) w → Q (.panic c) a w) {K : Act → World → Prop} {a : Act} {w : World}
    (hy : YieldsB P ops X w0 oi v a) (h : wpOp P ops Q j K (a.put oi.dst v) w) :
    wpOp P ops Q j (fun a' w' => YieldsB P ops X w0 oi v a' ∧ K (a'.put oi.dst v) w') a w := by
  obtain ⟨h1, h2, h3⟩ := Oper.apart_spec hap
  have keep : ∀ (a : Act), YieldsB P ops X w0 oi v a → ∀ u, YieldsB P ops X w0 oi v (a.put oj.dst u) := fun a hy u =>
    hy.of_same (execOp_put oi hsi a oj.dst u h3) (wanted_put oi a oj.dst u h3)
  have keepD : ∀ d, YieldsB P ops X w0 oi v { a with defers := d :: a.defers } := fun d => hy.of_same rfl rfl
  unfold wpOp at *
  simp only [hj] at *
  rw [wanted_put oj a oi.dst v h1] at h
  split
  · rename_i hw
    simp only [hw, if_true] at h
    rcases h with h | ⟨hasks, hlets⟩
    case inr => exact .inr ⟨by unfold Oper.asks at *; rw [execOp_put oj hsj a oi.dst v h1] at hasks; exact hasks, hlets⟩
    refine .inl ?_
    unfold Oper.wp at *
    rw [execOp_put oj hsj a oi.dst v h1] at h
    generalize (execOp a.eval oj).run P w = r at *
    cases r with
    | ok n w' =>
      cases n <;> simp only [Oper.upon] at h ⊢
      case value u => exact ⟨keep a hy u, by rw [← Act.put_comm a v u h2]; exact h⟩
      case skip => exact ⟨keep a hy _, by rw [← Act.put_comm a v undef h2]; exact h⟩
      case defer d =>
        refine ⟨keep _ (keepD d) _, ?_⟩
        rw [← Act.put_comm _ v undef h2, ← Act.put_defers]
        exact h
      case enter f args =>
        refine Calls.mono h fun e w'' he => ?_
        cases e with
        | returned u => exact ⟨keep a hy u, by rw [← Act.put_comm a v u h2]; exact he⟩
        | panicked c => exact hQ _ _ _ he
        | outgrown => exact he
      case row row args => exact Rows.mono h fun u w'' he => ⟨keep a hy u, by rw [← Act.put_comm a v u h2]; exact he⟩
    | halt x w' =>
      cases x <;> simp only [Oper.upon] at h ⊢
      case panic u => exact hQ _ _ _ h
  · rename_i hw
    simp only [hw] at h
    exact ⟨keep a hy _, by rw [← Act.put_comm a v undef h2]; exact h⟩

/-- Whatever order is picked from here on, in every world that has grown out of w1; behind each operation the world has grown out of w0. -/
def anyB (P : Program) (md : Region.Mode) (ops : Array Oper) (Q : Exit → Act → World → Prop) (X : List Nat) (w0 : World) : Nat → Array Bool → Act → World → Prop
  | 0, listed, a, w1 => Region.ready md ops listed = [] ∧ ∀ w, Below w1.heap.size w1 w → Q .normal a w
  | fuel + 1, listed, a, w1 =>
    (Region.ready md ops listed = [] → ∀ w, Below w1.heap.size w1 w → Q .normal a w) ∧
    ∀ i ∈ Region.ready md ops listed, ∀ w, Below w1.heap.size w1 w → wpOp P ops Q i (fun a' w' => Ex X w0 w' ∧ anyB P md ops Q X w0 fuel (listed.setIfInBounds i true) a' w') a w

theorem below_trans {a b c : World} (h : Below a.heap.size a b) (k : Below b.heap.size b c) : Below a.heap.size a c := h.trans (k.mono h.size)

theorem any_of_B : ∀ (fuel : Nat) (listed : Array Bool) (a : Act) (w : World), anyB P md ops Q X w0 fuel listed a w → wpAny P md ops Q fuel listed a w
  | 0, _, _, _, h => ⟨h.1, h.2 _ (Below.refl _ _)⟩
  | fuel + 1, _, _, _, h => ⟨fun h0 => h.1 h0 _ (Below.refl _ _), fun i hi => wpOp_mono (fun a' w' h' => any_of_B fuel _ a' w' h'.2) (h.2 i hi _ (Below.refl _ _))⟩

theorem anyB_grown {fuel : Nat} {listed : Array Bool} {a : Act} {w1 w2 : World} (hb : Below w1.heap.size w1 w2) (h : anyB P md ops Q X w0 fuel listed a w1) : anyB P md ops Q X w0 fuel listed a w2 := by
  cases fuel with
  | zero => exact ⟨h.1, fun w hw => h.2 w (below_trans hb hw)⟩
  | succ f => exact ⟨fun h0 w hw => h.1 h0 w (below_trans hb hw), fun i hi w hw => h.2 i hi w (below_trans hb hw)⟩

theorem anyB_first {i : Nat} {oi : Oper} {v : Value} (hi : ops[i]? = some oi) (hsel : ∀ (j : Nat) (o : Oper) cs b, ops[j]? = some o → o.op ≠ .select cs b)
    (hQ : ∀ c a w, Q (.panic c) (a.put oi.dst v) w → Q (.panic c) a w) :
    ∀ (fuel : Nat) (listed : Array Bool) (a : Act) (w1 : World),
      (∀ j oj, ops[j]? = some oj → j ≠ i → listed.getD j true = false → (∀ e ∈ oj.after, Region.binds md e = true → e.on ≠ i) → oi.apart ops oj = true) →
      i ∈ Region.ready md ops listed → YieldsB P ops X w0 oi v a → Ex X w0 w1 →
      anyB P md ops Q X w0 fuel (listed.setIfInBounds i true) (a.put oi.dst v) w1 → anyB P md ops Q X w0 (fuel + 1) listed a w1 := by
  intro fuel
  induction fuel with
  | zero =>
    intro listed a w1 _ hr hy hB H
    refine ⟨fun h => (by rw [h] at hr; cases hr), fun j hj w hw => ?_⟩
    by_cases hji : j = i
    · subst hji; exact hy.wpOp hi (hB.grown hw) fun w' hw' => ⟨(hB.grown hw).grown hw', anyB_grown (below_trans hw hw') H⟩
    · have := ready_mono hj hji
      rw [H.1] at this
      cases this
  | succ fuel ih =>
    intro listed a w1 hfree hr hy hB H
    refine ⟨fun h => (by rw [h] at hr; cases hr), fun j hj w hw => ?_⟩
    by_cases hji : j = i
    · subst hji; exact hy.wpOp hi (hB.grown hw) fun w' hw' => ⟨(hB.grown hw).grown hw', anyB_grown (below_trans hw hw') H⟩
    · have h1 := H.2 j (ready_mono hj hji) w hw
      obtain ⟨hjun, oj, hoj, hall⟩ := mem_ready.1 hj
      have hnot : ∀ e ∈ oj.after, Region.binds md e = true → e.on ≠ i := fun e he hb heq => by
        have h1 := hall e he hb
        have h0 := (mem_ready.1 hr).1
        rw [heq] at h1
        rcases Nat.lt_or_ge i listed.size with h' | h'
        · simp [h'] at h0 h1; rw [h0] at h1; cases h1
        · simp [Array.getElem?_eq_none h'] at h1
      have h2 := wpOp_putB hoj (hfree j oj hoj hji hjun hnot) (fun cs b => hsel i oi cs b hi) (fun cs b => hsel j oj cs b hoj) hQ hy h1
      have hfree' : ∀ k ok, ops[k]? = some ok → k ≠ i → (listed.setIfInBounds j true).getD k true = false →
          (∀ e ∈ ok.after, Region.binds md e = true → e.on ≠ i) → oi.apart ops ok = true := fun k ok hk hki hun hno => by
        refine hfree k ok hk hki ?_ hno
        by_cases hjk : j = k
        · subst hjk; exact hjun
        · rw [getD_set_ne true hjk] at hun; exact hun
      refine wpOp_mono (fun a' w' h3 => ⟨h3.2.1, ih (listed.setIfInBounds j true) a' w' hfree' (ready_mono hr (Ne.symm hji)) h3.1 h3.2.1 ?_⟩) h2
      rw [Array.setIfInBounds_comm _ _ hji]
      exact h3.2.2

/-- 'Below' from the end of the heap on, closed to simp. -/
def Grew (w w' : World) : Prop := Below w.heap.size w w'
/-- The quiet operations of a list, one after the other. -/
def quietL (P : Program) (ops : Array Oper) (X : List Nat) (w0 : World) (K : Act → Prop) : List Oper → Act → Prop
  | [], a => K a
  | o :: rest, a =>
    if Region.wanted o (yielded ops a.tmps) then ∃ v, (∀ w, Ex X w0 w → Oper.quietUpon P (Grew w) w v ((execOp a.eval o).run P w)) ∧ quietL P ops X w0 K rest (a.put o.dst v)
    else quietL P ops X w0 K rest (a.put o.dst undef)
theorem quietL_nil {K : Act → Prop} {a : Act} (h : K a) : quietL P ops X w0 K [] a := h
theorem quietL_plain {K : Act → Prop} {a : Act} {o : Oper} {rest : List Oper} (hg : o.guard = none)
    (h : ∀ K' : Act → Prop, (∀ a, quietL P ops X w0 K rest a → K' a) → ∃ v, (∀ w, Ex X w0 w → Oper.quietUpon P (Grew w) w v ((execOp a.eval o).run P w)) ∧ K' (a.put o.dst v)) : quietL P ops X w0 K (o :: rest) a := by
  unfold quietL
  rw [if_pos (by simp [Region.wanted, hg])]
  exact h _ (fun _ h => h)
def okB (md : Region.Mode) (ops : Array Oper) : List Nat → Array Bool → Bool
  | [], _ => true
  | i :: is, listed => (Region.ready md ops listed).contains i && Region.free md ops listed i && okB md ops is (listed.setIfInBounds i true)
def setB : List Nat → Array Bool → Array Bool
  | [], listed => listed
  | i :: is, listed => setB is (listed.setIfInBounds i true)
def pickB (ops : Array Oper) (is : List Nat) : List Oper := is.filterMap fun i => ops[i]?
theorem anyB_quiet (hsel : Region.noSelect ops = true) (hQ : ∀ d v c a w, Q (.panic c) (Act.put a d v) w → Q (.panic c) a w) (fuel : Nat) : ∀ (is : List Nat) (listed : Array Bool) (a : Act), okB md ops is listed = true → (∀ i ∈ is, i < ops.size) →
    quietL P ops X w0 (fun a' => anyB P md ops Q X w0 fuel (setB is listed) a' w0) (pickB ops is) a → anyB P md ops Q X w0 (is.length + fuel) listed a w0
  | [], listed, a, _, _, h => by rw [List.length_nil, Nat.zero_add]; exact h
  | i :: is, listed, a, hok, hlt, h => by
    obtain ⟨oi, hi⟩ : ∃ oi, ops[i]? = some oi := ⟨_, Array.getElem?_eq_getElem (hlt i List.mem_cons_self)⟩
    simp only [okB, Bool.and_eq_true] at hok
    obtain ⟨⟨hr, hf⟩, hok'⟩ := hok
    have e : pickB ops (i :: is) = oi :: pickB ops is := by simp [pickB, hi]
    rw [e] at h
    rw [List.length_cons, show is.length + 1 + fuel = (is.length + fuel) + 1 by omega]
    unfold quietL at h
    by_cases hw : Region.wanted oi (yielded ops a.tmps) = true
    · rw [if_pos hw] at h
      obtain ⟨v, hv, hn⟩ := h
      refine anyB_first hi (Region.noSelect_spec hsel) (fun c a w hh => hQ _ _ c a w hh) _ listed a w0 (Region.free_spec hi hf) (by simpa using hr) (.inl ⟨hw, hv⟩) (Ex.refl _ _) (anyB_quiet hsel hQ fuel is _ _ hok' (fun j hj => hlt j (List.mem_cons_of_mem _ hj)) hn)
    · rw [if_neg hw] at h
      exact anyB_first hi (Region.noSelect_spec hsel) (fun c a w hh => hQ _ _ c a w hh) _ listed a w0 (Region.free_spec hi hf) (by simpa using hr) (.inr ⟨by simpa using hw, rfl⟩) (Ex.refl _ _) (anyB_quiet hsel hQ fuel is _ _ hok' (fun j hj => hlt j (List.mem_cons_of_mem _ hj)) h)
/-- **The region**: the quiet operations 'is' first; then the others. -/
theorem wp_region_B {id : Nat} {a : Act} {l : List Oper} (is : List Nat) (fuel : Nat) (hm : P.follows .mixedOrders = true) (hfu : is.length + fuel = l.length) (hsel : Region.noSelect l.toArray = true) (hok : okB .any l.toArray is (Array.replicate l.length false) = true) (hlt : is.all (fun i => decide (i < l.length)) = true)
    (hQ : ∀ d v c a w, Q (.panic c) (Act.put a d v) w → Q (.panic c) a w)
    (h : quietL P l.toArray X w0 (fun a' => anyB P .any l.toArray Q X w0 fuel (setB is (Array.replicate l.length false)) a' w0) (pickB l.toArray is) a) : (Code.region id l.toArray true).wp P Q a w0 := by
  have H := anyB_quiet (md := .any) hsel hQ fuel is _ a hok (fun i hi => by simpa using List.all_eq_true.1 hlt i hi) h
  rw [hfu] at H
  have hb : Below w0.heap.size w0 { w0 with drawn := w0.drawn + 1 } := ⟨rfl, rfl, rfl, Nat.le_refl _, fun _ _ => rfl⟩
  refine wp_region_any hm ?_
  have := any_of_B _ _ _ _ (anyB_grown hb H)
  simpa using this
/-- Nothing panics in the region: its post at a panic may be taken for False. -/
def Calm (Q : Exit → Act → World → Prop) : Exit → Act → World → Prop
  | .panic _, _, _ => False
  | e, a, w => Q e a w
theorem wp_region_calm (X : List Nat) {id : Nat} {a : Act} {l : List Oper} (is : List Nat) (fuel : Nat) (hm : P.follows .mixedOrders = true) (hfu : is.length + fuel = l.length) (hsel : Region.noSelect l.toArray = true) (hok : okB .any l.toArray is (Array.replicate l.length false) = true) (hlt : is.all (fun i => decide (i < l.length)) = true)
    (h : quietL P l.toArray X w0 (fun a' => anyB P .any l.toArray (Calm Q) X w0 fuel (setB is (Array.replicate l.length false)) a' w0) (pickB l.toArray is) a) : (Code.region id l.toArray true).wp P Q a w0 :=
  Code.wp_mono (fun e a w hh => by cases e <;> first | exact hh | exact False.elim hh) (wp_region_B (Q := Calm Q) (X := X) is fuel hm hfu hsel hok hlt (fun _ _ _ _ _ h => h) h)
/-- One operation is ready: it is carried out, in whatever world has grown out of w1. -/
theorem anyB_one {fuel i : Nat} {listed : Array Bool} {a : Act} {w1 : World} {o : Oper} (hr : Region.ready md ops listed = [i]) (ho : ops[i]? = some o) (hg : o.guard = none)
    (h : ∀ w, Below w1.heap.size w1 w → ∀ K : Act → World → Prop, (∀ a' w', (Ex X w0 w' ∧ anyB P md ops Q X w0 fuel (listed.setIfInBounds i true) a' w') → K a' w') → o.wp P a w K Q) : anyB P md ops Q X w0 (fuel + 1) listed a w1 := by
  refine ⟨fun h0 => (by rw [hr] at h0; cases h0), fun j hj w hw => ?_⟩
  rw [hr] at hj
  obtain rfl : j = i := by simpa using hj
  unfold wpOp
  simp only [ho, Region.wanted, hg, if_true]
  exact .inl (h w hw _ (fun _ _ hh => hh))
/-- Two are ready: each may come first. -/
theorem anyB_two {fuel i j : Nat} {listed : Array Bool} {a : Act} {w1 : World} {o o' : Oper} (hr : Region.ready md ops listed = [i, j]) (ho : ops[i]? = some o) (hg : o.guard = none) (ho' : ops[j]? = some o') (hg' : o'.guard = none)
    (h : ∀ w, Below w1.heap.size w1 w → ∀ K : Act → World → Prop, (∀ a' w', (Ex X w0 w' ∧ anyB P md ops Q X w0 fuel (listed.setIfInBounds i true) a' w') → K a' w') → o.wp P a w K Q)
    (h' : ∀ w, Below w1.heap.size w1 w → ∀ K : Act → World → Prop, (∀ a' w', (Ex X w0 w' ∧ anyB P md ops Q X w0 fuel (listed.setIfInBounds j true) a' w') → K a' w') → o'.wp P a w K Q) : anyB P md ops Q X w0 (fuel + 1) listed a w1 := by
  refine ⟨fun h0 => (by rw [hr] at h0; cases h0), fun k hk w hw => ?_⟩
  rw [hr] at hk
  simp only [List.mem_cons, List.not_mem_nil, or_false] at hk
  unfold wpOp
  rcases hk with rfl | rfl
  · simp only [ho, Region.wanted, hg, if_true]
    exact .inl (h w hw _ (fun _ _ hh => hh))
  · simp only [ho', Region.wanted, hg', if_true]
    exact .inl (h' w hw _ (fun _ _ hh => hh))
theorem anyB_end {fuel : Nat} {listed : Array Bool} {a : Act} {w1 : World} (hr : Region.ready md ops listed = []) (h : ∀ w, Below w1.heap.size w1 w → Q .normal a w) : anyB P md ops Q X w0 fuel listed a w1 := by
  cases fuel with
  | zero => exact ⟨hr, h⟩
  | succ f => exact ⟨fun _ => h, fun i hi => by rw [hr] at hi; cases hi⟩
end
/-- A callee's contract, in a world that has grown. -/
theorem calls_B {P : Program} {f : FuncId} {args : Array Value} {w : World} {v : Value} (h : Calls P f args w fun e w' => e = .returned v ∧ Below w.heap.size w w') : Calls P f args w fun e w'' => e = .returned v ∧ Grew w w'' := h
theorem xs_ {X : List Nat} {w w' : World} (h : Ex X w w' := by repeat (first | (with_reducible exact Ex.refl _ _) | (with_reducible assumption) | (with_reducible refine Ex.alloc ?_ _) | ((with_reducible refine Ex.set_in ?_ ?_ _); (· first | (left; simp; done) | (right; simp; done) | (right; simp; omega) | (right; omega))) | ((with_reducible apply Ex.step); (· with_reducible assumption)))) : Ex X w w' := h
end Go.Proofs.YtphlojgmfkgeiaaGreatDoor
/- A drawn region, further on: quiet operations at whatever state, whatever else is waiting. -/
namespace Go.Proofs.YtphlojgmfkgeiaaGreatDoor
open Go Go.RowKit Go.Sort
section
variable {P : Program} {ops : Array Oper} {md : Region.Mode} {Q : Exit → Act → World → Prop} {w0 w1 : World} {X : List Nat}
theorem anyB_quiet_at (hsel : Region.noSelect ops = true) (hQ : ∀ d v c a w, Q (.panic c) (Act.put a d v) w → Q (.panic c) a w) (hw : Ex X w0 w1) (fuel : Nat) : ∀ (is : List Nat) (listed : Array Bool) (a : Act), okB md ops is listed = true → (∀ i ∈ is, i < ops.size) →
    quietL P ops X w0 (fun a' => anyB P md ops Q X w0 fuel (setB is listed) a' w1) (pickB ops is) a → anyB P md ops Q X w0 (is.length + fuel) listed a w1
  | [], listed, a, _, _, h => by rw [List.length_nil, Nat.zero_add]; exact h
  | i :: is, listed, a, hok, hlt, h => by
    obtain ⟨oi, hi⟩ : ∃ oi, ops[i]? = some oi := ⟨_, Array.getElem?_eq_getElem (hlt i List.mem_cons_self)⟩
    simp only [okB, Bool.and_eq_true] at hok
    obtain ⟨⟨hr, hf⟩, hok'⟩ := hok
    have e : pickB ops (i :: is) = oi :: pickB ops is := by simp [pickB, hi]
    rw [e] at h
    rw [List.length_cons, show is.length + 1 + fuel = (is.length + fuel) + 1 by omega]
    unfold quietL at h
    by_cases hw' : Region.wanted oi (yielded ops a.tmps) = true
    · rw [if_pos hw'] at h
      obtain ⟨v, hv, hn⟩ := h
      refine anyB_first hi (Region.noSelect_spec hsel) (fun c a w hh => hQ _ _ c a w hh) _ listed a w1 (Region.free_spec hi hf) (by simpa using hr) (.inl ⟨hw', hv⟩) hw (anyB_quiet_at hsel hQ hw fuel is _ _ hok' (fun j hj => hlt j (List.mem_cons_of_mem _ hj)) hn)
    · rw [if_neg hw'] at h
      exact anyB_first hi (Region.noSelect_spec hsel) (fun c a w hh => hQ _ _ c a w hh) _ listed a w1 (Region.free_spec hi hf) (by simpa using hr) (.inr ⟨by simpa using hw', rfl⟩) hw (anyB_quiet_at hsel hQ hw fuel is _ _ hok' (fun j hj => hlt j (List.mem_cons_of_mem _ hj)) h)
theorem calm_panic {Q : Exit → Act → World → Prop} : ∀ d v c a w, Calm Q (.panic c) (Act.put a d v) w → Calm Q (.panic c) a w := fun _ _ _ _ _ h => h
end
theorem Ex.under {X : List Nat} {a b c : World} (h : Ex X a b) (k : Below a.heap.size b c) : Ex X a c :=
  ⟨k.os.trans h.os, k.tape.trans h.tape, k.output.trans h.output, Nat.le_trans h.size k.size, fun i hi hn => (k.block i hi).trans (h.block i hi hn)⟩
theorem wp_world {P : Program} {c : Code} {Q : Exit → Act → World → Prop} {a : Act} {w : World} (h : ∀ W, W = w → c.wp P Q a W) : c.wp P Q a w := h w rfl
/-- append onto an empty literal, at one operation of a region that draws. -/
theorem wp_fresh {P : Program} {o : Oper} {a : Act} {K : Act → World → Prop} {Q : Exit → Act → World → Prop} {w : World} (t e size bytes : Nat) (E : Elem P t e size bytes) (s x : Operand)
    (ho : o.op = .call { callee := .builtin .append, args := #[s, x], argTypes := #[t, t] }) (base b0 : Nat) (hs : a.eval s = .slice (some ⟨b0, 0, none⟩) 0 0) (hown : Own w base e size b0 0 0 []) (ad : Addr) (m c : Nat) (news : List Value) (hx : a.eval x = .slice (some ad) m c)
    (hnews : ∀ j u, news[j]? = some u → w.cell? (ad.add j) = some u) (hl : news.length = m * size) (h1 : ∀ u ∈ news, u.oneCell' = true) (hm : 0 < m) (h63 : m ≤ maxLen) (hbytes : m * bytes ≤ 140737488355328) (hbase : base ≤ w.heap.size)
    (h : ∀ g cap w', Own w' base e size g m cap news → Below base w w' → (∀ k t' c, k ≠ b0 → Blk w k t' c → Blk w' k t' c) → K (a.put o.dst (.slice (some ⟨g, 0, none⟩) m cap)) w') : o.wp P a w K Q := by
  obtain ⟨ht, ⟨i, z, h1', h2', h3', h4', h5'⟩, hp⟩ := E
  refine wp_append_lies w s x t ho base e i z size bytes ht h1' h2' h3' h4' h5' hp _ 0 [] hs hown ad m c news hx hl hnews h1 hm (by omega) (by rw [Nat.zero_add]; exact hbytes) hbase _ rfl ?_
  intro g cap w' hown' hg _ _
  rw [Nat.zero_add, List.nil_append] at hown'
  rw [Nat.zero_add]
  refine h g cap w' hown' ((Below.refl base w).grown hg hbase (fun k hk => ?_)) (fun k t' c hne hk => hk.grown hg (by simp [Value.ownBlock]; omega))
  have := hown.lt
  have : k = b0 := by simpa [Value.ownBlock] using hk.symm
  omega
end Go.Proofs.YtphlojgmfkgeiaaGreatDoor
/- Quiet operations with a guard. -/
namespace Go.Proofs.YtphlojgmfkgeiaaGreatDoor
open Go Go.RowKit Go.Sort
section
variable {P : Program} {ops : Array Oper} {w0 : World} {X : List Nat} {K : Act → Prop} {a : Act} {o : Oper} {rest : List Oper}
theorem quietL_skip (hg : Region.wanted o (yielded ops a.tmps) = false) (h : quietL P ops X w0 K rest (a.put o.dst undef)) : quietL P ops X w0 K (o :: rest) a := by
  unfold quietL
  rw [if_neg (by rw [hg]; exact Bool.false_ne_true)]
  exact h
theorem quietL_want (hg : Region.wanted o (yielded ops a.tmps) = true)
    (h : ∀ K' : Act → Prop, (∀ a, quietL P ops X w0 K rest a → K' a) → ∃ v, (∀ w, Ex X w0 w → Oper.quietUpon P (Grew w) w v ((execOp a.eval o).run P w)) ∧ K' (a.put o.dst v)) : quietL P ops X w0 K (o :: rest) a := by
  unfold quietL
  rw [if_pos hg]
  exact h _ (fun _ h => h)
end
end Go.Proofs.YtphlojgmfkgeiaaGreatDoor
/- A drawn region with an invariant; append of a whole slice onto an empty literal. -/
namespace Go.Proofs.YtphlojgmfkgeiaaGreatDoor
open Go Go.RowKit Go.Sort
section
variable {P : Program} {ops : Array Oper} {md : Region.Mode} {Q : Exit → Act → World → Prop} {w0 : World} {X : List Nat}
/-- Whatever order is picked, an invariant holds while m operations of a group are waiting; behind them one goes on. -/
theorem anyB_inv (I : Nat → Array Bool → Act → World → Prop) (fuel : Nat) (hgrow : ∀ m l a w w', I m l a w → Below w.heap.size w w' → I m l a w')
    (hne : ∀ m l a w, I (m + 1) l a w → Region.ready md ops l ≠ [])
    (hstep : ∀ m l a w, I (m + 1) l a w → ∀ i ∈ Region.ready md ops l, wpOp P ops Q i (fun a' w' => Ex X w0 w' ∧ I m (l.setIfInBounds i true) a' w') a w)
    (hend : ∀ l a w, I 0 l a w → anyB P md ops Q X w0 fuel l a w) : ∀ m l a w, I m l a w → anyB P md ops Q X w0 (m + fuel) l a w
  | 0, l, a, w, h => by rw [Nat.zero_add]; exact hend l a w h
  | m + 1, l, a, w, h => by
    rw [show m + 1 + fuel = (m + fuel) + 1 by omega]
    refine ⟨fun h0 => absurd h0 (hne m l a w h), fun i hi w' hw => ?_⟩
    exact wpOp_mono (fun a' w'' h' => ⟨h'.1, anyB_inv I fuel hgrow hne hstep hend m _ _ _ h'.2⟩) (hstep m l a w' (hgrow _ _ _ _ _ h hw) i hi)
theorem wpOp_plain {i : Nat} {o : Oper} {a : Act} {w : World} {K : Act → World → Prop} (ho : ops[i]? = some o) (hg : o.guard = none) (h : o.wp P a w K Q) : wpOp P ops Q i K a w := by
  unfold wpOp
  simp only [ho, Region.wanted, hg, if_true]
  exact .inl h
end
theorem run_append_none' {P : Program} {w : World} (base : Nat) (t ty e : TypeId) (i : TypeInfo) (size : Nat) (ht : P.underlying t = some (.slice e)) (hi : P.info? e = some i)
    (v : Value) (n c : Nat) (xs : List Value) (hown : w.ownsRow base e size v n xs) :
    (Builtin.append_ #[t, t] ty #[v, .slice none 0 c]).run P w = .ok v w := by
  rcases hown.2 with ⟨rfl, rfl⟩ | ⟨g, cap, cur, rfl, _, _, hnc, _⟩
  · simp [Builtin.append_, run_underlying ht, sizeOf, typeInfo, hi, Builtin.lenOf, Builtin.firstCells]
  · simp [Builtin.append_, run_underlying ht, sizeOf, typeInfo, hi, Builtin.lenOf, Builtin.firstCells, hnc, storeCells]
/-- append(T{}, s...): a row of the call's own with s's elements. -/
theorem wp_spread {P : Program} {o : Oper} {a : Act} {K : Act → World → Prop} {Q : Exit → Act → World → Prop} {w : World} (t e size bytes : Nat) (E : Elem P t e size bytes) (s x : Operand)
    (ho : o.op = .call { callee := .builtin .append, args := #[s, x], argTypes := #[t, t] }) (base b : Nat) (hs : a.eval s = .slice (some ⟨b, 0, none⟩) 0 0) (hown : Own w base e size b 0 0 []) (A : Option Addr) (n c B : Nat) (xs : List Value) (hx : a.eval x = .slice A n c)
    (hr : Reads w B size A n xs) (h1 : ∀ u ∈ xs, u.oneCell' = true) (h63 : n ≤ maxLen) (hbytes : n * bytes ≤ 140737488355328) (hbase : base ≤ w.heap.size)
    (h : ∀ v' w', w'.ownsRow base e size v' n xs → w.grownBy w' (some b) → v' ≠ .slice none 0 0 → K (a.put o.dst v') w') : o.wp P a w K Q := by
  obtain ⟨ht, ⟨i, z, h1', h2', h3', h4', h5'⟩, hp⟩ := E
  have hl := hr.1
  cases A with
  | none =>
    obtain rfl : n = 0 := by
      rcases Nat.eq_zero_or_pos n with h | h
      · exact h
      · obtain ⟨b, o, e, _⟩ := hr.2 h
        cases e
    obtain rfl : xs = [] := List.eq_nil_of_length_eq_zero (by rw [hl]; simp)
    have hrun := run_append_none' (P := P) (w := w) base t o.type e i size ht h1' (.slice (some ⟨b, 0, none⟩) 0 0) 0 c [] hown
    unfold Oper.wp execOp
    simp only [ho, resolve, invoke, builtin, Sem.run_bind, Sem.run_pure, Result.andThen_ok, List.map_toArray, List.map_cons, List.map_nil, hs, hx, hrun]
    exact h _ _ hown ⟨rfl, rfl, rfl, Nat.le_refl _, fun _ _ _ => rfl⟩ (by simp)
  | some ad =>
    refine wp_append_own w s x t ho base e i z size bytes ht h1' h2' h3' h4' h5' hp _ 0 [] hs hown ad n c xs hx hl ?_ h1 (by omega) (by rw [Nat.zero_add]; exact hbytes) hbase ?_
    · intro j u hu
      have hj := (List.getElem?_eq_some_iff.1 hu).1
      have hn0 : 0 < n := by
        rcases Nat.eq_zero_or_pos n with h | h
        · subst h; simp at hl; subst hl; simp at hj
        · exact h
      obtain ⟨b', o', e', _, hc⟩ := hr.2 hn0
      cases e'
      rw [Addr.add_lit]
      exact hc j u hu
    · intro v' w' hown' hg hv
      rw [Nat.zero_add, List.nil_append] at hown'
      exact h v' w' hown' hg (fun e => by have := (hv.1 e).1; simp at this)
theorem own_blk {w : World} {base size g l cap : Nat} {e : TypeId} {xs : List Value} (h : Own w base e size g l cap xs) : ∃ cur, Blk w g e cur := by
  rcases h.2 with ⟨h0, _⟩ | ⟨g', cap', cur, hv, hb, hg, _⟩
  · cases h0
  · cases hv
    exact ⟨cur, hg⟩
/-- A literal that waits for its append (p: it is laid; q: it has had it). -/
def Fl (base : Nat) (T : TypeId) (size n : Nat) (xs : List Value) (p q : Bool) (u v : Value) (W : World) : Prop :=
  (p = true → q = false → ∃ b, u = .slice (some ⟨b, 0, none⟩) 0 0 ∧ Own W base T size b 0 0 []) ∧ (q = true → W.ownsRow base T size v n xs)
section
variable {base size n : Nat} {T : TypeId} {xs : List Value} {p q : Bool} {u v : Value} {W W' : World}
theorem Fl.kept (h : Fl base T size n xs p q u v W) (hb : Below W.heap.size W W') : Fl base T size n xs p q u v W' :=
  ⟨fun hp hq => let ⟨b, e, r⟩ := h.1 hp hq; ⟨b, e, r.kept hb⟩, fun hq => own_kept (h.2 hq) hb⟩
theorem Fl.other {T' size' b n' c' : Nat} {xs' : List Value} (h : Fl base T size n xs p q u v W) (ho : Own W base T' size' b n' c' xs') (hT : T ≠ T') (hg : W.grownBy W' (some b)) : Fl base T size n xs p q u v W' := by
  obtain ⟨cur, hc⟩ := own_blk ho
  refine ⟨fun hp hq => ?_, fun hq => ?_⟩
  · obtain ⟨b', e, r⟩ := h.1 hp hq
    refine ⟨b', e, World.ownsRow.kept r hg (.inr ?_)⟩
    obtain ⟨cur', hc'⟩ := own_blk r
    intro he
    have : b' = b := by simpa [Value.ownBlock] using he
    subst this
    unfold Blk at hc hc'
    rw [hc] at hc'
    cases hc'
    exact hT rfl
  · refine World.ownsRow.kept (h.2 hq) hg ?_
    rcases (h.2 hq).2 with ⟨rfl, _⟩ | ⟨g, cap, cur', rfl, _, hh, _⟩
    · exact .inl rfl
    · refine .inr ?_
      intro he
      have : g = b := by simpa [Value.ownBlock] using he
      subst this
      unfold Blk at hc
      rw [hc] at hh
      cases hh
      exact hT rfl
theorem Fl.put (_ : p = true) (h : W.ownsRow base T size v n xs) : Fl base T size n xs p true u v W := ⟨fun _ hq => (by cases hq), fun _ => h⟩
theorem Fl.lit (hb : base ≤ W.heap.size) : Fl base T size n xs true false (.slice (some ⟨W.heap.size, 0, none⟩) 0 0) v (W.alloc (.cells #[] T)) :=
  ⟨fun _ _ => ⟨_, rfl, Own.new W base T size 0 #[] hb (by simp) (by unfold maxLen; decide)⟩, fun h => (by cases h)⟩
end
end Go.Proofs.YtphlojgmfkgeiaaGreatDoor
/- A drawn region in which allocs float beside a chain of operations. -/
namespace Go.Proofs.YtphlojgmfkgeiaaGreatDoor
open Go Go.RowKit Go.Sort
section
variable {P : Program} {ops : Array Oper} {md : Region.Mode} {Q : Exit → Act → World → Prop} {w0 w1 : World} {X : List Nat}
theorem anyB_more : ∀ (n m : Nat) (l : Array Bool) (a : Act) (w : World), n ≤ m → anyB P md ops Q X w0 n l a w → anyB P md ops Q X w0 m l a w
  | 0, 0, _, _, _, _, h => h
  | 0, m + 1, _, _, _, _, h => ⟨fun _ => h.2, fun i hi => by rw [h.1] at hi; cases hi⟩
  | n + 1, 0, _, _, _, hn, _ => by omega
  | n + 1, m + 1, _, _, _, hn, h => ⟨h.1, fun i hi w' hw => wpOp_mono (fun a' w'' h' => ⟨h'.1, anyB_more n m _ _ _ (by omega) h'.2⟩) (h.2 i hi w' hw)⟩
/-- One step of the chain, or the float if it still waits. -/
theorem anyB_fl {c f i : Nat} {of oi : Oper} {L : Bool → Array Bool} {A : Value → Act} {F : Value → World → Prop}
    (hT : Region.ready md ops (L true) = [i]) (h0 : Region.ready md ops (L false) ≠ []) (hF : ∀ j ∈ Region.ready md ops (L false), j = i ∨ j = f)
    (hof : ops[f]? = some of) (hgf : of.guard = none) (hoi : ops[i]? = some oi) (hgi : oi.guard = none) (hL : (L false).setIfInBounds f true = L true)
    (hk : ∀ u W W', F u W → Below W.heap.size W W' → F u W')
    (hfl : ∀ u W, Below w1.heap.size w1 W → ∀ K : Act → World → Prop, (∀ u' W', Ex X w0 W' → F u' W' → Below W.heap.size W W' → K (A u') W') → of.wp P (A u) W K Q)
    (hst : ∀ (p : Bool) (u : Value) (W : World) (fuel : Nat), c + (!p).toNat ≤ fuel → (p = true → F u W) → Below w1.heap.size w1 W → ∀ K : Act → World → Prop, (∀ a' W', (Ex X w0 W' ∧ anyB P md ops Q X w0 fuel ((L p).setIfInBounds i true) a' W') → K a' W') → oi.wp P (A u) W K Q) :
    ∀ (p : Bool) (u : Value) (W : World) (fuel : Nat), c + 1 + (!p).toNat ≤ fuel → (p = true → F u W) → Below w1.heap.size w1 W → anyB P md ops Q X w0 fuel (L p) (A u) W := by
  have T : ∀ (u : Value) (W : World) (fuel : Nat), c + 1 ≤ fuel → F u W → Below w1.heap.size w1 W → anyB P md ops Q X w0 fuel (L true) (A u) W := by
    intro u W fuel hf hu hb
    cases fuel with
    | zero => omega
    | succ fuel =>
      refine ⟨fun h => (by rw [hT] at h; cases h), fun j hj W' hW => ?_⟩
      rw [hT] at hj
      obtain rfl : j = i := by simpa using hj
      exact wpOp_plain hoi hgi (hst true u W' fuel (by simp; omega) (fun _ => hk _ _ _ hu hW) (below_trans hb hW) _ (fun _ _ h => h))
  intro p u W fuel hf hu hb
  cases p with
  | true => exact T u W fuel (by simpa using hf) (hu rfl) hb
  | false =>
    cases fuel with
    | zero => omega
    | succ fuel =>
      refine ⟨fun h => absurd h h0, fun j hj W' hW => ?_⟩
      rcases hF j hj with rfl | rfl
      · exact wpOp_plain hoi hgi (hst false u W' fuel (by simp at hf ⊢; omega) (fun h => by cases h) (below_trans hb hW) _ (fun _ _ h => h))
      · refine wpOp_plain hof hgf (hfl u W' (below_trans hb hW) _ (fun u' W'' hx hu' hW'' => ⟨hx, ?_⟩))
        rw [hL]
        exact T u' W'' fuel (by simp at hf; omega) hu' (below_trans (below_trans hb hW) hW'')
/-- The float is waited for. -/
theorem anyB_flw {c f : Nat} {of : Oper} {L : Bool → Array Bool} {A : Value → Act} {F : Value → World → Prop}
    (hF : Region.ready md ops (L false) = [f]) (hof : ops[f]? = some of) (hgf : of.guard = none) (hL : (L false).setIfInBounds f true = L true)
    (hfl : ∀ u W, Below w1.heap.size w1 W → ∀ K : Act → World → Prop, (∀ u' W', Ex X w0 W' → F u' W' → Below W.heap.size W W' → K (A u') W') → of.wp P (A u) W K Q)
    (hst : ∀ (u : Value) (W : World), F u W → Below w1.heap.size w1 W → anyB P md ops Q X w0 c (L true) (A u) W) :
    ∀ (p : Bool) (u : Value) (W : World) (fuel : Nat), c + (!p).toNat ≤ fuel → (p = true → F u W) → Below w1.heap.size w1 W → anyB P md ops Q X w0 fuel (L p) (A u) W := by
  intro p u W fuel hf hu hb
  cases p with
  | true => exact anyB_more c fuel _ _ _ (by simpa using hf) (hst u W (hu rfl) hb)
  | false =>
    cases fuel with
    | zero => simp at hf
    | succ fuel =>
      refine ⟨fun h => (by rw [hF] at h; cases h), fun j hj W' hW => ?_⟩
      rw [hF] at hj
      obtain rfl : j = f := by simpa using hj
      refine wpOp_plain hof hgf (hfl u W' (below_trans hb hW) _ (fun u' W'' hx hu' hW'' => ⟨hx, ?_⟩))
      rw [hL]
      exact anyB_more c fuel _ _ _ (by simp at hf; omega) (hst u' W'' hu' (below_trans (below_trans hb hW) hW''))
/-- Two floats, and a step of the chain; the steps of the floats alone are one proof each. -/
theorem anyB_fl2 {c f g i : Nat} {of og oi : Oper} {L : Bool → Bool → Array Bool} {A : Value → Value → Act} {F G : Value → World → Prop}
    (hr : ∀ p q, Region.ready md ops (L p q) ≠ [] ∧ ∀ j ∈ Region.ready md ops (L p q), j = i ∨ (p = false ∧ j = f) ∨ (q = false ∧ j = g))
    (hof : ops[f]? = some of) (hgf : of.guard = none) (hog : ops[g]? = some og) (hgg : og.guard = none) (hoi : ops[i]? = some oi) (hgi : oi.guard = none)
    (hL : ∀ q, (L false q).setIfInBounds f true = L true q) (hL2 : ∀ p, (L p false).setIfInBounds g true = L p true)
    (hk : ∀ u W W', F u W → Below W.heap.size W W' → F u W') (hk2 : ∀ u W W', G u W → Below W.heap.size W W' → G u W')
    (hfl : ∀ u v W, Below w1.heap.size w1 W → ∀ K : Act → World → Prop, (∀ u' W', Ex X w0 W' → F u' W' → Below W.heap.size W W' → K (A u' v) W') → of.wp P (A u v) W K Q)
    (hgl : ∀ u v W, Below w1.heap.size w1 W → ∀ K : Act → World → Prop, (∀ v' W', Ex X w0 W' → G v' W' → Below W.heap.size W W' → K (A u v') W') → og.wp P (A u v) W K Q)
    (hst : ∀ (p q : Bool) (u v : Value) (W : World) (fuel : Nat), c + (!p).toNat + (!q).toNat ≤ fuel → (p = true → F u W) → (q = true → G v W) → Below w1.heap.size w1 W → ∀ K : Act → World → Prop, (∀ a' W', (Ex X w0 W' ∧ anyB P md ops Q X w0 fuel ((L p q).setIfInBounds i true) a' W') → K a' W') → oi.wp P (A u v) W K Q) :
    ∀ (n : Nat) (p q : Bool) (u v : Value) (W : World) (fuel : Nat), (!p).toNat + (!q).toNat ≤ n → c + 1 + (!p).toNat + (!q).toNat ≤ fuel → (p = true → F u W) → (q = true → G v W) → Below w1.heap.size w1 W → anyB P md ops Q X w0 fuel (L p q) (A u v) W := by
  intro n
  induction n with
  | zero =>
    intro p q u v W fuel hn hf hu hv hb
    cases p <;> cases q <;> simp at hn
    cases fuel with
    | zero => simp at hf
    | succ fuel =>
      obtain ⟨h0, hr⟩ := hr true true
      refine ⟨fun h => absurd h h0, fun j hj W' hW => ?_⟩
      rcases hr j hj with rfl | ⟨h, _⟩ | ⟨h, _⟩
      · exact wpOp_plain hoi hgi (hst true true u v W' fuel (by simp at hf ⊢; omega) (fun _ => hk _ _ _ (hu rfl) hW) (fun _ => hk2 _ _ _ (hv rfl) hW) (below_trans hb hW) _ (fun _ _ h => h))
      · cases h
      · cases h
  | succ n ih =>
    intro p q u v W fuel hn hf hu hv hb
    cases fuel with
    | zero => omega
    | succ fuel =>
      obtain ⟨h0, hr⟩ := hr p q
      refine ⟨fun h => absurd h h0, fun j hj W' hW => ?_⟩
      have hu' : p = true → F u W' := fun h => hk _ _ _ (hu h) hW
      have hv' : q = true → G v W' := fun h => hk2 _ _ _ (hv h) hW
      rcases hr j hj with rfl | ⟨rfl, rfl⟩ | ⟨rfl, rfl⟩
      · exact wpOp_plain hoi hgi (hst p q u v W' fuel (by omega) hu' hv' (below_trans hb hW) _ (fun _ _ h => h))
      · refine wpOp_plain hof hgf (hfl u v W' (below_trans hb hW) _ (fun u' W'' hx hu'' hW'' => ⟨hx, ?_⟩))
        rw [hL]
        exact ih true q u' v W'' fuel (by simp at hn ⊢; omega) (by simp at hf ⊢; omega) (fun _ => hu'') (fun h => hk2 _ _ _ (hv' h) hW'') (below_trans (below_trans hb hW) hW'')
      · refine wpOp_plain hog hgg (hgl u v W' (below_trans hb hW) _ (fun v' W'' hx hv'' hW'' => ⟨hx, ?_⟩))
        rw [hL2]
        exact ih p true u v' W'' fuel (by simp at hn ⊢; omega) (by simp at hf ⊢; omega) (fun h => hk _ _ _ (hu' h) hW'') (fun _ => hv'') (below_trans (below_trans hb hW) hW'')
/-- Both floats are waited for. -/
theorem anyB_flw2 {c f g : Nat} {of og : Oper} {L : Bool → Bool → Array Bool} {A : Value → Value → Act} {F G : Value → World → Prop}
    (hr : ∀ p q, (p && q) = false → Region.ready md ops (L p q) ≠ [] ∧ ∀ j ∈ Region.ready md ops (L p q), (p = false ∧ j = f) ∨ (q = false ∧ j = g))
    (hof : ops[f]? = some of) (hgf : of.guard = none) (hog : ops[g]? = some og) (hgg : og.guard = none)
    (hL : ∀ q, (L false q).setIfInBounds f true = L true q) (hL2 : ∀ p, (L p false).setIfInBounds g true = L p true)
    (hk : ∀ u W W', F u W → Below W.heap.size W W' → F u W') (hk2 : ∀ u W W', G u W → Below W.heap.size W W' → G u W')
    (hfl : ∀ u v W, Below w1.heap.size w1 W → ∀ K : Act → World → Prop, (∀ u' W', Ex X w0 W' → F u' W' → Below W.heap.size W W' → K (A u' v) W') → of.wp P (A u v) W K Q)
    (hgl : ∀ u v W, Below w1.heap.size w1 W → ∀ K : Act → World → Prop, (∀ v' W', Ex X w0 W' → G v' W' → Below W.heap.size W W' → K (A u v') W') → og.wp P (A u v) W K Q)
    (hst : ∀ (u v : Value) (W : World), F u W → G v W → Below w1.heap.size w1 W → anyB P md ops Q X w0 c (L true true) (A u v) W) :
    ∀ (n : Nat) (p q : Bool) (u v : Value) (W : World) (fuel : Nat), (!p).toNat + (!q).toNat ≤ n → c + (!p).toNat + (!q).toNat ≤ fuel → (p = true → F u W) → (q = true → G v W) → Below w1.heap.size w1 W → anyB P md ops Q X w0 fuel (L p q) (A u v) W := by
  intro n
  induction n with
  | zero =>
    intro p q u v W fuel hn hf hu hv hb
    cases p <;> cases q <;> simp at hn
    exact anyB_more c fuel _ _ _ (by simpa using hf) (hst u v W (hu rfl) (hv rfl) hb)
  | succ n ih =>
    intro p q u v W fuel hn hf hu hv hb
    cases hpq : (p && q) with
    | true =>
      simp only [Bool.and_eq_true] at hpq
      obtain ⟨rfl, rfl⟩ := hpq
      exact anyB_more c fuel _ _ _ (by simpa using hf) (hst u v W (hu rfl) (hv rfl) hb)
    | false =>
      cases fuel with
      | zero => cases p <;> cases q <;> simp at hf hpq
      | succ fuel =>
        obtain ⟨h0, hr⟩ := hr p q hpq
        refine ⟨fun h => absurd h h0, fun j hj W' hW => ?_⟩
        have hu' : p = true → F u W' := fun h => hk _ _ _ (hu h) hW
        have hv' : q = true → G v W' := fun h => hk2 _ _ _ (hv h) hW
        rcases hr j hj with ⟨rfl, rfl⟩ | ⟨rfl, rfl⟩
        · refine wpOp_plain hof hgf (hfl u v W' (below_trans hb hW) _ (fun u' W'' hx hu'' hW'' => ⟨hx, ?_⟩))
          rw [hL]
          exact ih true q u' v W'' fuel (by simp at hn ⊢; omega) (by simp at hf ⊢; omega) (fun _ => hu'') (fun h => hk2 _ _ _ (hv' h) hW'') (below_trans (below_trans hb hW) hW'')
        · refine wpOp_plain hog hgg (hgl u v W' (below_trans hb hW) _ (fun v' W'' hx hv'' hW'' => ⟨hx, ?_⟩))
          rw [hL2]
          exact ih p true u v' W'' fuel (by simp at hn ⊢; omega) (by simp at hf ⊢; omega) (fun h => hk _ _ _ (hu' h) hW'') (fun _ => hv'') (below_trans (below_trans hb hW) hW'')
end
/-- A block that an alloc has laid. -/
def AlF (B : Nat) (T : TypeId) (cs : Array Value) (u : Value) (W : World) : Prop := ∃ b, u = .pointer (some ⟨b, 0, none⟩) ∧ Blk W b T cs ∧ B ≤ b
theorem AlF.kept {B : Nat} {T : TypeId} {cs : Array Value} (u : Value) (W W' : World) (h : AlF B T cs u W) (hb : Below W.heap.size W W') : AlF B T cs u W' :=
  let ⟨b, e, k, l⟩ := h
  ⟨b, e, k.kept hb, l⟩
section
variable {P : Program} {ops : Array Oper} {md : Region.Mode} {Q : Exit → Act → World → Prop} {w0 w1 : World} {X : List Nat}
/-- The start with two floats: nothing is laid yet. -/
theorem anyB_float2 {l0 : Array Bool} {a0 : Act} {n : Nat} (c f g i d e : Nat) (F G : Value → World → Prop) {of og oi : Oper} (hn : c + 3 = n)
    (hr : ∀ p q, Region.ready md ops ((l0.setIfInBounds f p).setIfInBounds g q) ≠ [] ∧ ∀ j ∈ Region.ready md ops ((l0.setIfInBounds f p).setIfInBounds g q), j = i ∨ (p = false ∧ j = f) ∨ (q = false ∧ j = g))
    (hof : ops[f]? = some of) (hgf : of.guard = none) (hog : ops[g]? = some og) (hgg : og.guard = none) (hoi : ops[i]? = some oi) (hgi : oi.guard = none)
    (hl : (l0.setIfInBounds f false).setIfInBounds g false = l0) (ha : (a0.put (some d) undef).put (some e) undef = a0)
    (hL : ∀ q, ((l0.setIfInBounds f false).setIfInBounds g q).setIfInBounds f true = (l0.setIfInBounds f true).setIfInBounds g q) (hL2 : ∀ p, ((l0.setIfInBounds f p).setIfInBounds g false).setIfInBounds g true = (l0.setIfInBounds f p).setIfInBounds g true)
    (hk : ∀ u W W', F u W → Below W.heap.size W W' → F u W') (hk2 : ∀ u W W', G u W → Below W.heap.size W W' → G u W')
    (hfl : ∀ u v W, Below w1.heap.size w1 W → ∀ K : Act → World → Prop, (∀ u' W', Ex X w0 W' → F u' W' → Below W.heap.size W W' → K ((a0.put (some d) u').put (some e) v) W') → of.wp P ((a0.put (some d) u).put (some e) v) W K Q)
    (hgl : ∀ u v W, Below w1.heap.size w1 W → ∀ K : Act → World → Prop, (∀ v' W', Ex X w0 W' → G v' W' → Below W.heap.size W W' → K ((a0.put (some d) u).put (some e) v') W') → og.wp P ((a0.put (some d) u).put (some e) v) W K Q)
    (hst : ∀ (p q : Bool) (u v : Value) (W : World) (fuel : Nat), c + (!p).toNat + (!q).toNat ≤ fuel → (p = true → F u W) → (q = true → G v W) → Below w1.heap.size w1 W → ∀ K : Act → World → Prop, (∀ a' W', (Ex X w0 W' ∧ anyB P md ops Q X w0 fuel (((l0.setIfInBounds f p).setIfInBounds g q).setIfInBounds i true) a' W') → K a' W') → oi.wp P ((a0.put (some d) u).put (some e) v) W K Q) :
    anyB P md ops Q X w0 n l0 a0 w1 := by
  have h := anyB_fl2 (c := c) (L := fun p q => (l0.setIfInBounds f p).setIfInBounds g q) (A := fun u v => (a0.put (some d) u).put (some e) v) hr hof hgf hog hgg hoi hgi hL hL2 hk hk2 hfl hgl hst 2 false false undef undef w1 n (by simp) (by simp; omega) (fun h => by cases h) (fun h => by cases h) (Below.refl _ _)
  simp only [hl, ha] at h
  exact h
/-- The start with one float. -/
theorem anyB_float1 {l0 : Array Bool} {a0 : Act} {n : Nat} (c f i d : Nat) (F : Value → World → Prop) {of oi : Oper} (hn : c + 2 = n)
    (hT : Region.ready md ops (l0.setIfInBounds f true) = [i]) (h0 : Region.ready md ops (l0.setIfInBounds f false) ≠ []) (hF : ∀ j ∈ Region.ready md ops (l0.setIfInBounds f false), j = i ∨ j = f)
    (hof : ops[f]? = some of) (hgf : of.guard = none) (hoi : ops[i]? = some oi) (hgi : oi.guard = none)
    (hl : l0.setIfInBounds f false = l0) (ha : a0.put (some d) undef = a0) (hL : (l0.setIfInBounds f false).setIfInBounds f true = l0.setIfInBounds f true)
    (hk : ∀ u W W', F u W → Below W.heap.size W W' → F u W')
    (hfl : ∀ u W, Below w1.heap.size w1 W → ∀ K : Act → World → Prop, (∀ u' W', Ex X w0 W' → F u' W' → Below W.heap.size W W' → K (a0.put (some d) u') W') → of.wp P (a0.put (some d) u) W K Q)
    (hst : ∀ (p : Bool) (u : Value) (W : World) (fuel : Nat), c + (!p).toNat ≤ fuel → (p = true → F u W) → Below w1.heap.size w1 W → ∀ K : Act → World → Prop, (∀ a' W', (Ex X w0 W' ∧ anyB P md ops Q X w0 fuel ((l0.setIfInBounds f p).setIfInBounds i true) a' W') → K a' W') → oi.wp P (a0.put (some d) u) W K Q) :
    anyB P md ops Q X w0 n l0 a0 w1 := by
  have h := anyB_fl (c := c) (L := fun p => l0.setIfInBounds f p) (A := fun u => a0.put (some d) u) hT h0 hF hof hgf hoi hgi hL hk hfl hst false undef w1 n (by simp; omega) (fun h => by cases h) (Below.refl _ _)
  simp only [hl, ha] at h
  exact h
end
end Go.Proofs.YtphlojgmfkgeiaaGreatDoor
/- Yards: sections, switches and permits as rows of cells. -/
namespace Go.Proofs.YtphlojgmfkgeiaaGreatDoor
open Go Go.RowKit
structure Sec where
  n : ByteArray
  src : Bool
structure Sw where
  n : ByteArray
  k : ByteArray
  a : Int
  b : Int
  c : Bool
structure Pm where
  n : ByteArray
  s : Int
structure Yd where
  s : List Sec
  w : List Sw
  p : List Pm
def Sec.cells (x : Sec) : List Value := [.string x.n, .bool x.src]
def Sw.cells (x : Sw) : List Value := [.string x.n, .string x.k, .int .i64 x.a, .int .i64 x.b, .bool x.c]
def Pm.cells (x : Pm) : List Value := [.string x.n, .int .i64 x.s]
def secs (l : List Sec) : List Value := l.flatMap Sec.cells
def sws (l : List Sw) : List Value := l.flatMap Sw.cells
def pms (l : List Pm) : List Value := l.flatMap Pm.cells
theorem flat_len {α β : Type} {f : α → List β} {m : Nat} (hf : ∀ x, (f x).length = m) : ∀ l : List α, (l.flatMap f).length = l.length * m
  | [] => by simp
  | x :: r => by rw [List.flatMap_cons, List.length_append, hf, flat_len hf r, List.length_cons, Nat.succ_mul, Nat.add_comm]
theorem flat_get {α β : Type} {f : α → List β} {m : Nat} (hf : ∀ x, (f x).length = m) : ∀ (l : List α) (k j : Nat), j < m → (l.flatMap f)[k * m + j]? = (l[k]?).bind fun x => (f x)[j]?
  | [], k, j, _ => by simp
  | x :: r, 0, j, hj => by
    rw [List.flatMap_cons, Nat.zero_mul, Nat.zero_add, List.getElem?_append_left (by rw [hf]; exact hj)]
    rfl
  | x :: r, k + 1, j, hj => by
    rw [List.flatMap_cons, List.getElem?_append_right (by rw [hf, Nat.succ_mul]; omega), hf, show (k + 1) * m + j - m = k * m + j by rw [Nat.succ_mul]; omega, flat_get hf r k j hj]
    rfl
section
variable {w w' : World} {B n : Nat} {A : Option Addr}
theorem flat_at {α : Type} {f : α → List Value} {m : Nat} (hf : ∀ x, (f x).length = m) (hm : 0 < m) {l : List α} (h : Reads w B m A n (l.flatMap f)) : l.length = n ∧ ∀ k, (hk : k < l.length) → ∃ b o, A = some ⟨b, o, none⟩ ∧ b < B ∧ ∀ j u, (f l[k])[j]? = some u → w.cell? ⟨b, o + (k * m + j), none⟩ = some u := by
  have hl : l.length = n := by
    have := h.1
    rw [flat_len hf] at this
    exact Nat.eq_of_mul_eq_mul_right hm this
  refine ⟨hl, fun k hk => ?_⟩
  obtain ⟨b, o, rfl, hb, hc⟩ := h.2 (by omega)
  refine ⟨b, o, rfl, hb, fun j u hu => hc _ _ ?_⟩
  have hj : j < m := by rw [← hf l[k]]; exact (List.getElem?_eq_some_iff.1 hu).1
  rw [flat_get hf l k j hj, List.getElem?_eq_getElem hk]
  exact hu
theorem sec_at {l : List Sec} (h : Reads w B 2 A n (secs l)) : l.length = n ∧ ∀ k, (hk : k < l.length) → ∃ b o, A = some ⟨b, o, none⟩ ∧ b < B ∧ w.cell? ⟨b, o + k * 2, none⟩ = some (.string l[k].n) ∧ w.cell? ⟨b, o + k * 2 + 1, none⟩ = some (.bool l[k].src) := by
  obtain ⟨h1, h2⟩ := flat_at (f := Sec.cells) (fun _ => rfl) (by decide) h
  refine ⟨h1, fun k hk => ?_⟩
  obtain ⟨b, o, e, hb, hc⟩ := h2 k hk
  exact ⟨b, o, e, hb, hc 0 _ rfl, hc 1 _ rfl⟩
theorem pm_at {l : List Pm} (h : Reads w B 2 A n (pms l)) : l.length = n ∧ ∀ k, (hk : k < l.length) → ∃ b o, A = some ⟨b, o, none⟩ ∧ b < B ∧ w.cell? ⟨b, o + k * 2, none⟩ = some (.string l[k].n) ∧ w.cell? ⟨b, o + k * 2 + 1, none⟩ = some (.int .i64 l[k].s) := by
  obtain ⟨h1, h2⟩ := flat_at (f := Pm.cells) (fun _ => rfl) (by decide) h
  refine ⟨h1, fun k hk => ?_⟩
  obtain ⟨b, o, e, hb, hc⟩ := h2 k hk
  exact ⟨b, o, e, hb, hc 0 _ rfl, hc 1 _ rfl⟩
theorem sw_at {l : List Sw} (h : Reads w B 5 A n (sws l)) : l.length = n ∧ ∀ k, (hk : k < l.length) → ∃ b o, A = some ⟨b, o, none⟩ ∧ b < B ∧ w.cell? ⟨b, o + k * 5, none⟩ = some (.string l[k].n) ∧ w.cell? ⟨b, o + k * 5 + 1, none⟩ = some (.string l[k].k) ∧ w.cell? ⟨b, o + k * 5 + 2, none⟩ = some (.int .i64 l[k].a) ∧ w.cell? ⟨b, o + k * 5 + 3, none⟩ = some (.int .i64 l[k].b) ∧ w.cell? ⟨b, o + k * 5 + 4, none⟩ = some (.bool l[k].c) := by
  obtain ⟨h1, h2⟩ := flat_at (f := Sw.cells) (fun _ => rfl) (by decide) h
  refine ⟨h1, fun k hk => ?_⟩
  obtain ⟨b, o, e, hb, hc⟩ := h2 k hk
  exact ⟨b, o, e, hb, hc 0 _ rfl, hc 1 _ rfl, hc 2 _ rfl, hc 3 _ rfl, hc 4 _ rfl⟩
end
/-- A yard by value: three slices, whose cells lie below block B. -/
structure YdAt (w : World) (B : Nat) (A0 A1 A2 : Option Addr) (n0 n1 n2 : Nat) (y : Yd) : Prop where
  hs : Reads w B 2 A0 n0 (secs y.s)
  hw : Reads w B 5 A1 n1 (sws y.w)
  hp : Reads w B 2 A2 n2 (pms y.p)
theorem YdAt.below {w w' : World} {B : Nat} {A0 A1 A2 : Option Addr} {n0 n1 n2 : Nat} {y : Yd} (h : YdAt w B A0 A1 A2 n0 n1 n2 y) (hb : Below B w w') : YdAt w' B A0 A1 A2 n0 n1 n2 y :=
  ⟨h.hs.below hb, h.hw.below hb, h.hp.below hb⟩
theorem YdAt.more {w : World} {B B' : Nat} {A0 A1 A2 : Option Addr} {n0 n1 n2 : Nat} {y : Yd} (h : YdAt w B A0 A1 A2 n0 n1 n2 y) (hB : B ≤ B') : YdAt w B' A0 A1 A2 n0 n1 n2 y :=
  ⟨h.hs.more hB, h.hw.more hB, h.hp.more hB⟩
end Go.Proofs.YtphlojgmfkgeiaaGreatDoor
/- Reference of the yards: first contracts. -/
namespace Go.Proofs.YtphlojgmfkgeiaaGreatDoor
open Go.RowKit Go.Sort
set_option linter.unusedSimpArgs false
set_option linter.unusedVariables false
attribute [local go_sem] cell_if frozen_if grow_cell
def stUp (l : List Sw) : Nat → Int
  | 0 => 0
  | k + 1 => match l[k]? with
    | some x => if x.c then stUp l k + 2 ^ k else stUp l k
    | none => stUp l k
theorem stUp_bd (l : List Sw) : ∀ k, 0 ≤ stUp l k ∧ stUp l k < 2 ^ k
  | 0 => by simp [stUp]
  | k + 1 => by
    have h := stUp_bd l k
    have e : (2 : Int) ^ (k + 1) = 2 ^ k + 2 ^ k := by rw [Int.pow_succ]; omega
    simp only [stUp]
    split <;> (try split) <;> omega
theorem pow9 {k : Nat} (h : k ≤ 9) : (1 : Int) ≤ 2 ^ k ∧ (2 : Int) ^ k ≤ 512 := by
  rcases (show k = 0 ∨ k = 1 ∨ k = 2 ∨ k = 3 ∨ k = 4 ∨ k = 5 ∨ k = 6 ∨ k = 7 ∨ k = 8 ∨ k = 9 from by omega) with rfl | rfl | rfl | rfl | rfl | rfl | rfl | rfl | rfl | rfl <;> decide
theorem rState_any (B : Nat) (A0 A1 A2 : Option Addr) (n0 n1 n2 c0 c1 c2 : Nat) (y : Yd) (w : World) (h : YdAt w B A0 A1 A2 n0 n1 n2 y) (hB : B ≤ w.heap.size) (hn : n1 ≤ 9) :
    Calls Tryz.prog 45 #[.agg #[.slice A0 n0 c0, .slice A1 n1 c1, .slice A2 n2 c2]] w fun e w' => e = .returned (.int .i64 (stUp y.w n1)) ∧ Below w.heap.size w w' := by
  obtain ⟨hl, ha⟩ := sw_at h.hw
  have HL := Lib.hid hl
  have HA := Lib.hid ha
  have HY := Lib.hid h
  clear hl ha h
  go_enter Tryz.func45, Tryz.ntmps45
  go_wp2_with fail
  go_loopw [3, 4] (fun s i wr => ∃ k : Nat, k ≤ n1 ∧ i = .int .i64 k ∧ s = .int .i64 (stUp y.w k) ∧ Blk wr w.heap.size 26 #[.slice A0 n0 c0, .slice A1 n1 c1, .slice A2 n2 c2] ∧ Below w.heap.size w wr) (fun _ i _ => n1 - (intOf i).toNat)
  case atStart => exact ⟨0, by omega, rfl, rfl, bk_, bl_⟩
  case round =>
    obtain ⟨k, hk, rfl, rfl, hy, hb⟩ := hrel
    have HYB := Lib.hid hy
    have vy := hy.cell
    have hp := stUp_bd y.w k
    have hp9 := pow9 (k := k) (by omega)
    clear hy
    by_cases hlt : k < n1
    · have hkl : k < y.w.length := by rw [HL.out]; exact hlt
      obtain ⟨b, o, rfl, hbb, z0, z1, z2, z3, z4⟩ := HA.out k hkl
      have T : Hid (stUp y.w (k + 1) = if y.w[k].c then stUp y.w k + 2 ^ k else stUp y.w k) := by
        show _ = _
        simp only [stUp, List.getElem?_eq_getElem hkl]
      rw [← hb.cell (p := ⟨b, o + k * 5 + 4, none⟩) (by simp; omega)] at z4
      generalize y.w[k].c = c at *
      generalize stUp y.w k = s at *
      clear z0 z1 z2 z3
      obtain ⟨hp1, hp2⟩ := hp
      obtain ⟨hp3, hp4⟩ := hp9
      cases c with
      | true =>
        go_wp2_with fail
        go_roundw
        case rel => exact ⟨k + 1, by omega, by go_num, by rw [T.out]; rfl, HYB.out, hb⟩
        case measure => simp [intOf]; omega
      | false =>
        go_wp2_with fail
        go_roundw
        case rel => exact ⟨k + 1, by omega, by go_num, by rw [T.out]; rfl, HYB.out, hb⟩
        case measure => simp [intOf]; omega
    · obtain rfl : k = n1 := by omega
      go_wp2_with fail
      go_ret
      exact ⟨rfl, hb⟩
end Go.Proofs.YtphlojgmfkgeiaaGreatDoor
/- Leaves. -/
namespace Go.Proofs.YtphlojgmfkgeiaaGreatDoor
open Go.RowKit Go.Sort
set_option linter.unusedSimpArgs false
set_option linter.unusedVariables false
attribute [local go_sem] cell_if frozen_if grow_cell
theorem has_any (A0 A1 A2 : Option Addr) (n0 n1 n2 c0 c1 c2 : Nat) (i : Int) (w : World) :
    Calls Tryz.prog 144 #[.agg #[.slice A0 n0 c0, .slice A1 n1 c1, .slice A2 n2 c2], .int .i64 i] w fun e w' => e = .returned (.bool (decide (0 ≤ i ∧ i < n0))) ∧ Below w.heap.size w w' := by
  by_cases h0 : 0 ≤ i
  · by_cases h1 : i < n0
    · have e : decide (0 ≤ i ∧ i < n0) = true := by simp; omega
      (rw [e]; clear e; go_enter Tryz.func144, Tryz.ntmps144; go_wp2; go_ret; exact ⟨by first | rfl | (simp; done) | (simp; omega), bl_⟩)
    · have e : decide (0 ≤ i ∧ i < n0) = false := by simp; omega
      (rw [e]; clear e; go_enter Tryz.func144, Tryz.ntmps144; go_wp2; go_ret; exact ⟨by first | rfl | (simp; done) | (simp; omega), bl_⟩)
  · have e : decide (0 ≤ i ∧ i < n0) = false := by simp; omega
    (rw [e]; clear e; go_enter Tryz.func144, Tryz.ntmps144; go_wp2; go_ret; exact ⟨by first | rfl | (simp; done) | (simp; omega), bl_⟩)
theorem phas_any (A0 A1 A2 : Option Addr) (n0 n1 n2 c0 c1 c2 : Nat) (i : Int) (w : World) :
    Calls Tryz.prog 115 #[.agg #[.slice A0 n0 c0, .slice A1 n1 c1, .slice A2 n2 c2], .int .i64 i] w fun e w' => e = .returned (.bool (decide (0 ≤ i ∧ i < n0))) ∧ Below w.heap.size w w' := by
  by_cases h0 : 0 ≤ i
  · by_cases h1 : i < n0
    · have e : decide (0 ≤ i ∧ i < n0) = true := by simp; omega
      (rw [e]; clear e; go_enter Tryz.func115, Tryz.ntmps115; go_wp2; go_ret; exact ⟨by first | rfl | (simp; done) | (simp; omega), bl_⟩)
    · have e : decide (0 ≤ i ∧ i < n0) = false := by simp; omega
      (rw [e]; clear e; go_enter Tryz.func115, Tryz.ntmps115; go_wp2; go_ret; exact ⟨by first | rfl | (simp; done) | (simp; omega), bl_⟩)
  · have e : decide (0 ≤ i ∧ i < n0) = false := by simp; omega
    (rw [e]; clear e; go_enter Tryz.func115, Tryz.ntmps115; go_wp2; go_ret; exact ⟨by first | rfl | (simp; done) | (simp; omega), bl_⟩)
def earthL : List UInt8 := [101, 97, 114, 116, 104]
def breakerL : List UInt8 := [98, 114, 101, 97, 107, 101, 114]
def joinsB (x : Sw) (all : Bool) : Bool := !(x.k.toList == earthL) && (x.c || all && x.k.toList == breakerL)
theorem joins_any (x : Sw) (all : Bool) (w : World) :
    Calls Tryz.prog 162 #[.agg #[.string x.n, .string x.k, .int .i64 x.a, .int .i64 x.b, .bool x.c], .bool all] w fun e w' => e = .returned (.bool (joinsB x all)) ∧ Below w.heap.size w w' := by
  obtain ⟨n, k, a, b, c⟩ := x
  unfold joinsB earthL breakerL
  dsimp only
  cases h0 : (k.toList == [101, 97, 114, 116, 104]) <;> cases c <;> cases all <;> cases h1 : (k.toList == [98, 114, 101, 97, 107, 101, 114]) <;> (go_enter Tryz.func162, Tryz.ntmps162; go_wp2; go_ret; exact ⟨by first | rfl | (simp; done) | (simp [*]; done), bl_⟩)
theorem or_pow {s : Int} {k : Nat} (h0 : 0 ≤ s) (h1 : s < 2 ^ k) (hk : k ≤ 9) : bits BinOp.or IntKind.i64 s (2 ^ k) = s + 2 ^ k := by
  obtain ⟨n, rfl⟩ := Int.eq_ofNat_of_zero_le h0
  have e2 : (2 : Int) ^ k = ((2 ^ k : Nat) : Int) := by simp
  have hk2 : 2 ^ k ≤ 2 ^ 9 := Nat.pow_le_pow_right (by omega) hk
  rw [e2] at h1 ⊢
  have e3 : n ||| 2 ^ k = 2 ^ k + n := by
    have := Nat.two_pow_add_eq_or_of_lt (i := k) (b := n) (by omega) 1
    rw [Nat.mul_one] at this
    rw [Nat.or_comm, ← this]
  generalize 2 ^ k = m at *
  have hb : bits BinOp.or IntKind.i64 (n : Int) (m : Int) = IntKind.i64.wrap (((BitVec.ofInt 64 (n : Int) ||| BitVec.ofInt 64 (m : Int)).toNat : Nat) : Int) := rfl
  have m1 : ((n : Int) % ((2 ^ 64 : Nat) : Int)).toNat = n := by omega
  have m2 : ((m : Int) % ((2 ^ 64 : Nat) : Int)).toNat = m := by omega
  rw [hb, BitVec.toNat_or, BitVec.toNat_ofInt, BitVec.toNat_ofInt, m1, m2, e3]
  first
    | (show wrap64 _ = _; unfold wrap64; omega)
    | (simp [IntKind.wrap, IntKind.bits, IntKind.signed]; omega)
theorem pstate_any (B : Nat) (A0 A1 A2 : Option Addr) (n0 n1 n2 c0 c1 c2 : Nat) (y : Yd) (w : World) (h : YdAt w B A0 A1 A2 n0 n1 n2 y) (hB : B ≤ w.heap.size) (hn : n1 ≤ 9) :
    Calls Tryz.prog 90 #[.agg #[.slice A0 n0 c0, .slice A1 n1 c1, .slice A2 n2 c2]] w fun e w' => e = .returned (.int .i64 (stUp y.w n1)) ∧ Below w.heap.size w w' := by
  obtain ⟨hl, ha⟩ := sw_at h.hw
  have HL := Lib.hid hl
  have HA := Lib.hid ha
  have HY := Lib.hid h
  clear hl ha h
  go_enter Tryz.func90, Tryz.ntmps90
  go_wp2_with fail
  go_loopw [3, 9] (fun s i wr => ∃ k : Nat, k ≤ n1 ∧ i = .int .i64 k ∧ s = .int .i64 (stUp y.w k) ∧ Below w.heap.size w wr) (fun _ i _ => n1 - (intOf i).toNat)
  case atStart => exact ⟨0, by omega, rfl, rfl, bl_⟩
  case round =>
    obtain ⟨k, hk, rfl, rfl, hb⟩ := hrel
    have hp := stUp_bd y.w k
    have hp9 := pow9 (k := k) (by omega)
    by_cases hlt : k < n1
    · have hkl : k < y.w.length := by rw [HL.out]; exact hlt
      obtain ⟨b, o, rfl, hbb, z0, z1, z2, z3, z4⟩ := HA.out k hkl
      have T : Hid (stUp y.w (k + 1) = if y.w[k].c then stUp y.w k + 2 ^ k else stUp y.w k) := by
        show _ = _
        simp only [stUp, List.getElem?_eq_getElem hkl]
      have kb : ∀ i, wr.cell? ⟨b, i, none⟩ = w.cell? ⟨b, i, none⟩ := fun i => hb.cell (p := ⟨b, i, none⟩) (by simp; omega)
      rw [← kb] at z0 z1 z2 z3 z4
      clear kb
      generalize y.w[k] = x at *
      obtain ⟨xn, xk, xa, xb, c⟩ := x
      generalize stUp y.w k = s at *
      obtain ⟨hp1, hp2⟩ := hp
      obtain ⟨hp3, hp4⟩ := hp9
      have hs := hb.size
      dsimp only at z0 z1 z2 z3 z4 T
      cases c with
      | true =>
        go_wp2_with fail
        go_roundw
        case rel => exact ⟨k + 1, by omega, by go_num, by rw [T.out, or_pow hp1 hp2 (by omega)]; rfl, bl_⟩
        case measure => simp [intOf]; omega
      | false =>
        go_wp2_with fail
        go_roundw
        case rel => exact ⟨k + 1, by omega, by go_num, by rw [T.out]; rfl, bl_⟩
        case measure => simp [intOf]; omega
    · obtain rfl : k = n1 := by omega
      go_wp2_with fail
      go_ret
      exact ⟨rfl, hb⟩
end Go.Proofs.YtphlojgmfkgeiaaGreatDoor
/- Words of the first reference: When, First, HasInt, HasWord. -/
namespace Go.Proofs.YtphlojgmfkgeiaaGreatDoor
open Go.RowKit Go.Sort
set_option linter.unusedSimpArgs false
set_option linter.unusedVariables false
attribute [local go_sem] cell_if frozen_if grow_cell
def whenE (b : Bool) (n : Int) : Int := if b then n else 0
def firstE (zs : List Int) : Int := (zs.find? (· != 0)).getD 0
theorem rWhen_any (b : Bool) (n : Int) (w : World) : Calls Tryz.prog 62 #[.bool b, .int .i64 n] w fun e w' => e = .returned (.int .i64 (whenE b n)) ∧ w = w' := by
  cases b
  all_goals
    go_enter Tryz.func62, Tryz.ntmps62
    go_wp2
    go_ret
    exact ⟨rfl, rfl⟩
theorem pwhen_any (b : Bool) (n : Int) (w : World) : Calls Tryz.prog 88 #[.bool b, .int .i64 n] w fun e w' => e = .returned (.int .i64 (whenE b n)) ∧ w = w' := by
  cases b
  all_goals
    go_enter Tryz.func88, Tryz.ntmps88
    go_wp2
    go_ret
    exact ⟨rfl, rfl⟩
theorem rFirst_any (B : Nat) (A : Option Addr) (n c : Nat) (zs : List Int) (w : World) (hr : Reads w B 1 A n (zs.map (.int .i64))) (hn : n ≤ maxLen) : Calls Tryz.prog 70 #[.slice A n c] w fun e w' => e = .returned (.int .i64 (firstE zs)) ∧ w = w' := by
  unfold maxLen at hn
  have hl : zs.length = n := by simpa using hr.1
  have Hl := Lib.hid hl; clear hl
  go_enter Tryz.func70, Tryz.ntmps70
  go_wp2
  go_loop [3] (fun  i => ∃ k : Nat, k ≤ n ∧ i = .int .i64 k ∧ firstE zs = firstE (zs.drop k)) (fun  i => n - (intOf i).toNat)
  case atStart => exact ⟨0, Nat.zero_le _, rfl, rfl⟩
  case round =>
    obtain ⟨k, hk, rfl, hf⟩ := hrel
    have Hf := Lib.hid hf; clear hf
    by_cases hlt : k < n
    · obtain ⟨b, o, u, rfl, _, hu, hc⟩ := hr.at_ hlt
      have hkl : k < zs.length := by rw [Hl.out]; exact hlt
      obtain rfl : u = .int .i64 zs[k] := by simpa [hkl] using hu.symm
      have Hd : Hid (zs.drop k = zs[k] :: zs.drop (k + 1)) := List.drop_eq_getElem_cons hkl
      clear hu
      generalize zs[k] = z at *
      by_cases hz : z = 0
      · subst hz
        go_wp2
        go_round
        case rel => exact ⟨k + 1, by omega, by go_num, by rw [Hf.out, Hd.out]; rfl⟩
        case measure => simp [intOf]; omega
      · have hz1 : (z != 0) = true := by simpa using hz
        go_wp2
        go_ret
        exact ⟨by rw [Hf.out, Hd.out]; simp [firstE, hz], rfl⟩
    · have hkn : k = n := by omega
      go_wp2
      go_ret
      exact ⟨by rw [Hf.out, hkn, ← Hl.out]; simp [firstE], rfl⟩
/-- At a list that the caller has just laid. -/
theorem rFirst_new (zs : List Int) (w : World) (t : TypeId) (n : Nat) (hl : zs.length = n) (hn : n ≤ maxLen) : Calls Tryz.prog 70 #[.slice (some ⟨w.heap.size, 0, none⟩) n n] (w.alloc (.cells (zs.map (.int .i64)).toArray t)) fun e w' => e = .returned (.int .i64 (firstE zs)) ∧ w.alloc (.cells (zs.map (.int .i64)).toArray t) = w' :=
  rFirst_any (w.heap.size + 1) _ n n zs _ (by simpa using Reads.new (size := 1) w (zs.map (.int .i64)).toArray t n (by simpa using hl)) hn
theorem pfirst_any (B : Nat) (A : Option Addr) (n c : Nat) (zs : List Int) (w : World) (hr : Reads w B 1 A n (zs.map (.int .i64))) (hn : n ≤ maxLen) : Calls Tryz.prog 108 #[.slice A n c] w fun e w' => e = .returned (.int .i64 (firstE zs)) ∧ w = w' := by
  unfold maxLen at hn
  have hl : zs.length = n := by simpa using hr.1
  have Hl := Lib.hid hl; clear hl
  go_enter Tryz.func108, Tryz.ntmps108
  go_wp2
  go_loop [4, 7] (fun _ i => ∃ k : Nat, k ≤ n ∧ i = .int .i64 k ∧ firstE zs = firstE (zs.drop k)) (fun _ i => n - (intOf i).toNat)
  case atStart => exact ⟨0, Nat.zero_le _, rfl, rfl⟩
  case round =>
    obtain ⟨k, hk, rfl, hf⟩ := hrel
    have Hf := Lib.hid hf; clear hf
    by_cases hlt : k < n
    · obtain ⟨b, o, u, rfl, _, hu, hc⟩ := hr.at_ hlt
      have hkl : k < zs.length := by rw [Hl.out]; exact hlt
      obtain rfl : u = .int .i64 zs[k] := by simpa [hkl] using hu.symm
      have Hd : Hid (zs.drop k = zs[k] :: zs.drop (k + 1)) := List.drop_eq_getElem_cons hkl
      clear hu
      generalize zs[k] = z at *
      by_cases hz : z = 0
      · subst hz
        go_wp2
        go_round
        case rel => exact ⟨k + 1, by omega, by go_num, by rw [Hf.out, Hd.out]; rfl⟩
        case measure => simp [intOf]; omega
      · have hz1 : (z != 0) = true := by simpa using hz
        go_wp2
        go_ret
        exact ⟨by rw [Hf.out, Hd.out]; simp [firstE, hz], rfl⟩
    · have hkn : k = n := by omega
      go_wp2
      go_ret
      exact ⟨by rw [Hf.out, hkn, ← Hl.out]; simp [firstE], rfl⟩
/-- At a list that the caller has just laid. -/
theorem pfirst_new (zs : List Int) (w : World) (t : TypeId) (n : Nat) (hl : zs.length = n) (hn : n ≤ maxLen) : Calls Tryz.prog 108 #[.slice (some ⟨w.heap.size, 0, none⟩) n n] (w.alloc (.cells (zs.map (.int .i64)).toArray t)) fun e w' => e = .returned (.int .i64 (firstE zs)) ∧ w.alloc (.cells (zs.map (.int .i64)).toArray t) = w' :=
  pfirst_any (w.heap.size + 1) _ n n zs _ (by simpa using Reads.new (size := 1) w (zs.map (.int .i64)).toArray t n (by simpa using hl)) hn
def hasI (zs : List Int) (z : Int) : Bool := zs.contains z
theorem hasI_cons (x : Int) (r : List Int) (z : Int) : hasI (x :: r) z = (x == z || hasI r z) := by
  unfold hasI
  rw [List.contains_cons]
  by_cases h : x = z
  · simp [h]
  · have h' : ¬ z = x := fun e => h e.symm
    rw [show (x == z) = false by simpa using h, show (z == x) = false by simpa using h']
theorem HasInt_any (B : Nat) (A : Option Addr) (n c : Nat) (zs : List Int) (z : Int) (w : World) (hr : Reads w B 1 A n (zs.map (.int .i64))) (hn : n ≤ maxLen) : Calls Tryz.prog 40 #[.slice A n c, .int .i64 z] w fun e w' => e = .returned (.bool (hasI zs z)) ∧ w = w' := by
  unfold maxLen at hn
  have hl : zs.length = n := by simpa using hr.1
  have Hl := Lib.hid hl; clear hl
  go_enter Tryz.func40, Tryz.ntmps40
  go_wp2
  go_loop [5] (fun i => ∃ k : Nat, k ≤ n ∧ i = .int .i64 k ∧ hasI zs z = hasI (zs.drop k) z) (fun i => n - (intOf i).toNat)
  case atStart => exact ⟨0, Nat.zero_le _, rfl, rfl⟩
  case round =>
    obtain ⟨k, hk, rfl, hf⟩ := hrel
    have Hf := Lib.hid hf; clear hf
    by_cases hlt : k < n
    · obtain ⟨b, o, u, rfl, _, hu, hc⟩ := hr.at_ hlt
      have hkl : k < zs.length := by rw [Hl.out]; exact hlt
      obtain rfl : u = .int .i64 zs[k] := by simpa [hkl] using hu.symm
      have Hd : Hid (zs.drop k = zs[k] :: zs.drop (k + 1)) := List.drop_eq_getElem_cons hkl
      clear hu
      generalize zs[k] = x at *
      by_cases hz : x = z
      · subst hz
        go_wp2
        go_ret
        exact ⟨by rw [Hf.out, Hd.out, hasI_cons]; simp, rfl⟩
      · have hz1 : (x == z) = false := by simpa using hz
        go_wp2
        go_round
        case rel => exact ⟨k + 1, by omega, by go_num, by rw [Hf.out, Hd.out, hasI_cons, hz1]; rfl⟩
        case measure => simp [intOf]; omega
    · have hkn : k = n := by omega
      go_wp2
      go_ret
      exact ⟨by rw [Hf.out, hkn, ← Hl.out]; simp [hasI], rfl⟩
end Go.Proofs.YtphlojgmfkgeiaaGreatDoor
/- Words of the first reference: HasWord, SameInts, SameWords. -/
namespace Go.Proofs.YtphlojgmfkgeiaaGreatDoor
open Go.RowKit Go.Sort
set_option linter.unusedSimpArgs false
set_option linter.unusedVariables false
attribute [local go_sem] cell_if frozen_if grow_cell
def hasW (ws : List ByteArray) (s : ByteArray) : Bool := ws.any fun t => t.toList == s.toList
theorem hasW_cons (x : ByteArray) (r : List ByteArray) (s : ByteArray) : hasW (x :: r) s = (x.toList == s.toList || hasW r s) := rfl
theorem HasWord_any (B : Nat) (A : Option Addr) (n c : Nat) (zs : List ByteArray) (z : ByteArray) (w : World) (hr : Reads w B 1 A n (zs.map .string)) (hn : n ≤ maxLen) : Calls Tryz.prog 41 #[.slice A n c, .string z] w fun e w' => e = .returned (.bool (hasW zs z)) ∧ w = w' := by
  unfold maxLen at hn
  have hl : zs.length = n := by simpa using hr.1
  have Hl := Lib.hid hl; clear hl
  go_enter Tryz.func41, Tryz.ntmps41
  go_wp2
  go_loop [5] (fun i => ∃ k : Nat, k ≤ n ∧ i = .int .i64 k ∧ hasW zs z = hasW (zs.drop k) z) (fun i => n - (intOf i).toNat)
  case atStart => exact ⟨0, Nat.zero_le _, rfl, rfl⟩
  case round =>
    obtain ⟨k, hk, rfl, hf⟩ := hrel
    have Hf := Lib.hid hf; clear hf
    by_cases hlt : k < n
    · obtain ⟨b, o, u, rfl, _, hu, hc⟩ := hr.at_ hlt
      have hkl : k < zs.length := by rw [Hl.out]; exact hlt
      obtain rfl : u = .string zs[k] := by simpa [hkl] using hu.symm
      have Hd : Hid (zs.drop k = zs[k] :: zs.drop (k + 1)) := List.drop_eq_getElem_cons hkl
      clear hu
      generalize zs[k] = x at *
      cases hz : (x.toList == z.toList) with
      | true =>
        go_wp2
        go_ret
        exact ⟨by rw [Hf.out, Hd.out, hasW_cons, hz]; rfl, rfl⟩
      | false =>
        go_wp2
        go_round
        case rel => exact ⟨k + 1, by omega, by go_num, by rw [Hf.out, Hd.out, hasW_cons, hz]; rfl⟩
        case measure => simp [intOf]; omega
    · have hkn : k = n := by omega
      go_wp2
      go_ret
      exact ⟨by rw [Hf.out, hkn, ← Hl.out]; simp [hasW], rfl⟩
end Go.Proofs.YtphlojgmfkgeiaaGreatDoor
/- Finding by name. -/
namespace Go.Proofs.YtphlojgmfkgeiaaGreatDoor
open Go.RowKit Go.Sort
set_option linter.unusedSimpArgs false
set_option linter.unusedVariables false
attribute [local go_sem] cell_if frozen_if grow_cell
def findFrom (k : Nat) : List ByteArray → ByteArray → Int
  | [], _ => -1
  | x :: r, s => if x.toList == s.toList then k else findFrom (k + 1) r s
theorem findFrom_cons (k : Nat) (x : ByteArray) (r : List ByteArray) (s : ByteArray) : findFrom k (x :: r) s = if x.toList == s.toList then (k : Int) else findFrom (k + 1) r s := rfl
def findI (l : List ByteArray) (s : ByteArray) : Int := findFrom 0 l s
theorem FindSwitch_any (B : Nat) (A0 A1 A2 : Option Addr) (n0 n1 n2 c0 c1 c2 : Nat) (y : Yd) (s : ByteArray) (n : Nat) (w : World) (h : YdAt w B A0 A1 A2 n0 n1 n2 y) (hB : B ≤ w.heap.size) (hn : n ≤ n1) (hm : n1 ≤ maxLen) :
    Calls Tryz.prog 61 #[.agg #[.slice A0 n0 c0, .slice A1 n1 c1, .slice A2 n2 c2], .string s, .int .i64 n] w fun e w' => e = .returned (.int .i64 (findI ((y.w.map Sw.n).take n) s)) ∧ Below w.heap.size w w' := by
  unfold maxLen at hm
  obtain ⟨hl, ha⟩ := sw_at h.hw
  have HL := Lib.hid hl
  have HA := Lib.hid ha
  clear hl ha h
  go_enter Tryz.func61, Tryz.ntmps61
  go_wp2_with fail
  go_loopw [7] (fun i wr => ∃ k : Nat, k ≤ n ∧ i = .int .i64 k ∧ findI ((y.w.map Sw.n).take n) s = findFrom k (((y.w.map Sw.n).take n).drop k) s ∧ wr = w.alloc (.cells #[.slice A0 n0 c0, .slice A1 n1 c1, .slice A2 n2 c2] 26)) (fun i _ => n - (intOf i).toNat)
  case atStart => exact ⟨0, by omega, rfl, rfl, rfl⟩
  case round =>
    obtain ⟨k, hk, rfl, hf, rfl⟩ := hrel
    have Hf := Lib.hid hf; clear hf
    by_cases hlt : k < n
    · have hkl : k < y.w.length := by rw [HL.out]; omega
      obtain ⟨b, o, eA, hbb, z0, zr⟩ := HA.out k hkl
      clear zr
      rw [← World.cell?_alloc_lt w (.cells #[.slice A0 n0 c0, .slice A1 n1 c1, .slice A2 n2 c2] 26) ⟨b, _, none⟩ (by simp; omega)] at z0
      subst eA
      have Hd : Hid (((y.w.map Sw.n).take n).drop k = y.w[k].n :: ((y.w.map Sw.n).take n).drop (k + 1)) := by
        show _ = _
        rw [List.drop_eq_getElem_cons (by simp; omega)]
        simp
      generalize y.w[k].n = x at *
      cases hz : (x.toList == s.toList) with
      | true =>
        go_wp2
        go_ret
        exact ⟨by rw [Hf.out, Hd.out, findFrom_cons, hz]; rfl, bl_⟩
      | false =>
        go_wp2
        go_roundw
        case rel => exact ⟨k + 1, by omega, by go_num, by rw [Hf.out, Hd.out, findFrom_cons, hz]; rfl, by first | trivial | rfl⟩
        case measure => simp [intOf]; omega
    · have hkn : k = n := by omega
      go_wp2
      go_ret
      exact ⟨by rw [Hf.out, hkn]; simp [findFrom], bl_⟩
theorem FindSection_any (B : Nat) (A0 A1 A2 : Option Addr) (n0 n1 n2 c0 c1 c2 : Nat) (y : Yd) (s : ByteArray) (n : Nat) (w : World) (h : YdAt w B A0 A1 A2 n0 n1 n2 y) (hB : B ≤ w.heap.size) (hn : n ≤ n0) (hm : n0 ≤ maxLen) :
    Calls Tryz.prog 91 #[.agg #[.slice A0 n0 c0, .slice A1 n1 c1, .slice A2 n2 c2], .string s, .int .i64 n] w fun e w' => e = .returned (.int .i64 (findI ((y.s.map Sec.n).take n) s)) ∧ Below w.heap.size w w' := by
  unfold maxLen at hm
  obtain ⟨hl, ha⟩ := sec_at h.hs
  have HL := Lib.hid hl
  have HA := Lib.hid ha
  clear hl ha h
  go_enter Tryz.func91, Tryz.ntmps91
  go_wp2_with fail
  go_loopw [7] (fun i wr => ∃ k : Nat, k ≤ n ∧ i = .int .i64 k ∧ findI ((y.s.map Sec.n).take n) s = findFrom k (((y.s.map Sec.n).take n).drop k) s ∧ wr = w.alloc (.cells #[.slice A0 n0 c0, .slice A1 n1 c1, .slice A2 n2 c2] 26)) (fun i _ => n - (intOf i).toNat)
  case atStart => exact ⟨0, by omega, rfl, rfl, rfl⟩
  case round =>
    obtain ⟨k, hk, rfl, hf, rfl⟩ := hrel
    have Hf := Lib.hid hf; clear hf
    by_cases hlt : k < n
    · have hkl : k < y.s.length := by rw [HL.out]; omega
      obtain ⟨b, o, eA, hbb, z0, zr⟩ := HA.out k hkl
      clear zr
      rw [← World.cell?_alloc_lt w (.cells #[.slice A0 n0 c0, .slice A1 n1 c1, .slice A2 n2 c2] 26) ⟨b, _, none⟩ (by simp; omega)] at z0
      subst eA
      have Hd : Hid (((y.s.map Sec.n).take n).drop k = y.s[k].n :: ((y.s.map Sec.n).take n).drop (k + 1)) := by
        show _ = _
        rw [List.drop_eq_getElem_cons (by simp; omega)]
        simp
      generalize y.s[k].n = x at *
      cases hz : (x.toList == s.toList) with
      | true =>
        go_wp2
        go_ret
        exact ⟨by rw [Hf.out, Hd.out, findFrom_cons, hz]; rfl, bl_⟩
      | false =>
        go_wp2
        go_roundw
        case rel => exact ⟨k + 1, by omega, by go_num, by rw [Hf.out, Hd.out, findFrom_cons, hz]; rfl, by first | trivial | rfl⟩
        case measure => simp [intOf]; omega
    · have hkn : k = n := by omega
      go_wp2
      go_ret
      exact ⟨by rw [Hf.out, hkn]; simp [findFrom], bl_⟩
theorem FindPermit_any (B : Nat) (A0 A1 A2 : Option Addr) (n0 n1 n2 c0 c1 c2 : Nat) (y : Yd) (s : ByteArray) (n : Nat) (w : World) (h : YdAt w B A0 A1 A2 n0 n1 n2 y) (hB : B ≤ w.heap.size) (hn : n ≤ n2) (hm : n2 ≤ maxLen) :
    Calls Tryz.prog 141 #[.agg #[.slice A0 n0 c0, .slice A1 n1 c1, .slice A2 n2 c2], .string s, .int .i64 n] w fun e w' => e = .returned (.int .i64 (findI ((y.p.map Pm.n).take n) s)) ∧ Below w.heap.size w w' := by
  unfold maxLen at hm
  obtain ⟨hl, ha⟩ := pm_at h.hp
  have HL := Lib.hid hl
  have HA := Lib.hid ha
  clear hl ha h
  go_enter Tryz.func141, Tryz.ntmps141
  go_wp2_with fail
  go_loopw [7] (fun i wr => ∃ k : Nat, k ≤ n ∧ i = .int .i64 k ∧ findI ((y.p.map Pm.n).take n) s = findFrom k (((y.p.map Pm.n).take n).drop k) s ∧ wr = w.alloc (.cells #[.slice A0 n0 c0, .slice A1 n1 c1, .slice A2 n2 c2] 26)) (fun i _ => n - (intOf i).toNat)
  case atStart => exact ⟨0, by omega, rfl, rfl, rfl⟩
  case round =>
    obtain ⟨k, hk, rfl, hf, rfl⟩ := hrel
    have Hf := Lib.hid hf; clear hf
    by_cases hlt : k < n
    · have hkl : k < y.p.length := by rw [HL.out]; omega
      obtain ⟨b, o, eA, hbb, z0, zr⟩ := HA.out k hkl
      clear zr
      rw [← World.cell?_alloc_lt w (.cells #[.slice A0 n0 c0, .slice A1 n1 c1, .slice A2 n2 c2] 26) ⟨b, _, none⟩ (by simp; omega)] at z0
      subst eA
      have Hd : Hid (((y.p.map Pm.n).take n).drop k = y.p[k].n :: ((y.p.map Pm.n).take n).drop (k + 1)) := by
        show _ = _
        rw [List.drop_eq_getElem_cons (by simp; omega)]
        simp
      generalize y.p[k].n = x at *
      cases hz : (x.toList == s.toList) with
      | true =>
        go_wp2
        go_ret
        exact ⟨by rw [Hf.out, Hd.out, findFrom_cons, hz]; rfl, bl_⟩
      | false =>
        go_wp2
        go_roundw
        case rel => exact ⟨k + 1, by omega, by go_num, by rw [Hf.out, Hd.out, findFrom_cons, hz]; rfl, by first | trivial | rfl⟩
        case measure => simp [intOf]; omega
    · have hkn : k = n := by omega
      go_wp2
      go_ret
      exact ⟨by rw [Hf.out, hkn]; simp [findFrom], bl_⟩
end Go.Proofs.YtphlojgmfkgeiaaGreatDoor
/- Sameness of lists. -/
namespace Go.Proofs.YtphlojgmfkgeiaaGreatDoor
open Go.RowKit Go.Sort
set_option linter.unusedSimpArgs false
set_option linter.unusedVariables false
attribute [local go_sem] cell_if frozen_if grow_cell
def sameI : List Int → List Int → Bool
  | [], [] => true
  | x :: r, z :: t => x == z && sameI r t
  | _, _ => false
theorem sameI_len : ∀ (xs ys : List Int), xs.length ≠ ys.length → sameI xs ys = false
  | [], [], h => absurd rfl h
  | [], _ :: _, _ => rfl
  | _ :: _, [], _ => rfl
  | x :: r, z :: t, h => by
    rw [sameI, sameI_len r t (by simpa using h)]
    simp
def sameW : List ByteArray → List ByteArray → Bool
  | [], [] => true
  | x :: r, z :: t => x.toList == z.toList && sameW r t
  | _, _ => false
theorem sameW_len : ∀ (xs ys : List ByteArray), xs.length ≠ ys.length → sameW xs ys = false
  | [], [], h => absurd rfl h
  | [], _ :: _, _ => rfl
  | _ :: _, [], _ => rfl
  | x :: r, z :: t, h => by
    rw [sameW, sameW_len r t (by simpa using h)]
    simp
theorem SameInts_any (B1 B2 : Nat) (A1 A2 : Option Addr) (n1 n2 c1 c2 : Nat) (xs ys : List Int) (w : World) (h1 : Reads w B1 1 A1 n1 (xs.map (Value.int .i64))) (h2 : Reads w B2 1 A2 n2 (ys.map (Value.int .i64))) (hB1 : B1 ≤ w.heap.size) (hB2 : B2 ≤ w.heap.size) (hn : n1 ≤ maxLen) (hm : n2 ≤ maxLen) :
    Calls Tryz.prog 37 #[.slice A1 n1 c1, .slice A2 n2 c2] w fun e w' => e = .returned (.bool (sameI xs ys)) ∧ Below w.heap.size w w' := by
  unfold maxLen at hn hm
  have hl1 : xs.length = n1 := by simpa using h1.1
  have hl2 : ys.length = n2 := by simpa using h2.1
  have HL1 := Lib.hid hl1
  have HL2 := Lib.hid hl2
  clear hl1 hl2
  by_cases hne : n1 = n2
  · subst hne
    go_enter Tryz.func37, Tryz.ntmps37
    go_wp2_with fail
    go_loopw [5] (fun i wr => ∃ k : Nat, k ≤ n1 ∧ i = .int .i64 k ∧ sameI xs ys = sameI (xs.drop k) (ys.drop k) ∧ Below w.heap.size w wr) (fun i _ => n1 - (intOf i).toNat)
    case atStart => exact ⟨0, by omega, rfl, rfl, bl_⟩
    case round =>
      obtain ⟨k, hk, rfl, hf, hb⟩ := hrel
      have Hf := Lib.hid hf; clear hf
      by_cases hlt : k < n1
      · obtain ⟨b, o, u, rfl, hbb, hu, hc⟩ := (h1.below (hb.mono hB1)).at_ hlt
        obtain ⟨b', o', u', rfl, hbb', hu', hc'⟩ := (h2.below (hb.mono hB2)).at_ hlt
        have hs := hb.size
        have hl1 : b < wr.heap.size := by omega
        have hl2 : b' < wr.heap.size := by omega
        have hkl : k < xs.length := by rw [HL1.out]; exact hlt
        have hkl' : k < ys.length := by rw [HL2.out]; exact hlt
        obtain rfl : u = (Value.int .i64) xs[k] := by simpa [hkl] using hu.symm
        obtain rfl : u' = (Value.int .i64) ys[k] := by simpa [hkl'] using hu'.symm
        have Hd : Hid (xs.drop k = xs[k] :: xs.drop (k + 1)) := List.drop_eq_getElem_cons hkl
        have Hd' : Hid (ys.drop k = ys[k] :: ys.drop (k + 1)) := List.drop_eq_getElem_cons hkl'
        clear hu hu'
        generalize xs[k] = x at *
        generalize ys[k] = z at *
        go_wp2_with fail
        (refine wp_region_all_below (by kernel_rfl) (by kernel_rfl) ?_; (repeat (go_big_quiet_step (fail))); refine wpQuiet_nil ?_)
        intro w1 hb1
        obtain ⟨hc1, hf1⟩ := ifs_of hb1; have hs1 := hb1.size; (try simp at hs1)
        cases hz : (x == z) with
        | true =>
          go_wp2_with fail
          go_roundw
          case rel => exact ⟨k + 1, by omega, by go_num, by rw [Hf.out, Hd.out, Hd'.out, sameI]; simp [hz], bl_⟩
          case measure => simp [intOf]; omega
        | false =>
          go_wp2_with fail
          go_ret
          exact ⟨by rw [Hf.out, Hd.out, Hd'.out, sameI]; simp [hz], bl_⟩
      · obtain rfl : k = n1 := by omega
        go_wp2_with fail
        go_ret
        exact ⟨by rw [Hf.out, List.drop_eq_nil_of_le (by rw [HL1.out]; exact Nat.le_refl _), List.drop_eq_nil_of_le (by rw [HL2.out]; exact Nat.le_refl _)]; rfl, bl_⟩
  · have e : sameI xs ys = false := sameI_len xs ys (by rw [HL1.out, HL2.out]; exact hne)
    have hq : ((n1 : Int) != (n2 : Int)) = true := by simp; omega
    rw [e]
    clear e
    go_enter Tryz.func37, Tryz.ntmps37
    go_wp2_with fail
    go_ret
    exact ⟨by first | rfl | (simp; done), bl_⟩
theorem SameWords_any (B1 B2 : Nat) (A1 A2 : Option Addr) (n1 n2 c1 c2 : Nat) (xs ys : List ByteArray) (w : World) (h1 : Reads w B1 1 A1 n1 (xs.map Value.string)) (h2 : Reads w B2 1 A2 n2 (ys.map Value.string)) (hB1 : B1 ≤ w.heap.size) (hB2 : B2 ≤ w.heap.size) (hn : n1 ≤ maxLen) (hm : n2 ≤ maxLen) :
    Calls Tryz.prog 79 #[.slice A1 n1 c1, .slice A2 n2 c2] w fun e w' => e = .returned (.bool (sameW xs ys)) ∧ Below w.heap.size w w' := by
  unfold maxLen at hn hm
  have hl1 : xs.length = n1 := by simpa using h1.1
  have hl2 : ys.length = n2 := by simpa using h2.1
  have HL1 := Lib.hid hl1
  have HL2 := Lib.hid hl2
  clear hl1 hl2
  by_cases hne : n1 = n2
  · subst hne
    go_enter Tryz.func79, Tryz.ntmps79
    go_wp2_with fail
    go_loopw [5] (fun i wr => ∃ k : Nat, k ≤ n1 ∧ i = .int .i64 k ∧ sameW xs ys = sameW (xs.drop k) (ys.drop k) ∧ Below w.heap.size w wr) (fun i _ => n1 - (intOf i).toNat)
    case atStart => exact ⟨0, by omega, rfl, rfl, bl_⟩
    case round =>
      obtain ⟨k, hk, rfl, hf, hb⟩ := hrel
      have Hf := Lib.hid hf; clear hf
      by_cases hlt : k < n1
      · obtain ⟨b, o, u, rfl, hbb, hu, hc⟩ := (h1.below (hb.mono hB1)).at_ hlt
        obtain ⟨b', o', u', rfl, hbb', hu', hc'⟩ := (h2.below (hb.mono hB2)).at_ hlt
        have hs := hb.size
        have hl1 : b < wr.heap.size := by omega
        have hl2 : b' < wr.heap.size := by omega
        have hkl : k < xs.length := by rw [HL1.out]; exact hlt
        have hkl' : k < ys.length := by rw [HL2.out]; exact hlt
        obtain rfl : u = Value.string xs[k] := by simpa [hkl] using hu.symm
        obtain rfl : u' = Value.string ys[k] := by simpa [hkl'] using hu'.symm
        have Hd : Hid (xs.drop k = xs[k] :: xs.drop (k + 1)) := List.drop_eq_getElem_cons hkl
        have Hd' : Hid (ys.drop k = ys[k] :: ys.drop (k + 1)) := List.drop_eq_getElem_cons hkl'
        clear hu hu'
        generalize xs[k] = x at *
        generalize ys[k] = z at *
        go_wp2_with fail
        (refine wp_region_all_below (by kernel_rfl) (by kernel_rfl) ?_; (repeat (go_big_quiet_step (fail))); refine wpQuiet_nil ?_)
        intro w1 hb1
        obtain ⟨hc1, hf1⟩ := ifs_of hb1; have hs1 := hb1.size; (try simp at hs1)
        cases hz : (x.toList == z.toList) with
        | true =>
          go_wp2_with fail
          go_roundw
          case rel => exact ⟨k + 1, by omega, by go_num, by rw [Hf.out, Hd.out, Hd'.out, sameW]; simp [hz], bl_⟩
          case measure => simp [intOf]; omega
        | false =>
          go_wp2_with fail
          go_ret
          exact ⟨by rw [Hf.out, Hd.out, Hd'.out, sameW]; simp [hz], bl_⟩
      · obtain rfl : k = n1 := by omega
        go_wp2_with fail
        go_ret
        exact ⟨by rw [Hf.out, List.drop_eq_nil_of_le (by rw [HL1.out]; exact Nat.le_refl _), List.drop_eq_nil_of_le (by rw [HL2.out]; exact Nat.le_refl _)]; rfl, bl_⟩
  · have e : sameW xs ys = false := sameW_len xs ys (by rw [HL1.out, HL2.out]; exact hne)
    have hq : ((n1 : Int) != (n2 : Int)) = true := by simp; omega
    rw [e]
    clear e
    go_enter Tryz.func79, Tryz.ntmps79
    go_wp2_with fail
    go_ret
    exact ⟨by first | rfl | (simp; done), bl_⟩
end Go.Proofs.YtphlojgmfkgeiaaGreatDoor
