/- A whole block loaded, a whole block stored: large rows without unrolling. -/
import Derived.Test.YtafnebfchhmgcaaGreatQa
import Derived.Deep.MidRow
import Derived.Laws.ResultCell
namespace Go.Proofs.YtafnebfchhmgcaaGreat
open Go Go.RowKit
theorem Blk.range {w : World} {g : Nat} {t : TypeId} {cs : Array Value} (h : Blk w g t cs) : w.rangeAt g 0 cs.toList := fun j v hv => by
  rw [Nat.zero_add, h.cell]
  simpa using hv
theorem Blk.there {w : World} {g : Nat} {t : TypeId} {cs : Array Value} (h : Blk w g t cs) : w.there g 0 cs.size := fun j hj => by
  rw [Nat.zero_add, h.cell, h.frozen]
  exact ⟨by simp [hj], rfl⟩
def setL (cs : Array Value) (o : Nat) : List Value → Array Value
  | [] => cs
  | v :: r => setL (cs.setIfInBounds o v) (o + 1) r
theorem setL_get : ∀ (vs : List Value) (cs : Array Value) (o i : Nat), o + vs.length ≤ cs.size → (setL cs o vs)[i]? = if o ≤ i ∧ i < o + vs.length then vs[i - o]? else cs[i]?
  | [], cs, o, i, _ => by
    rw [if_neg (by simp only [List.length_nil]; omega)]
    rfl
  | v :: r, cs, o, i, h => by
    simp only [List.length_cons] at h
    show (setL (cs.setIfInBounds o v) (o + 1) r)[i]? = _
    rw [setL_get r _ (o + 1) i (by simp; omega)]
    simp only [List.length_cons, Array.getElem?_setIfInBounds]
    by_cases h1 : o + 1 ≤ i ∧ i < o + 1 + r.length
    · rw [if_pos h1, if_pos (by omega), show i - o = (i - (o + 1)) + 1 by omega, List.getElem?_cons_succ]
    · rw [if_neg h1]
      by_cases h2 : o = i
      · subst h2
        rw [if_pos rfl, if_pos (by omega), if_pos (by omega)]
        simp
      · rw [if_neg h2, if_neg (by omega)]
theorem Blk.setL {w : World} {g : Nat} {t : TypeId} : ∀ (vs : List Value) {cs : Array Value} (o : Nat), Blk w g t cs → Blk (w.setCells g o vs) g t (setL cs o vs)
  | [], _, _, h => h
  | v :: r, cs, o, h => by
    rw [World.setCells]
    exact Blk.setL (w := w.setCell ⟨g, o, none⟩ v) r (o + 1) (h.set_ o v)
theorem Blk.stored {w : World} {g : Nat} {t : TypeId} {cs vs : Array Value} (h : Blk w g t cs) (hs : vs.size = cs.size) : Blk (w.setCells g 0 vs.toList) g t vs := by
  have h2 := h.setL vs.toList 0
  have e : YtafnebfchhmgcaaGreat.setL cs 0 vs.toList = vs := by
    apply Array.ext_getElem?
    intro i
    rw [setL_get _ _ _ _ (by simp; omega)]
    by_cases hi : i < vs.size
    · rw [if_pos (by simp; omega)]
      simp
    · rw [if_neg (by simp; omega)]
      rw [Array.getElem?_eq_none (by omega), Array.getElem?_eq_none (by omega)]
  rw [e] at h2
  exact h2
theorem blk_setCells {g b : Nat} {t : TypeId} {cs : Array Value} (hne : g ≠ b) : ∀ (vs : List Value) {w : World} (o : Nat), Blk w g t cs → Blk (w.setCells b o vs) g t cs
  | [], _, _, h => h
  | v :: r, w, o, h => by
    rw [World.setCells]
    exact blk_setCells hne r (o + 1) (h.far hne v)
theorem below_setCells {B b : Nat} {s : World} (hb : B ≤ b) : ∀ (vs : List Value) {a : World} (o : Nat), Below B s a → Below B s (a.setCells b o vs)
  | [], _, _, h => h
  | v :: r, a, o, h => by
    rw [World.setCells]
    exact below_setCells hb r (o + 1) (h.setCell (p := ⟨b, o, none⟩) hb v)
section
variable {P : Program}
theorem wpList_load_blk {ops : Array Oper} {rest : List Oper} {op : Oper} {a : Act} {w : World} {Q : Exit → Act → World → Prop} (hgd : op.guard = none) (ty : TypeId) (x : Operand) (ho : op.op = .load ty x)
    (g : Nat) (hx : a.eval x = .pointer (some ⟨g, 0, none⟩)) {t : TypeId} {cs : Array Value} (d : TypeDesc) (hb : Blk w g t cs) (hu : P.underlying ty = some d) (hd : d.isRow = true) (hi : (P.info? ty).map (·.size) = some cs.size)
    (h : wpList P ops Q rest (a.put op.dst (.agg cs)) w) : wpList P ops Q (op :: rest) a w := by
  refine wpList_load_mid hgd ty x ho g 0 hx cs.toList d hb.range hu hd (by simpa using hi) ?_
  simpa using h
theorem wpList_store_blk {ops : Array Oper} {rest : List Oper} {op : Oper} {a : Act} {w : World} {Q : Exit → Act → World → Prop} (hgd : op.guard = none) (ty : TypeId) (x y : Operand) (ho : op.op = .store ty x y)
    (g : Nat) (vs : Array Value) (hx : a.eval x = .pointer (some ⟨g, 0, none⟩)) (hy : a.eval y = .agg vs) {t : TypeId} {cs : Array Value} (hb : Blk w g t cs) (hs : vs.size = cs.size) (hi : (P.info? ty).map (·.size) = some vs.size) (h1 : vs.all (·.oneCell') = true)
    (h : ∀ w', Blk w' g t vs → (∀ k t' c, k ≠ g → Blk w k t' c → Blk w' k t' c) → (∀ B s, B ≤ g → Below B s w → Below B s w') → w.heap.size ≤ w'.heap.size → wpList P ops Q rest (a.put op.dst undef) w') : wpList P ops Q (op :: rest) a w := by
  refine wpList_store_mid hgd ty x y ho g 0 vs hx hy (by rw [hs]; exact hb.there) hi h1 ?_
  refine h _ (hb.stored hs) (fun k t' c hk hc => blk_setCells hk _ _ hc) (fun B s hB hh => below_setCells hB _ _ hh) ?_
  exact (below_setCells (B := 0) (s := w) (by omega) vs.toList 0 (⟨rfl, rfl, rfl, Nat.le_refl _, fun _ _ => rfl⟩)).size
/-- A result that is a whole block. -/
theorem run_loadVar_blk {w : World} {g : Nat} {t ty : TypeId} {cs : Array Value} (d : TypeDesc) (hb : Blk w g t cs) (hu : P.underlying ty = some d) (hd : d.isRow = true) (hi : (P.info? ty).map (·.size) = some cs.size) : (loadVar ty ⟨g, 0, none⟩).run P w = .ok (.agg cs) w := by
  have := run_loadVar_mid (P := P) w g 0 ty cs.toList d hb.range hu hd (by simpa using hi)
  simpa using this
theorem results_blk_tmp {fn : Func} {p u : Tmp} {ty : TypeId} (h : fn.results = #[.cell p ty, .tmp u]) (tmps : Array Value) (w : World) (g : Nat) (t : TypeId) (cs : Array Value) (d : TypeDesc) (v : Value)
    (hp : tmps.getD p undef = .pointer (some ⟨g, 0, none⟩)) (hb : Blk w g t cs) (hu : P.underlying ty = some d) (hd : d.isRow = true) (hi : (P.info? ty).map (·.size) = some cs.size) (hv : tmps.getD u undef = v) :
    (results fn tmps).run P w = .ok (.tuple #[.agg cs, v]) w := by
  rw [results_cell_tmp h, hp, hv]
  simp [asAddr, run_loadVar_blk d hb hu hd hi, Sem.run_pure, Result.andThen]
end
end Go.Proofs.YtafnebfchhmgcaaGreat
