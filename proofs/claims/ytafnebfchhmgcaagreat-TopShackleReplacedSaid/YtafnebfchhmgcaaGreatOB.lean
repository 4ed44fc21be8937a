/- Opening a law's arguments: arms, orders (with their room); a world for the witness: no variable is laid. -/
import Derived.Test.YtafnebfchhmgcaaGreatRows
import Derived.Test.YtafnebfchhmgcaaGreatQp
import Derived.Test.YtafnebfchhmgcaaGreatQe
import Derived.Deep.Strs
import Derived.Deep.Fields
import Derived.Deep.DeepHandedRow
import Derived.Lib.LaidTab
import Derived.Lib.SmallJoins
namespace Go.Proofs.YtafnebfchhmgcaaGreat
open Go.ChangeShapes Go.WideShapes Go.ChangeAt Go.RowKit Go.Joins Go.Deep
instance : Inhabited Md := ⟨⟨⟨#[]⟩, 0, false, false⟩⟩
instance : Inhabited Od := ⟨⟨0, 0⟩⟩
section
variable {H : Type} {enc : TypeId × Value → H} {W : World} {base : Nat} {sp : Nat → Bool} {held : Bool}
theorem spot_none {a : Addr} {v : Value} (h : W.cell? a = some v) : ∃ b o, a = ⟨b, o, none⟩ ∧ b < W.heap.size := by
  obtain ⟨b, o, s⟩ := a
  unfold World.cell? at h
  cases hh : W.heap[b]? with
  | none => simp [hh] at h
  | some ob =>
    have hb := (Array.getElem?_eq_some_iff.1 hh).1
    cases ob <;> simp [hh] at h
    obtain ⟨rfl, _⟩ := h
    exact ⟨b, o, rfl, hb⟩
theorem open_rows {α : Type} [Inhabited α] {Q : α → Prop} {f : α → List Value} {m : Nat} (hm : 0 < m) (hf : ∀ x, (f x).length = m) {t e : TypeId} {fuel : Nat} {cs : List Value} {x : DataW H × List MemPlace} (ht : Tryz.prog.underlying t = some (.slice e)) (hc : Tryz.prog.cellsOf e = m)
    (he : ∀ n cs y, DataW.trod enc Tryz.prog W base sp held n e cs = some y → ∃ z, Q z ∧ cs = f z) (h : DataW.trod enc Tryz.prog W base sp held fuel t cs = some x) :
    ∃ A n c, ∃ l : List α, cs = [.slice A n c] ∧ (n ≤ maxLen ∧ n ≤ c) ∧ l.length = n ∧ (∀ z ∈ l, Q z) ∧ Reads W W.heap.size m A n (l.flatMap f) := by
  rcases open_slice ht h with ⟨rfl, _⟩ | ⟨a, len, cap, k, n, D, Pl, rfl, hb, hl, hcap, hk, _, hx⟩
  · exact ⟨none, 0, 0, [], rfl, ⟨Nat.zero_le _, Nat.zero_le _⟩, rfl, by simp, by simp, fun h => absurd h (by omega)⟩
  · rw [hc] at hx
    have hlk : len ≤ k := by rw [hk]; split <;> omega
    obtain ⟨Z, hZ⟩ := choose_lt (n := len) (p := fun i z => Q z ∧ W.cells? base (a.add (i * m)) m = some (f z)) (fun i hi => by
      obtain ⟨cs', h1, h2⟩ := hx i (by omega)
      obtain ⟨z, hq, rfl⟩ := he _ _ _ h2
      exact ⟨z, hq, h1⟩)
    refine ⟨some a, len, cap, (List.range len).map Z, rfl, ⟨by omega, by omega⟩, by simp, ?_, ?_, ?_⟩
    · intro z hz
      obtain ⟨i, hi, rfl⟩ := List.mem_map.1 hz
      exact (hZ i (List.mem_range.1 hi)).1
    · rw [flat_len hf]; simp
    · intro h0
      have hcell : ∀ i r, i < len → r < m → W.cell? ((a.add (i * m)).add r) = (f (Z i))[r]? := fun i r hi hr => (World.cells?_some (hZ i hi).2).2.2 r hr
      obtain ⟨b, o, rfl, hblt⟩ : ∃ b o, a = ⟨b, o, none⟩ ∧ b < W.heap.size := by
        have h1 := hcell 0 0 h0 hm
        rw [Nat.zero_mul] at h1
        have e0 : (a.add 0).add 0 = a := by simp [Addr.add]
        rw [e0, List.getElem?_eq_getElem (by rw [hf]; exact hm)] at h1
        exact spot_none h1
      refine ⟨b, o, rfl, hblt, fun j u hu => ?_⟩
      have hj : j < len * m := by
        have h1 := (List.getElem?_eq_some_iff.1 hu).1
        rw [flat_len hf] at h1
        simpa using h1
      have hr : j % m < m := Nat.mod_lt _ hm
      have hq : j / m < len := Nat.div_lt_of_lt_mul (by rw [Nat.mul_comm]; exact hj)
      have ej : j / m * m + j % m = j := Nat.div_add_mod' j m
      have h1 := hcell (j / m) (j % m) hq hr
      rw [add_plain, add_plain, Nat.add_assoc, ej] at h1
      rw [← ej, flat_get hf _ _ _ hr, List.getElem?_map, List.getElem?_range hq] at hu
      exact h1.trans hu
/-- A struct of one-cell fields: each cell with its reading. -/
theorem cells_all {t : TypeId} {fs : Array Field} {n : Nat} {cs : List Value} {x : DataW H × List MemPlace} (ht : Tryz.prog.underlying t = some (.struct fs)) (hone : oneCellFields Tryz.prog fs = true) (hc : Tryz.prog.cellsOf t = fs.size)
    (h : DataW.trod enc Tryz.prog W base sp held n t cs = some x) : cs.length = fs.size ∧ ∃ k, ∀ (i : Nat) (f : Field), fs[i]? = some f → ∃ v y, cs[i]? = some v ∧ DataW.trod enc Tryz.prog W base sp held k f.type [v] = some y := by
  obtain ⟨xs, k, _, _, hl, hxl, hf⟩ := DataW.trod_struct ht h
  rw [hc] at hl
  refine ⟨hl, k, fun i f hi => ?_⟩
  have hlt : i < fs.size := (Array.getElem?_eq_some_iff.1 hi).1
  obtain ⟨o, c⟩ := hone_of hone i f hi
  have h1 := hf i f hi
  rw [o, c, List.drop_eq_getElem_cons (by omega), List.getElem?_eq_getElem (by omega)] at h1
  exact ⟨cs[i], xs[i], List.getElem?_eq_getElem (by omega), h1⟩
theorem str_open : ∀ n cs y, DataW.trod enc Tryz.prog W base sp held n 9 cs = some y → ∃ z : ByteArray, z.size ≤ maxLen ∧ cs = [Value.string z] := by
  intro n cs y h
  obtain ⟨s, rfl, _, hs⟩ := DataW.trod_string Tryz.underlying9 h
  exact ⟨s, hs, rfl⟩
theorem int_open : ∀ n cs y, DataW.trod enc Tryz.prog W base sp held n 3 cs = some y → ∃ z : Int, (Lit.int .i64 z).wf = true ∧ cs = [Value.int .i64 z] := by
  intro n cs y h
  obtain ⟨s, rfl, _, hs⟩ := DataW.trod_int Tryz.underlying3 h
  exact ⟨s, hs, rfl⟩
def I64 (z : Int) : Prop := -9223372036854775808 ≤ z ∧ z ≤ 9223372036854775807
theorem i64_of {z : Int} (h : (Lit.int .i64 z).wf = true) : I64 z := by
  simp only [Lit.wf, Bool.and_eq_true, decide_eq_true_eq] at h
  have e1 : IntKind.min .i64 = -9223372036854775808 := by decide
  have e2 : IntKind.max .i64 = 9223372036854775807 := by decide
  rw [e1, e2] at h
  exact h
def MdQ (x : Md) : Prop := x.n.size ≤ maxLen ∧ I64 x.q
def OdQ (x : Od) : Prop := I64 x.n ∧ I64 x.c
set_option maxRecDepth 100000 in
theorem md_open : ∀ n cs y, DataW.trod enc Tryz.prog W base sp held n 48 cs = some y → ∃ z : Md, MdQ z ∧ cs = z.cells := by
  intro n cs y h
  obtain ⟨hl, k, hall⟩ := cells_all Tryz.underlying48 (by kernel_rfl) (by kernel_rfl) h
  have hl' : cs.length = 4 := hl
  match cs, hl' with
  | [v0, v1, v2, v3], _ =>
    obtain ⟨_, y0, e0, h0⟩ := hall 0 _ rfl
    obtain ⟨_, y1, e1, h1⟩ := hall 1 _ rfl
    obtain ⟨_, y2, e2, h2⟩ := hall 2 _ rfl
    obtain ⟨_, y3, e3, h3⟩ := hall 3 _ rfl
    cases e0
    cases e1
    cases e2
    cases e3
    obtain ⟨s, g0, _, z0⟩ := DataW.trod_string Tryz.underlying9 h0
    obtain ⟨q, g1, _, z1⟩ := DataW.trod_int Tryz.underlying3 h1
    obtain ⟨a, g2, _⟩ := DataW.trod_bool Tryz.underlying4 h2
    obtain ⟨b, g3, _⟩ := DataW.trod_bool Tryz.underlying4 h3
    cases g0
    cases g1
    cases g2
    cases g3
    exact ⟨⟨s, q, a, b⟩, ⟨z0, i64_of z1⟩, rfl⟩
set_option maxRecDepth 100000 in
theorem od_open : ∀ n cs y, DataW.trod enc Tryz.prog W base sp held n 46 cs = some y → ∃ z : Od, OdQ z ∧ cs = z.cells := by
  intro n cs y h
  obtain ⟨hl, k, hall⟩ := cells_all Tryz.underlying46 (by kernel_rfl) (by kernel_rfl) h
  have hl' : cs.length = 2 := hl
  match cs, hl' with
  | [v0, v1], _ =>
    obtain ⟨_, y0, e0, h0⟩ := hall 0 _ rfl
    obtain ⟨_, y1, e1, h1⟩ := hall 1 _ rfl
    cases e0
    cases e1
    obtain ⟨s, g0, _, z0⟩ := DataW.trod_int Tryz.underlying3 h0
    obtain ⟨q, g1, _, z1⟩ := DataW.trod_int Tryz.underlying3 h1
    cases g0
    cases g1
    exact ⟨⟨s, q⟩, ⟨i64_of z0, i64_of z1⟩, rfl⟩
set_option maxRecDepth 100000 in
theorem open_arm {r : Reach} {b0 : Nat} {v : Value} {d : DataW H} {ps : List MemPlace} (hv : Value.okWide Tryz.prog W r b0 26 v) (h : DataW.Trod enc Tryz.prog W base sp held 26 v d ps) :
    ∃ A n c, ∃ a : Ar, v = .agg #[.slice A n c, .int .i64 a.lo, .int .i64 a.hi, .int .i64 a.cur, .int .i64 a.lim] ∧ MsAt W W.heap.size A n a.m ∧ n ≤ maxLen ∧ (∀ x ∈ a.m, MdQ x) ∧ I64 a.lo ∧ I64 a.hi ∧ I64 a.cur ∧ I64 a.lim := by
  obtain ⟨cs, rfl, hsz⟩ := okWide_struct Tryz.underlying26 hv
  obtain ⟨fuel, hf⟩ := h
  obtain ⟨xs, k, _, _, hl, hxl, hall⟩ := DataW.trod_struct Tryz.underlying26 hf
  obtain ⟨l⟩ := cs
  simp only [Value.cells] at hall hl
  rw [show Tryz.prog.cellsOf 26 = 5 by kernel_rfl] at hl
  match l, hl with
  | [v0, v1, v2, v3, v4], _ =>
    have h0 := hall 0 _ rfl
    have h1 := hall 1 _ rfl
    have h3 := hall 2 _ rfl
    have h4 := hall 3 _ rfl
    change DataW.trod enc Tryz.prog W base sp held k 22 (List.take (Tryz.prog.cellsOf 22) (List.drop 0 [v0, v1, v2, v3, v4])) = xs[0]? at h0
    rw [show Tryz.prog.cellsOf 22 = 1 by kernel_rfl] at h0
    change DataW.trod enc Tryz.prog W base sp held k 24 (List.take (Tryz.prog.cellsOf 24) (List.drop 1 [v0, v1, v2, v3, v4])) = xs[1]? at h1
    rw [show Tryz.prog.cellsOf 24 = 2 by kernel_rfl] at h1
    change DataW.trod enc Tryz.prog W base sp held k 3 (List.take (Tryz.prog.cellsOf 3) (List.drop 3 [v0, v1, v2, v3, v4])) = xs[2]? at h3
    rw [show Tryz.prog.cellsOf 3 = 1 by kernel_rfl] at h3
    change DataW.trod enc Tryz.prog W base sp held k 3 (List.take (Tryz.prog.cellsOf 3) (List.drop 4 [v0, v1, v2, v3, v4])) = xs[3]? at h4
    rw [show Tryz.prog.cellsOf 3 = 1 by kernel_rfl] at h4
    match xs, hxl with
    | [y0, y1, y3, y4], _ =>
      obtain ⟨A, n, c, m, e0, ⟨hm, _⟩, _, hq, hr⟩ := open_rows (f := Md.cells) (m := 4) (by decide) (fun _ => rfl) Tryz.underlying22 (by kernel_rfl) md_open h0
      obtain ⟨_, k2, hb⟩ := cells_all Tryz.underlying24 (by kernel_rfl) (by kernel_rfl) h1
      obtain ⟨_, _, e1, h1⟩ := hb 0 _ rfl
      obtain ⟨_, _, e2, h2⟩ := hb 1 _ rfl
      cases e1
      cases e2
      obtain ⟨lo, g1, _, z1⟩ := DataW.trod_int Tryz.underlying3 h1
      obtain ⟨hi, g2, _, z2⟩ := DataW.trod_int Tryz.underlying3 h2
      obtain ⟨cu, g3, _, z3⟩ := DataW.trod_int Tryz.underlying3 h3
      obtain ⟨li, g4, _, z4⟩ := DataW.trod_int Tryz.underlying3 h4
      cases e0
      cases g1
      cases g2
      cases g3
      cases g4
      exact ⟨A, n, c, ⟨m, lo, hi, cu, li⟩, rfl, hr, hm, hq, i64_of z1, i64_of z2, i64_of z3, i64_of z4⟩
set_option maxRecDepth 100000 in
theorem open_ods {r : Reach} {b0 : Nat} {v : Value} {d : DataW H} {ps : List MemPlace} (hv : Value.okWide Tryz.prog W r b0 27 v) (h : DataW.Trod enc Tryz.prog W base sp held 27 v d ps) :
    ∃ A n c, ∃ l : List Od, v = .slice A n c ∧ (n ≤ maxLen ∧ n ≤ c) ∧ l.length = n ∧ (∀ x ∈ l, OdQ x) ∧ Reads W W.heap.size 2 A n (ods l) := by
  obtain ⟨a, n, c, rfl⟩ := okWide_slice Tryz.underlying27 hv
  obtain ⟨fuel, hf⟩ := h
  obtain ⟨A, n', c', l, e, m, hl, hq, hr⟩ := open_rows (f := Od.cells) (m := 2) (by decide) (fun _ => rfl) Tryz.underlying27 (by kernel_rfl) od_open hf
  cases e
  exact ⟨_, _, _, l, rfl, m, hl, hq, hr⟩
end
theorem own_ : ownKnob Tryz.prog.godebug = none := by kernel_rfl
theorem laidOut_ : laidOutB Tryz.prog = true := by kernel_rfl
noncomputable def laidWorld0 (os : Os) : World := World.holding Tryz.prog os ⟨#[], #[], []⟩
end Go.Proofs.YtafnebfchhmgcaaGreat
