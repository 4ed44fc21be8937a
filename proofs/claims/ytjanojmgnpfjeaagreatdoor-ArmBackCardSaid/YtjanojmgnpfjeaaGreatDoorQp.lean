/- Joined texts: Fr OA. -/
import Derived.Test.YtjanojmgnpfjeaaGreatDoorRows
import Derived.WalkKit
import Derived.ProofKit
import Derived.OpenShut
import Derived.Lib.SmallJoins
import Derived.Test.YtjanojmgnpfjeaaGreatDoorQo
import Derived.Deep.Strs
import Derived.Deep.Fields
import Derived.Deep.DeepHandedRow
import Derived.Lib.LaidTab
/- The frame of a law: whatever its arguments, they read behind the call as they did before it, where nothing that was there has changed. -/
namespace Go.Proofs.YtjanojmgnpfjeaaGreatDoor
open Go.ChangeShapes Go.WideShapes Go.ChangeAt Go.RowKit Go.Joins Go.Deep
section
variable {H : Type} {enc : TypeId × Value → H} {P : Program}
theorem trodAll_stays (hl : laidOutB P = true) {W W' : World} (hb : Below W.heap.size W W') : ∀ {ts : List TypeId} {vs : List Value} {ds : List (DataW H)} {ps : List MemPlace},
    ts.all (fun t => P.readableRec t && decide (t < P.types.size)) = true → (∀ x ∈ ps, x.block < W.heap.size) →
    DataW.TrodAll enc P W 0 (fun _ => true) true ts vs ds ps → DataW.TrodAll enc P W' 0 (fun b => decide (b < W.heap.size)) true ts vs ds ps
  | [], [], [], _, _, _, h => h
  | t :: ts, v :: vs, d :: ds, ps, hr, hlt, h => by
    obtain ⟨p, q, h1, h2, rfl⟩ := h
    simp only [List.all_cons, Bool.and_eq_true, decide_eq_true_eq] at hr
    exact ⟨p, q, Below.trod hl hr.1.1 hr.1.2 h1 hb (fun x hx => hlt x (List.mem_append_left _ hx)), trodAll_stays hl hb hr.2 (fun x hx => hlt x (List.mem_append_right _ hx)) h2, rfl⟩
  | [], [], _ :: _, _, _, _, h => h.elim
  | [], _ :: _, _, _, _, _, h => h.elim
  | _ :: _, [], _, _, _, _, h => h.elim
  | _ :: _, _ :: _, [], _, _, _, h => h.elim
/-- What is asked of a law's call, out of what its walk gives. -/
theorem law_post {f : Func} {s : ChangeSpec} {B : TypeId} (hl : laidOutB P = true) (hB : P.underlying B = some .bool) (hr : f.resultTypes = #[B]) (hp : f.params.toList.all (fun t => P.readableRec t && decide (t < P.types.size)) = true) (hv : s.vars = [])
    {W W' : World} {args : Array Value} {ds gs : List (DataW H)} {before : List MemPlace} (hW : DataW.Whole enc P f.params.toList s.vars false W args.toList ds gs before)
    (hfn : s.fn H (ds ++ gs) = { results := [.lit (.bool true)], args := ds }) (hb : Below W.heap.size W W') : s.post enc P f false true false false W args (.bool true) W' := by
  have hlt : ∀ x ∈ before, x.block < W.heap.size := fun x hx => by simpa using hW.lt x hx
  have hW' := hW
  obtain ⟨p, q, hA, hV, rfl, _, _⟩ := hW
  refine ⟨ds, gs, p ++ q, [], p, [], hW', ?_, ?_, ?_, hb.frame _, fun h => by cases h⟩
  · rw [hr, hfn]
    exact ⟨[], [], shut_bool hB true, rfl, rfl⟩
  · rw [hfn]
    exact trodAll_stays hl hb hp (fun x hx => hlt x (List.mem_append_left _ hx)) hA
  · rw [hfn, hv]
    exact rfl
end
section
variable {P : Program} {W : World}
/-- A listed variable's reading. -/
theorem laid_at : ∀ {l : List (String × DataW Unit)} {ps : List MemPlace}, DataW.LaidVars P W l ps → ∀ {n : String} {d : DataW Unit}, (n, d) ∈ l →
    ∃ g t cs fuel p, P.globalNamed n = some g ∧ (P.globals[g]?).map (·.type) = some t ∧ W.var? P n = some cs ∧ DataW.trod (fun _ => ()) P W 0 (fun _ => true) false fuel t cs.toList = some (d, p)
  | [], _, _, _, _, hm => by cases hm
  | (n', d') :: r, ps, h, n, d, hm => by
    obtain ⟨g, t, cs, fuel, p, q, h1, h2, h3, h4, h5, _⟩ := h
    rcases List.mem_cons.1 hm with e | e
    · cases e
      exact ⟨g, t, cs, fuel, p, h1, h2, h3, h4⟩
    · exact laid_at h5 e
/-- What the words say of a variable, with its number and type put in. -/
theorem laid_cells {l : List (String × DataW Unit)} (h : laidMet P l W) {n : String} {d : DataW Unit} (hm : (n, d) ∈ l) {g : Nat} {t : TypeId} (hg : P.globalNamed n = some g) (ht : (P.globals[g]?).map (·.type) = some t) :
    ∃ cs fuel p, W.var? P n = some cs ∧ DataW.trod (fun _ => ()) P W 0 (fun _ => true) false fuel t cs.toList = some (d, p) := by
  obtain ⟨_, hv, _⟩ := h
  obtain ⟨g', t', cs, fuel, p, h1, h2, h3, h4⟩ := laid_at hv hm
  obtain rfl := Option.some.inj (hg.symm.trans h1)
  obtain rfl := Option.some.inj (ht.symm.trans h2)
  exact ⟨cs, fuel, p, h3, h4⟩
theorem hone_at {fs : Array Field} (h : oneCellFields P fs = true) (i : Nat) {f : Field} (hf : fs[i]? = some f) : f.offset = i ∧ P.cellsOf f.type = 1 := hone_of h i f hf
/-- A struct of two integers that reads as these. -/
theorem two_ints {H : Type} {enc : TypeId × Value → H} {base fuel : Nat} {sp : Nat → Bool} {held : Bool} {t : TypeId} {f0 f1 : Field} {k : IntKind} {cs : List Value} {a b : Int} {p : List MemPlace}
    (ht : P.underlying t = some (.struct #[f0, f1])) (hone : oneCellFields P #[f0, f1] = true) (h0 : P.underlying f0.type = some (.int k)) (h1 : P.underlying f1.type = some (.int k)) (hc : P.cellsOf t = 2)
    (h : DataW.trod enc P W base sp held fuel t cs = some (.agg [.lit (.int k a), .lit (.int k b)], p)) : cs = [.int k a, .int k b] := by
  obtain ⟨y0, y1, m, hx, hl, e0, e1⟩ := trod_struct2 ht h
  obtain ⟨o0, k0⟩ := hone_at (f := f0) hone 0 rfl
  obtain ⟨o1, k1⟩ := hone_at (f := f1) hone 1 rfl
  rw [o0, k0] at e0
  rw [o1, k1] at e1
  obtain ⟨n0, g0, rfl, _⟩ := DataW.trod_int h0 e0
  obtain ⟨n1, g1, rfl, _⟩ := DataW.trod_int h1 e1
  simp only [Prod.mk.injEq, DataW.agg.injEq, List.cons.injEq, DataW.lit.injEq, Lit.int.injEq, true_and, and_true] at hx
  obtain ⟨⟨rfl, rfl⟩, _⟩ := hx
  rw [hc] at hl
  match cs, hl with
  | [x, y], _ =>
    simp at g0 g1
    rw [g0, g1]
/-- An array of integers by value. -/
theorem open_array {H : Type} {enc : TypeId × Value → H} {base n : Nat} {r : Reach} {b0 : Nat} {sp : Nat → Bool} {held : Bool} {t e : TypeId} {k : IntKind} {v : Value} {d : DataW H} {ps : List MemPlace}
    (ht : P.underlying t = some (.array n e)) (he : P.underlying e = some (.int k)) (hce : P.cellsOf e = 1) (hct : P.cellsOf t = n) (hv : Value.okWide P W r b0 t v) (h : DataW.Trod enc P W base sp held t v d ps) :
    ∃ zs : List Int, zs.length = n ∧ v = .agg (zs.map (Value.int k)).toArray ∧ ∀ z ∈ zs, (Lit.int k z).wf = true := by
  simp only [Value.okWide, ht] at hv
  obtain ⟨cs, rfl, hsz, _⟩ := hv
  obtain ⟨fuel, hf⟩ := h
  simp only [Value.cells] at hf
  obtain ⟨xs, m, rfl, _, hl, hxl, hall⟩ := DataW.trod_array ht hf
  have key : ∀ i, (hi : i < cs.size) → ∃ z, cs[i] = .int k z ∧ (Lit.int k z).wf = true := by
    intro i hi
    have hi' : i < n := by omega
    have h1 := hall i hi'
    rw [hce, Nat.mul_one, List.getElem?_eq_getElem (by omega)] at h1
    obtain ⟨z, g0, _, wz⟩ := DataW.trod_int he h1
    refine ⟨z, ?_, wz⟩
    have hd : cs.toList.drop i = cs[i] :: cs.toList.drop (i + 1) := by
      rw [List.drop_eq_getElem_cons (by simpa using hi)]
      simp
    rw [hd] at g0
    simpa using g0
  refine ⟨cs.toList.map fun v => match v with | .int _ z => z | _ => 0, by simp; omega, ?_, ?_⟩
  · congr 1
    apply Array.ext
    · simp
    · intro i h1 h2
      obtain ⟨z, hz, _⟩ := key i h1
      simp [hz]
  · intro z hz
    simp only [List.mem_map] at hz
    obtain ⟨v, hv, rfl⟩ := hz
    obtain ⟨i, hi, rfl⟩ := List.getElem_of_mem hv
    obtain ⟨z, hz, wz⟩ := key i (by simpa using hi)
    simp only [Array.getElem_toList, hz]
    exact wz
theorem list2 {l : List Int} (h : l.length = 2) : ∃ a b, l = [a, b] := by
  match l, h with
  | [a, b], _ => exact ⟨a, b, rfl⟩
end
end Go.Proofs.YtjanojmgnpfjeaaGreatDoor
/- Opening a law's arguments: arms, orders; what the rows' lists give; a world for the witness. -/
namespace Go.Proofs.YtjanojmgnpfjeaaGreatDoor
open Go.ChangeShapes Go.WideShapes Go.ChangeAt Go.RowKit Go.Joins Go.Deep
instance : Inhabited Md := ⟨⟨⟨#[]⟩, 0, false, false⟩⟩
instance : Inhabited Od := ⟨⟨0, 0⟩⟩
section
variable {H : Type} {enc : TypeId × Value → H} {W : World} {base : Nat} {sp : Nat → Bool} {held : Bool}
theorem spot_none {a : Addr} {v : Value} (h : W.cell? a = some v) : ∃ b o, a = ⟨b, o, none⟩ ∧ b < W.heap.size := by
  obtain ⟨b, o, s⟩ := a
  unfold World.cell? at h
  cases hh : W.heap[b]? with
  | none => simp [hh] at h
  | some ob =>
    have hb := (Array.getElem?_eq_some_iff.1 hh).1
    cases ob <;> simp [hh] at h
    obtain ⟨rfl, _⟩ := h
    exact ⟨b, o, rfl, hb⟩
theorem open_rows {α : Type} [Inhabited α] {Q : α → Prop} {f : α → List Value} {m : Nat} (hm : 0 < m) (hf : ∀ x, (f x).length = m) {t e : TypeId} {fuel : Nat} {cs : List Value} {x : DataW H × List MemPlace} (ht : Tryz.prog.underlying t = some (.slice e)) (hc : Tryz.prog.cellsOf e = m)
    (he : ∀ n cs y, DataW.trod enc Tryz.prog W base sp held n e cs = some y → ∃ z, Q z ∧ cs = f z) (h : DataW.trod enc Tryz.prog W base sp held fuel t cs = some x) :
    ∃ A n c, ∃ l : List α, cs = [.slice A n c] ∧ n ≤ maxLen ∧ l.length = n ∧ (∀ z ∈ l, Q z) ∧ Reads W W.heap.size m A n (l.flatMap f) := by
  rcases open_slice ht h with ⟨rfl, _⟩ | ⟨a, len, cap, k, n, D, Pl, rfl, hb, hl, hcap, hk, _, hx⟩
  · exact ⟨none, 0, 0, [], rfl, Nat.zero_le _, rfl, by simp, by simp, fun h => absurd h (by omega)⟩
  · rw [hc] at hx
    have hlk : len ≤ k := by rw [hk]; split <;> omega
    obtain ⟨Z, hZ⟩ := choose_lt (n := len) (p := fun i z => Q z ∧ W.cells? base (a.add (i * m)) m = some (f z)) (fun i hi => by
      obtain ⟨cs', h1, h2⟩ := hx i (by omega)
      obtain ⟨z, hq, rfl⟩ := he _ _ _ h2
      exact ⟨z, hq, h1⟩)
    refine ⟨some a, len, cap, (List.range len).map Z, rfl, by omega, by simp, ?_, ?_, ?_⟩
    · intro z hz
      obtain ⟨i, hi, rfl⟩ := List.mem_map.1 hz
      exact (hZ i (List.mem_range.1 hi)).1
    · rw [flat_len hf]; simp
    · intro h0
      have hcell : ∀ i r, i < len → r < m → W.cell? ((a.add (i * m)).add r) = (f (Z i))[r]? := fun i r hi hr => (World.cells?_some (hZ i hi).2).2.2 r hr
      obtain ⟨b, o, rfl, hblt⟩ : ∃ b o, a = ⟨b, o, none⟩ ∧ b < W.heap.size := by
        have h1 := hcell 0 0 h0 hm
        rw [Nat.zero_mul] at h1
        have e0 : (a.add 0).add 0 = a := by simp [Addr.add]
        rw [e0, List.getElem?_eq_getElem (by rw [hf]; exact hm)] at h1
        exact spot_none h1
      refine ⟨b, o, rfl, hblt, fun j u hu => ?_⟩
      have hj : j < len * m := by
        have h1 := (List.getElem?_eq_some_iff.1 hu).1
        rw [flat_len hf] at h1
        simpa using h1
      have hr : j % m < m := Nat.mod_lt _ hm
      have hq : j / m < len := Nat.div_lt_of_lt_mul (by rw [Nat.mul_comm]; exact hj)
      have ej : j / m * m + j % m = j := Nat.div_add_mod' j m
      have h1 := hcell (j / m) (j % m) hq hr
      rw [add_plain, add_plain, Nat.add_assoc, ej] at h1
      rw [← ej, flat_get hf _ _ _ hr, List.getElem?_map, List.getElem?_range hq] at hu
      exact h1.trans hu
/-- A struct of one-cell fields: each cell with its reading. -/
theorem cells_all {t : TypeId} {fs : Array Field} {n : Nat} {cs : List Value} {x : DataW H × List MemPlace} (ht : Tryz.prog.underlying t = some (.struct fs)) (hone : oneCellFields Tryz.prog fs = true) (hc : Tryz.prog.cellsOf t = fs.size)
    (h : DataW.trod enc Tryz.prog W base sp held n t cs = some x) : cs.length = fs.size ∧ ∃ k, ∀ (i : Nat) (f : Field), fs[i]? = some f → ∃ v y, cs[i]? = some v ∧ DataW.trod enc Tryz.prog W base sp held k f.type [v] = some y := by
  obtain ⟨xs, k, _, _, hl, hxl, hf⟩ := DataW.trod_struct ht h
  rw [hc] at hl
  refine ⟨hl, k, fun i f hi => ?_⟩
  have hlt : i < fs.size := (Array.getElem?_eq_some_iff.1 hi).1
  obtain ⟨o, c⟩ := hone_of hone i f hi
  have h1 := hf i f hi
  rw [o, c, List.drop_eq_getElem_cons (by omega), List.getElem?_eq_getElem (by omega)] at h1
  exact ⟨cs[i], xs[i], List.getElem?_eq_getElem (by omega), h1⟩
theorem str_open : ∀ n cs y, DataW.trod enc Tryz.prog W base sp held n 9 cs = some y → ∃ z : ByteArray, z.size ≤ maxLen ∧ cs = [Value.string z] := by
  intro n cs y h
  obtain ⟨s, rfl, _, hs⟩ := DataW.trod_string Tryz.underlying9 h
  exact ⟨s, hs, rfl⟩
theorem int_open : ∀ n cs y, DataW.trod enc Tryz.prog W base sp held n 3 cs = some y → ∃ z : Int, (Lit.int .i64 z).wf = true ∧ cs = [Value.int .i64 z] := by
  intro n cs y h
  obtain ⟨s, rfl, _, hs⟩ := DataW.trod_int Tryz.underlying3 h
  exact ⟨s, hs, rfl⟩
def I64 (z : Int) : Prop := -9223372036854775808 ≤ z ∧ z ≤ 9223372036854775807
theorem i64_of {z : Int} (h : (Lit.int .i64 z).wf = true) : I64 z := by
  simp only [Lit.wf, Bool.and_eq_true, decide_eq_true_eq] at h
  have e1 : IntKind.min .i64 = -9223372036854775808 := by decide
  have e2 : IntKind.max .i64 = 9223372036854775807 := by decide
  rw [e1, e2] at h
  exact h
def MdQ (x : Md) : Prop := x.n.size ≤ maxLen ∧ I64 x.q
def OdQ (x : Od) : Prop := I64 x.n ∧ I64 x.c
set_option maxRecDepth 100000 in
theorem md_open : ∀ n cs y, DataW.trod enc Tryz.prog W base sp held n 109 cs = some y → ∃ z : Md, MdQ z ∧ cs = z.cells := by
  intro n cs y h
  obtain ⟨hl, k, hall⟩ := cells_all Tryz.underlying109 (by kernel_rfl) (by kernel_rfl) h
  have hl' : cs.length = 4 := hl
  match cs, hl' with
  | [v0, v1, v2, v3], _ =>
    obtain ⟨_, y0, e0, h0⟩ := hall 0 _ rfl
    obtain ⟨_, y1, e1, h1⟩ := hall 1 _ rfl
    obtain ⟨_, y2, e2, h2⟩ := hall 2 _ rfl
    obtain ⟨_, y3, e3, h3⟩ := hall 3 _ rfl
    cases e0
    cases e1
    cases e2
    cases e3
    obtain ⟨s, g0, _, z0⟩ := DataW.trod_string Tryz.underlying9 h0
    obtain ⟨q, g1, _, z1⟩ := DataW.trod_int Tryz.underlying3 h1
    obtain ⟨a, g2, _⟩ := DataW.trod_bool Tryz.underlying4 h2
    obtain ⟨b, g3, _⟩ := DataW.trod_bool Tryz.underlying4 h3
    cases g0
    cases g1
    cases g2
    cases g3
    exact ⟨⟨s, q, a, b⟩, ⟨z0, i64_of z1⟩, rfl⟩
set_option maxRecDepth 100000 in
theorem od_open : ∀ n cs y, DataW.trod enc Tryz.prog W base sp held n 71 cs = some y → ∃ z : Od, OdQ z ∧ cs = z.cells := by
  intro n cs y h
  obtain ⟨hl, k, hall⟩ := cells_all Tryz.underlying71 (by kernel_rfl) (by kernel_rfl) h
  have hl' : cs.length = 2 := hl
  match cs, hl' with
  | [v0, v1], _ =>
    obtain ⟨_, y0, e0, h0⟩ := hall 0 _ rfl
    obtain ⟨_, y1, e1, h1⟩ := hall 1 _ rfl
    cases e0
    cases e1
    obtain ⟨s, g0, _, z0⟩ := DataW.trod_int Tryz.underlying3 h0
    obtain ⟨q, g1, _, z1⟩ := DataW.trod_int Tryz.underlying3 h1
    cases g0
    cases g1
    exact ⟨⟨s, q⟩, ⟨i64_of z0, i64_of z1⟩, rfl⟩
set_option maxRecDepth 100000 in
theorem open_arm {r : Reach} {b0 : Nat} {v : Value} {d : DataW H} {ps : List MemPlace} (hv : Value.okWide Tryz.prog W r b0 26 v) (h : DataW.Trod enc Tryz.prog W base sp held 26 v d ps) :
    ∃ A n c, ∃ a : Ar, v = .agg #[.slice A n c, .int .i64 a.lo, .int .i64 a.hi, .int .i64 a.cur, .int .i64 a.lim] ∧ MsAt W W.heap.size A n a.m ∧ n ≤ maxLen ∧ (∀ x ∈ a.m, MdQ x) ∧ I64 a.lo ∧ I64 a.hi ∧ I64 a.cur ∧ I64 a.lim := by
  obtain ⟨cs, rfl, hsz⟩ := okWide_struct Tryz.underlying26 hv
  obtain ⟨fuel, hf⟩ := h
  obtain ⟨xs, k, _, _, hl, hxl, hall⟩ := DataW.trod_struct Tryz.underlying26 hf
  obtain ⟨l⟩ := cs
  simp only [Value.cells] at hall hl
  rw [show Tryz.prog.cellsOf 26 = 5 by kernel_rfl] at hl
  match l, hl with
  | [v0, v1, v2, v3, v4], _ =>
    have h0 := hall 0 _ rfl
    have h1 := hall 1 _ rfl
    have h3 := hall 2 _ rfl
    have h4 := hall 3 _ rfl
    change DataW.trod enc Tryz.prog W base sp held k 22 (List.take (Tryz.prog.cellsOf 22) (List.drop 0 [v0, v1, v2, v3, v4])) = xs[0]? at h0
    rw [show Tryz.prog.cellsOf 22 = 1 by kernel_rfl] at h0
    change DataW.trod enc Tryz.prog W base sp held k 24 (List.take (Tryz.prog.cellsOf 24) (List.drop 1 [v0, v1, v2, v3, v4])) = xs[1]? at h1
    rw [show Tryz.prog.cellsOf 24 = 2 by kernel_rfl] at h1
    change DataW.trod enc Tryz.prog W base sp held k 3 (List.take (Tryz.prog.cellsOf 3) (List.drop 3 [v0, v1, v2, v3, v4])) = xs[2]? at h3
    rw [show Tryz.prog.cellsOf 3 = 1 by kernel_rfl] at h3
    change DataW.trod enc Tryz.prog W base sp held k 3 (List.take (Tryz.prog.cellsOf 3) (List.drop 4 [v0, v1, v2, v3, v4])) = xs[3]? at h4
    rw [show Tryz.prog.cellsOf 3 = 1 by kernel_rfl] at h4
    match xs, hxl with
    | [y0, y1, y3, y4], _ =>
      obtain ⟨A, n, c, m, e0, hm, _, hq, hr⟩ := open_rows (f := Md.cells) (m := 4) (by decide) (fun _ => rfl) Tryz.underlying22 (by kernel_rfl) md_open h0
      obtain ⟨_, k2, hb⟩ := cells_all Tryz.underlying24 (by kernel_rfl) (by kernel_rfl) h1
      obtain ⟨_, _, e1, h1⟩ := hb 0 _ rfl
      obtain ⟨_, _, e2, h2⟩ := hb 1 _ rfl
      cases e1
      cases e2
      obtain ⟨lo, g1, _, z1⟩ := DataW.trod_int Tryz.underlying3 h1
      obtain ⟨hi, g2, _, z2⟩ := DataW.trod_int Tryz.underlying3 h2
      obtain ⟨cu, g3, _, z3⟩ := DataW.trod_int Tryz.underlying3 h3
      obtain ⟨li, g4, _, z4⟩ := DataW.trod_int Tryz.underlying3 h4
      cases e0
      cases g1
      cases g2
      cases g3
      cases g4
      exact ⟨A, n, c, ⟨m, lo, hi, cu, li⟩, rfl, hr, hm, hq, i64_of z1, i64_of z2, i64_of z3, i64_of z4⟩
set_option maxRecDepth 100000 in
theorem open_ods {r : Reach} {b0 : Nat} {v : Value} {d : DataW H} {ps : List MemPlace} (hv : Value.okWide Tryz.prog W r b0 62 v) (h : DataW.Trod enc Tryz.prog W base sp held 62 v d ps) :
    ∃ A n c, ∃ l : List Od, v = .slice A n c ∧ n ≤ maxLen ∧ l.length = n ∧ (∀ x ∈ l, OdQ x) ∧ Reads W W.heap.size 2 A n (ods l) := by
  obtain ⟨a, n, c, rfl⟩ := okWide_slice Tryz.underlying62 hv
  obtain ⟨fuel, hf⟩ := h
  obtain ⟨A, n', c', l, e, m, hl, hq, hr⟩ := open_rows (f := Od.cells) (m := 2) (by decide) (fun _ => rfl) Tryz.underlying62 (by kernel_rfl) od_open hf
  cases e
  exact ⟨_, _, _, l, rfl, m, hl, hq, hr⟩
end
theorem own_ : ownKnob Tryz.prog.godebug = none := by kernel_rfl
theorem laidOut_ : laidOutB Tryz.prog = true := by kernel_rfl
theorem gP : Tryz.prog.globalNamed "internal/strconv.uint64pow10" = some 1 := by kernel_rfl
theorem tP : (Tryz.prog.globals[1]?).map (·.type) = some 272 := by kernel_rfl
set_option maxRecDepth 100000 in
theorem tabT_of {W : World} (h : laidMetH Tryz.prog [("math/bits.deBruijn32tab", Rows.laid_math_bits_deBruijn32tab), ("math/bits.deBruijn64tab", Rows.laid_math_bits_deBruijn64tab), ("internal/strconv.uint64pow10", Rows.laid_internal_strconv_uint64pow10)] W) : TabT W := by
  have h' : laidMet Tryz.prog [("math/bits.deBruijn32tab", Rows.laid_math_bits_deBruijn32tab), ("math/bits.deBruijn64tab", Rows.laid_math_bits_deBruijn64tab), ("internal/strconv.uint64pow10", Rows.laid_internal_strconv_uint64pow10)] W := h
  obtain ⟨cs, fuel, p, hv, hd⟩ := laid_cells h' (n := "internal/strconv.uint64pow10") (d := Rows.laid_internal_strconv_uint64pow10) (.tail _ (.tail _ (.head _))) gP tP
  have e : (Rows.laid_internal_strconv_uint64pow10 : DataW Unit) = Lib.tabData .u64 Lib.pow10Tab := by kernel_rfl
  rw [e] at hd
  unfold TabT Lib.TabIs
  rw [hv, ← Lib.cells_of_tab Tryz.underlying272 Tryz.underlying222 (by kernel_rfl) (by kernel_rfl) hd]
/-- A block's cells laid anew. -/
def hold_ (cs : Array Value) : Obj → Obj
  | .cells _ t frozen => .cells cs t frozen
  | o => o
def u8s (l : List Int) : Array Value := (l.map (Value.int .u8)).toArray
def deB32 : List Int := [0, 1, 28, 2, 29, 14, 24, 3, 30, 22, 20, 15, 25, 17, 4, 8, 31, 27, 13, 23, 21, 19, 16, 7, 26, 12, 18, 6, 11, 5, 10, 9]
def deB64 : List Int := [0, 1, 56, 2, 57, 49, 28, 3, 61, 58, 42, 50, 38, 29, 17, 4, 62, 47, 59, 36, 45, 43, 51, 22, 53, 39, 33, 30, 24, 18, 12, 5, 63, 55, 48, 27, 60, 41, 37, 16, 46, 35, 44, 21, 52, 32, 23, 11, 54, 26, 40, 15, 34, 20, 31, 10, 25, 14, 19, 9, 13, 8, 7, 6]
/-- A world for the witness: the settled one, the tables holding what their initialisers lay. -/
noncomputable def laidWorld_ (os : Os) : World :=
  { World.holding Tryz.prog os ⟨#[], #[], []⟩ with heap := (((World.holding Tryz.prog os ⟨#[], #[], []⟩).heap.modify 3 (hold_ (u8s deB32))).modify 4 (hold_ (u8s deB64))).modify 1 (hold_ (Lib.pow10Tab.map (Value.int .u64)).toArray) }
end Go.Proofs.YtjanojmgnpfjeaaGreatDoor
