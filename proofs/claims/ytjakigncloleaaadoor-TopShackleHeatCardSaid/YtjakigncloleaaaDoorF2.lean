/- Whatever the input, 'TopShackleHeat' returns true and leaves its arguments as they were; the table bipole/harmonic.powers starts as the program's text lays it. No other condition. -/
import Derived.Test.YtjakigncloleaaaDoorCards
import Derived.Test.YtjakigncloleaaaDoorTie
import Derived.Test.YtjakigncloleaaaDoorFr
import Derived.Test.YtjakigncloleaaaDoorH12
import Derived.Deep.DeepHandedRow
import Derived.Lib.LaidTab
import Derived.Lib.SmallJoins
namespace Go.Proofs.YtjakigncloleaaaDoor.heat
open Go.ChangeShapes Go.WideShapes Go.ChangeAt Go.RowKit Go.Joins
theorem own : ownKnob Tryd.prog.godebug = none := by kernel_rfl
theorem laidOut : laidOutB Tryd.prog = true := by kernel_rfl
theorem gP : Tryd.prog.globalNamed "bipole/harmonic.powers" = some 2 := by kernel_rfl
theorem tP : (Tryd.prog.globals[2]?).map (·.type) = some 127 := by kernel_rfl
theorem cellsE : Tryd.prog.cellsOf 25 = 2 := by kernel_rfl
theorem cellsC : Tryd.prog.cellsOf 55 = 4 := by kernel_rfl
theorem cells3C : Tryd.prog.cellsOf 127 = 12 := by kernel_rfl
theorem cellsI : Tryd.prog.cellsOf 3 = 1 := by kernel_rfl
theorem cellsA : Tryd.prog.cellsOf 48 = 12 := by kernel_rfl
theorem cellsL : Tryd.prog.cellsOf 50 = 3 := by kernel_rfl
theorem len4 {α : Type} {l : List α} (h : l.length = 4) : ∃ a b c d, l = [a, b, c, d] := by
  match l, h with
  | [a, b, c, d], _ => exact ⟨a, b, c, d, rfl⟩
theorem len12 {α : Type} {l : List α} (h : l.length = 12) : ∃ a0 a1 a2 a3 a4 a5 a6 a7 a8 a9 a10 a11, l = [a0, a1, a2, a3, a4, a5, a6, a7, a8, a9, a10, a11] := by
  match l, h with
  | [a0, a1, a2, a3, a4, a5, a6, a7, a8, a9, a10, a11], _ => exact ⟨a0, a1, a2, a3, a4, a5, a6, a7, a8, a9, a10, a11, rfl⟩
theorem len3 {α : Type} {l : List α} (h : l.length = 3) : ∃ a b c, l = [a, b, c] := by
  match l, h with
  | [a, b, c], _ => exact ⟨a, b, c, rfl⟩
/-- A pair of pairs of integers that reads as these. -/
theorem four_ints {W : World} {cs : List Value} {a b c d : Int} {fuel : Nat} {p : List MemPlace} (h : DataW.trod (fun _ => ()) Tryd.prog W 0 (fun _ => true) false fuel 55 cs = some (.agg [.agg [.lit (.int .i64 a), .lit (.int .i64 b)], .agg [.lit (.int .i64 c), .lit (.int .i64 d)]], p)) :
    cs = [.int .i64 a, .int .i64 b, .int .i64 c, .int .i64 d] := by
  obtain ⟨⟨d0, p0⟩, ⟨d1, p1⟩, n, hx, hl, h0, h1⟩ := trod_struct2 Tryd.underlying55 h
  simp only [Prod.mk.injEq, DataW.agg.injEq, List.cons.injEq, and_true] at hx
  obtain ⟨⟨rfl, rfl⟩, _⟩ := hx
  have g0 := two_ints Tryd.underlying25 (by kernel_rfl) Tryd.underlying3 Tryd.underlying3 cellsE h0
  have g1 := two_ints Tryd.underlying25 (by kernel_rfl) Tryd.underlying3 Tryd.underlying3 cellsE h1
  change (cs.drop 0).take (Tryd.prog.cellsOf 25) = _ at g0
  change (cs.drop 2).take (Tryd.prog.cellsOf 25) = _ at g1
  rw [cellsE] at g0 g1
  rw [cellsC] at hl
  obtain ⟨x0, x1, x2, x3, rfl⟩ := len4 hl
  clear h h0 h1 hl
  simp at g0 g1
  rw [g0.1, g0.2, g1.1, g1.2]
set_option maxRecDepth 100000 in
/-- What the row's list gives: the table. -/
theorem table {W : World} (h : laidMetH Tryd.prog Rows.topShackleHeatRow.laid W) : Powers W := by
  have h' : laidMet Tryd.prog Rows.topShackleHeatRow.laid W := h
  obtain ⟨cs, fuel, p, hv, hd⟩ := laid_cells h' (n := "bipole/harmonic.powers") (d := Rows.laid_bipole_harmonic_powers) (.head _) gP tP
  have e : cs.toList = [.int .i64 1, .int .i64 0, .int .i64 0, .int .i64 0, .int .i64 0, .int .i64 0, .int .i64 0, .int .i64 (-1), .int .i64 1, .int .i64 1, .int .i64 0, .int .i64 0] := by
    obtain ⟨xs, m, _, hx, hl, hxl, hall⟩ := DataW.trod_array Tryd.underlying127 hd
    obtain ⟨⟨d0, p0⟩, ⟨d1, p1⟩, ⟨d2, p2⟩, rfl⟩ := len3 hxl
    · simp only [Rows.laid_bipole_harmonic_powers, Prod.mk.injEq, DataW.agg.injEq, List.map_cons, List.map_nil, List.cons.injEq, and_true] at hx
      obtain ⟨⟨rfl, rfl, rfl⟩, _⟩ := hx
      have h0 := hall 0 (by omega)
      have h1 := hall 1 (by omega)
      have h2 := hall 2 (by omega)
      rw [cellsC] at h0 h1 h2
      have g0 := four_ints h0
      have g1 := four_ints h1
      have g2 := four_ints h2
      rw [cells3C] at hl
      clear hd hall h0 h1 h2 hv h h'
      generalize cs.toList = l at *
      obtain ⟨x0, x1, x2, x3, x4, x5, x6, x7, x8, x9, x10, x11, rfl⟩ := len12 hl
      simp at g0 g1 g2
      obtain ⟨rfl, rfl, rfl, rfl⟩ := g0
      obtain ⟨rfl, rfl, rfl, rfl⟩ := g1
      obtain ⟨rfl, rfl, rfl, rfl⟩ := g2
      rfl
  obtain rfl : cs = #[.int .i64 1, .int .i64 0, .int .i64 0, .int .i64 0, .int .i64 0, .int .i64 0, .int .i64 0, .int .i64 (-1), .int .i64 1, .int .i64 1, .int .i64 0, .int .i64 0] := by apply Array.toList_inj.1; rw [e]
  have hlt : ∀ {b i v}, W.cell? ⟨b, i, none⟩ = some v → b < W.heap.size := by
    intro b i v hc
    rcases Nat.lt_or_ge b W.heap.size with h1 | h1
    · exact h1
    · simp [World.cell?, Array.getElem?_eq_none h1] at hc
  have c := fun i => World.var?_cell gP hv i
  exact ⟨c 0, c 1, c 2, c 3, c 4, c 5, c 6, c 7, c 8, c 9, c 10, c 11, hlt (c 0)⟩
theorem list12 {l : List Int} (h : l.length = 12) : ∃ p : Nat → Int, l = [p 0, p 1, p 2, p 3, p 4, p 5, p 6, p 7, p 8, p 9, p 10, p 11] := by
  match l, h with
  | [a0, a1, a2, a3, a4, a5, a6, a7, a8, a9, a10, a11], _ => exact ⟨fun j => [a0, a1, a2, a3, a4, a5, a6, a7, a8, a9, a10, a11].getD j 0, rfl⟩
set_option maxRecDepth 100000 in
theorem contract (H : Type) (enc : TypeId × Value → H) (W : World) (base : Nat) (args : Array Value) (ds gs : List (DataW H)) (before : List MemPlace)
    (hval : ∀ (j : Nat) t v, Tryd.f4.params[j]? = some t → args[j]? = some v → Value.okWide Tryd.prog W .any base t v)
    (hW : DataW.Whole enc Tryd.prog Tryd.f4.params.toList Rows.topShackleHeatSpec.vars false W args.toList ds gs before) (hL : laidMetH Tryd.prog Rows.topShackleHeatRow.laid W) :
    Calls Tryd.prog 4 args W fun e W' => ∃ v, e = .returned v ∧ Rows.topShackleHeatSpec.post enc Tryd.prog Tryd.f4 false true false false W args v W' := by
  have hW' := hW
  obtain ⟨p, q, hA0, hV, rfl, hfz, hnd⟩ := hW
  have hA : DataW.TrodAll enc Tryd.prog W 0 (fun _ => true) true Tryd.f4.params.toList args.toList ds p := hA0
  rw [Tryd.params4] at hA hval
  obtain ⟨v0, v1, v2, d0, d1, d2, p0, p1, p2, rfl, rfl, rfl, h0, h1, h2⟩ := trodAll_three hA
  obtain ⟨rfl, rfl⟩ := trodVars_none hV
  clear hA0 hA
  obtain ⟨zs, hz, rfl, wz⟩ := open_array Tryd.underlying48 Tryd.underlying3 cellsI cellsA (hval 0 48 v0 rfl rfl) h0
  obtain ⟨c0, c1, c2, y0, y1, y2, m, rfl, rfl, rfl, hy0, hy1, hy2⟩ := open_agg3 Tryd.underlying50 (by kernel_rfl) cellsL (hval 1 50 v1 rfl rfl) h1
  obtain ⟨F, e0, _, _⟩ := DataW.trod_int Tryd.underlying3 hy0
  obtain ⟨L, e1, _, _⟩ := DataW.trod_int Tryd.underlying3 hy1
  obtain ⟨S, e2, _, _⟩ := DataW.trod_int Tryd.underlying3 hy2
  obtain rfl : c0 = .int .i64 F := by simpa using e0
  obtain rfl : c1 = .int .i64 L := by simpa using e1
  obtain rfl : c2 = .int .i64 S := by simpa using e2
  obtain ⟨s, rfl, rfl, rfl, ws⟩ := open_int Tryd.underlying22 (hval 2 22 v2 rfl rfl) h2
  obtain ⟨f, rfl⟩ := list12 hz
  refine (heat_any f F L S s W (table hL) (bounds_i8 ws)).mono fun e W' ⟨he, hb⟩ => ?_
  subst he
  exact ⟨_, rfl, law_post laidOut Tryd.underlying4 rfl (by kernel_rfl) rfl hW' rfl hb⟩
/-- A block's cells laid anew. -/
def hold (cs : Array Value) : Obj → Obj
  | .cells _ t frozen => .cells cs t frozen
  | o => o
/-- A world for the witness: the settled one, the table holding what its initialiser lays. -/
noncomputable def laidWorld (os : Os) : World :=
  { World.holding Tryd.prog os ⟨#[], #[], []⟩ with heap := ((World.holding Tryd.prog os ⟨#[], #[], []⟩).heap.modify 2 (hold #[.int .i64 1, .int .i64 0, .int .i64 0, .int .i64 0, .int .i64 0, .int .i64 0, .int .i64 0, .int .i64 (-1), .int .i64 1, .int .i64 1, .int .i64 0, .int .i64 0])) }
def witness : Array Value := #[.agg #[.int .i64 0, .int .i64 0, .int .i64 0, .int .i64 0, .int .i64 0, .int .i64 0, .int .i64 0, .int .i64 0, .int .i64 0, .int .i64 0, .int .i64 0, .int .i64 0], .agg #[.int .i64 0, .int .i64 0, .int .i64 0], .int .i8 0]
theorem laid_met (os : Os) : laidMet Tryd.prog Rows.topShackleHeatRow.laid ((laidWorld os).forCall (fun _ _ => 0) ⟨#[], witness, []⟩).memory :=
  laidMet_of_run' 8 (by kernel_rfl) (by kernel_rfl)
theorem reads (os : Os) {H : Type} (enc : TypeId × Value → H) : ∃ places, DataW.whole enc Tryd.prog ((laidWorld os).forCall (fun _ _ => 0) ⟨#[], witness, []⟩).memory Tryd.f4.params.toList Rows.topShackleHeatSpec.vars false witness.toList 8 = some ([.agg [.lit (.int .i64 0), .lit (.int .i64 0), .lit (.int .i64 0), .lit (.int .i64 0), .lit (.int .i64 0), .lit (.int .i64 0), .lit (.int .i64 0), .lit (.int .i64 0), .lit (.int .i64 0), .lit (.int .i64 0), .lit (.int .i64 0), .lit (.int .i64 0)], .agg [.lit (.int .i64 0), .lit (.int .i64 0), .lit (.int .i64 0)], .lit (.int .i8 0)], [], places) :=
  ⟨[], by kernel_rfl⟩
set_option maxRecDepth 100000 in
theorem lifted (os : Os) (started : os.Started) (H : Type) (enc : TypeId × Value → H) (F : Stop.Interp) :
    ReturnsInHanded {} Tryd.checked os 4 .any ((OpenSpec.ofChange Rows.topShackleHeatSpec).preRow enc Tryd.prog Tryd.f4 Rows.topShackleHeatRow.domain false Rows.topShackleHeatRow.laid) (((OpenSpec.ofChange Rows.topShackleHeatSpec).at F).post enc Tryd.prog Tryd.f4 false true false false) := by
  obtain ⟨places, hx⟩ := reads os enc
  refine returnsInHanded_of_row (C := Tryd.checked) (s := OpenSpec.ofChange Rows.topShackleHeatSpec) own started (by kernel_rfl) Tryd.func4
    (witness_row_at (enc := enc) (C := Tryd.checked) false (laidWorld os) witness rfl (by kernel_rfl) (by kernel_rfl) (by kernel_rfl)
      (OpenSpec.preRow_of_cond 8 hx (by kernel_rfl) (fun k hk => by cases hk) (by kernel_rfl) (laid_met os))) ?_
  intro W base args ds gs before hval hW _ _ _ hL _ _
  exact contract H enc W base args ds gs before hval hW hL
theorem said : Rows.TopShackleHeatSaid :=
  OpenClaim.holds_of_cond 4 Tryd.f4 rfl rfl rfl rfl rfl rfl rfl ⟨rfl, rfl, rfl, rfl, rfl⟩ rfl rfl rfl rfl rfl (by kernel_rfl) Tryd.func4 (by kernel_rfl)
    (of_decide_eq_true (by kernel_rfl)) (by unfold Func.isWrapper; first | (rw [if_pos (by decide +kernel)]; kernel_rfl) | (rw [if_neg (by decide +kernel)]; exact ⟨rfl, rfl⟩))
    (fun os started H enc _ F => by rw [OpenClaim.pre_eq_preRow]; exact lifted os started H enc F)
/-- No parameter wants a stand-in; the program's own looks are off: what the card asks. -/
theorem plain (f : FuncId) (fn : Func) (hf : Tryd.pinned.checked.prog.funcNamed "bipole/bipoletop.TopShackleHeat" = some f) (hfn : Tryd.pinned.checked.prog.funcs[f]? = some fn) :
    false = Tryd.pinned.checked.prog.looks [] ∧ ∀ (j : Nat) t, fn.params[j]? = some t → Tryd.pinned.checked.prog.wantsStandIn t = false := by
  obtain rfl : f = 4 := Option.some.inj ((show Tryd.prog.funcNamed "bipole/bipoletop.TopShackleHeat" = some 4 by kernel_rfl).symm.trans hf) |>.symm
  obtain rfl : fn = Tryd.f4 := (Option.some.inj (Tryd.func4.symm.trans hfn)).symm
  refine ⟨by kernel_rfl, fun j t ht => ?_⟩
  rw [Tryd.params4] at ht
  have ht' : t = 48 ∨ t = 50 ∨ t = 22 := by
    have := Array.mem_of_getElem? ht
    simp at this
    omega
  rcases ht' with rfl | rfl | rfl
  · exact (show Tryd.prog.wantsStandIn 48 = false by kernel_rfl)
  · exact (show Tryd.prog.wantsStandIn 50 = false by kernel_rfl)
  · exact (show Tryd.prog.wantsStandIn 22 = false by kernel_rfl)
/-- THE CARD. -/
theorem card : Rows.TopShackleHeatCardSaid :=
  Claim7.holds_tied_plain_at .later [] _ _ _ _ said (fun _ h => by cases h) (by kernel_rfl) (fun _ h => by cases h) topShackleHeat_row_tie rfl ⟨rfl, rfl⟩ (by kernel_rfl) rfl plain (by kernel_rfl)
end Go.Proofs.YtjakigncloleaaaDoor.heat
