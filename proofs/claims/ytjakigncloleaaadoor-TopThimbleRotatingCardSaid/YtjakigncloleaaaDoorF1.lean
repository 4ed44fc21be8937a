/- Whatever the input, 'TopThimbleRotating' returns true and leaves its arguments as they were; the two roots (bipole/phasor.w, w2) start as the program's text lays them. No other condition. -/
import Derived.Test.YtjakigncloleaaaDoorCards
import Derived.Test.YtjakigncloleaaaDoorTie
import Derived.Test.YtjakigncloleaaaDoorFr
import Derived.Test.YtjakigncloleaaaDoorPh15
import Derived.Deep.DeepHandedRow
import Derived.Lib.LaidTab
namespace Go.Proofs.YtjakigncloleaaaDoor.rotating
open Go.ChangeShapes Go.WideShapes Go.ChangeAt Go.RowKit
theorem own : ownKnob Tryd.prog.godebug = none := by kernel_rfl
theorem laidOut : laidOutB Tryd.prog = true := by kernel_rfl
theorem gW : Tryd.prog.globalNamed "bipole/phasor.w" = some 0 := by kernel_rfl
theorem gW2 : Tryd.prog.globalNamed "bipole/phasor.w2" = some 1 := by kernel_rfl
theorem tW : (Tryd.prog.globals[0]?).map (·.type) = some 77 := by kernel_rfl
theorem tW2 : (Tryd.prog.globals[1]?).map (·.type) = some 77 := by kernel_rfl
theorem cellsEI : Tryd.prog.cellsOf 77 = 2 := by kernel_rfl
theorem cellsI8 : Tryd.prog.cellsOf 22 = 1 := by kernel_rfl
theorem cellsA : Tryd.prog.cellsOf 23 = 2 := by kernel_rfl
/-- What the row's list gives: the two roots. -/
theorem roots {W : World} (h : laidMetH Tryd.prog Rows.topThimbleRotatingRow.laid W) : Roots W := by
  have h' : laidMet Tryd.prog Rows.topThimbleRotatingRow.laid W := h
  obtain ⟨cs, fuel, p, hv, hd⟩ := laid_cells h' (n := "bipole/phasor.w") (d := Rows.laid_bipole_phasor_w) (.head _) gW tW
  obtain ⟨cs2, fuel2, p2, hv2, hd2⟩ := laid_cells h' (n := "bipole/phasor.w2") (d := Rows.laid_bipole_phasor_w2) (.tail _ (.head _)) gW2 tW2
  have e := two_ints Tryd.underlying77 (by kernel_rfl) Tryd.underlying3 Tryd.underlying3 cellsEI hd
  have e2 := two_ints Tryd.underlying77 (by kernel_rfl) Tryd.underlying3 Tryd.underlying3 cellsEI hd2
  obtain rfl : cs = #[.int .i64 0, .int .i64 1] := by apply Array.toList_inj.1; rw [e]
  obtain rfl : cs2 = #[.int .i64 (-1), .int .i64 (-1)] := by apply Array.toList_inj.1; rw [e2]
  have c0 := World.var?_cell gW hv 0
  have c1 := World.var?_cell gW hv 1
  have d0 := World.var?_cell gW2 hv2 0
  have d1 := World.var?_cell gW2 hv2 1
  refine ⟨c0, c1, d0, d1, ?_⟩
  have hlt : ∀ {b i v}, W.cell? ⟨b, i, none⟩ = some v → b < W.heap.size := by
    intro b i v hc
    rcases Nat.lt_or_ge b W.heap.size with h1 | h1
    · exact h1
    · simp [World.cell?, Array.getElem?_eq_none h1] at hc
  have l0 := hlt c0
  have l1 := hlt d0
  omega
set_option maxRecDepth 100000 in
theorem contract (H : Type) (enc : TypeId × Value → H) (W : World) (base : Nat) (args : Array Value) (ds gs : List (DataW H)) (before : List MemPlace)
    (hval : ∀ (j : Nat) t v, Tryd.f3.params[j]? = some t → args[j]? = some v → Value.okWide Tryd.prog W .any base t v)
    (hW : DataW.Whole enc Tryd.prog Tryd.f3.params.toList Rows.topThimbleRotatingSpec.vars false W args.toList ds gs before) (hL : laidMetH Tryd.prog Rows.topThimbleRotatingRow.laid W) :
    Calls Tryd.prog 3 args W fun e W' => ∃ v, e = .returned v ∧ Rows.topThimbleRotatingSpec.post enc Tryd.prog Tryd.f3 false true false false W args v W' := by
  have hW' := hW
  obtain ⟨p, q, hA0, hV, rfl, hfz, hnd⟩ := hW
  have hA : DataW.TrodAll enc Tryd.prog W 0 (fun _ => true) true Tryd.f3.params.toList args.toList ds p := hA0
  rw [Tryd.params3] at hA hval
  obtain ⟨v0, v1, v2, d0, d1, d2, p0, p1, p2, rfl, rfl, rfl, h0, h1, h2⟩ := trodAll_three hA
  obtain ⟨rfl, rfl⟩ := trodVars_none hV
  clear hA0 hA
  obtain ⟨zs, hz, rfl, wz⟩ := open_array Tryd.underlying23 Tryd.underlying22 cellsI8 cellsA (hval 0 23 v0 rfl rfl) h0
  obtain ⟨ys, hy, rfl, wy⟩ := open_array Tryd.underlying23 Tryd.underlying22 cellsI8 cellsA (hval 1 23 v1 rfl rfl) h1
  obtain ⟨s, rfl, rfl, rfl, ws⟩ := open_int Tryd.underlying22 (hval 2 22 v2 rfl rfl) h2
  obtain ⟨a, b, rfl⟩ := list2 hz
  obtain ⟨c, d, rfl⟩ := list2 hy
  refine (law_any a b c d s W (bounds_i8 (wz a (by simp))) (bounds_i8 (wz b (by simp))) (bounds_i8 (wy c (by simp))) (bounds_i8 (wy d (by simp))) (bounds_i8 ws) (roots hL)).mono fun e W' ⟨he, hb⟩ => ?_
  subst he
  exact ⟨_, rfl, law_post laidOut Tryd.underlying4 rfl (by kernel_rfl) rfl hW' rfl hb⟩
/-- A block's cells laid anew. -/
def hold (cs : Array Value) : Obj → Obj
  | .cells _ t frozen => .cells cs t frozen
  | o => o
/-- A world for the witness: the settled one, the two roots holding what their initialisers lay. -/
noncomputable def laidWorld (os : Os) : World :=
  { World.holding Tryd.prog os ⟨#[], #[], []⟩ with heap := ((World.holding Tryd.prog os ⟨#[], #[], []⟩).heap.modify 0 (hold #[.int .i64 0, .int .i64 1])).modify 1 (hold #[.int .i64 (-1), .int .i64 (-1)]) }
def witness : Array Value := #[.agg #[.int .i8 0, .int .i8 0], .agg #[.int .i8 0, .int .i8 0], .int .i8 0]
theorem laid_met (os : Os) : laidMet Tryd.prog Rows.topThimbleRotatingRow.laid ((laidWorld os).forCall (fun _ _ => 0) ⟨#[], witness, []⟩).memory :=
  laidMet_of_run' 8 (by kernel_rfl) (by kernel_rfl)
theorem reads (os : Os) {H : Type} (enc : TypeId × Value → H) : ∃ places, DataW.whole enc Tryd.prog ((laidWorld os).forCall (fun _ _ => 0) ⟨#[], witness, []⟩).memory Tryd.f3.params.toList Rows.topThimbleRotatingSpec.vars false witness.toList 8 = some ([.agg [.lit (.int .i8 0), .lit (.int .i8 0)], .agg [.lit (.int .i8 0), .lit (.int .i8 0)], .lit (.int .i8 0)], [], places) :=
  ⟨[], by kernel_rfl⟩
set_option maxRecDepth 100000 in
theorem lifted (os : Os) (started : os.Started) (H : Type) (enc : TypeId × Value → H) (F : Stop.Interp) :
    ReturnsInHanded {} Tryd.checked os 3 .any ((OpenSpec.ofChange Rows.topThimbleRotatingSpec).preRow enc Tryd.prog Tryd.f3 Rows.topThimbleRotatingRow.domain false Rows.topThimbleRotatingRow.laid) (((OpenSpec.ofChange Rows.topThimbleRotatingSpec).at F).post enc Tryd.prog Tryd.f3 false true false false) := by
  obtain ⟨places, hx⟩ := reads os enc
  refine returnsInHanded_of_row (C := Tryd.checked) (s := OpenSpec.ofChange Rows.topThimbleRotatingSpec) own started (by kernel_rfl) Tryd.func3
    (witness_row_at (enc := enc) (C := Tryd.checked) false (laidWorld os) witness rfl (by kernel_rfl) (by kernel_rfl) (by kernel_rfl)
      (OpenSpec.preRow_of_cond 8 hx (by kernel_rfl) (fun k hk => by cases hk) (by kernel_rfl) (laid_met os))) ?_
  intro W base args ds gs before hval hW _ _ _ hL _ _
  exact contract H enc W base args ds gs before hval hW hL
theorem said : Rows.TopThimbleRotatingSaid :=
  OpenClaim.holds_of_cond 3 Tryd.f3 rfl rfl rfl rfl rfl rfl rfl ⟨rfl, rfl, rfl, rfl, rfl⟩ rfl rfl rfl rfl rfl (by kernel_rfl) Tryd.func3 (by kernel_rfl)
    (of_decide_eq_true (by kernel_rfl)) (by unfold Func.isWrapper; first | (rw [if_pos (by decide +kernel)]; kernel_rfl) | (rw [if_neg (by decide +kernel)]; exact ⟨rfl, rfl⟩))
    (fun os started H enc _ F => by rw [OpenClaim.pre_eq_preRow]; exact lifted os started H enc F)
/-- No parameter wants a stand-in; the program's own looks are off: what the card asks. -/
theorem plain (f : FuncId) (fn : Func) (hf : Tryd.pinned.checked.prog.funcNamed "bipole/bipoletop.TopThimbleRotating" = some f) (hfn : Tryd.pinned.checked.prog.funcs[f]? = some fn) :
    false = Tryd.pinned.checked.prog.looks [] ∧ ∀ (j : Nat) t, fn.params[j]? = some t → Tryd.pinned.checked.prog.wantsStandIn t = false := by
  obtain rfl : f = 3 := Option.some.inj ((show Tryd.prog.funcNamed "bipole/bipoletop.TopThimbleRotating" = some 3 by kernel_rfl).symm.trans hf) |>.symm
  obtain rfl : fn = Tryd.f3 := (Option.some.inj (Tryd.func3.symm.trans hfn)).symm
  refine ⟨by kernel_rfl, fun j t ht => ?_⟩
  rw [Tryd.params3] at ht
  have ht' : t = 23 ∨ t = 22 := by
    have := Array.mem_of_getElem? ht
    simp at this
    omega
  rcases ht' with rfl | rfl
  · exact (show Tryd.prog.wantsStandIn 23 = false by kernel_rfl)
  · exact (show Tryd.prog.wantsStandIn 22 = false by kernel_rfl)
/-- THE CARD. -/
theorem card : Rows.TopThimbleRotatingCardSaid :=
  Claim7.holds_tied_plain_at .later [] _ _ _ _ said (fun _ h => by cases h) (by kernel_rfl) (fun _ h => by cases h) topThimbleRotating_row_tie rfl ⟨rfl, rfl⟩ (by kernel_rfl) rfl plain (by kernel_rfl)
end Go.Proofs.YtjakigncloleaaaDoor.rotating
