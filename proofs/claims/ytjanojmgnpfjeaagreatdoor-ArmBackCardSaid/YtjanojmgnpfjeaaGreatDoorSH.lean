/- The map of a module's states, and what its functions do. -/
import Derived.Maps.OwnSet
import Derived.Maps.OwnIn
import Derived.Test.YtjanojmgnpfjeaaGreatDoorSG
import Derived.Test.YtjanojmgnpfjeaaGreatDoorQb
namespace Go.Proofs.YtjanojmgnpfjeaaGreatDoor
open Go.RowKit Go.Sort Go.Shelf
set_option linter.unusedSimpArgs false
set_option linter.unusedVariables false
attribute [local go_sem] cell_if frozen_if grow_cell
def fnOn : Value := .func (.func 185) #[] #[]
def fnOff : Value := .func (.func 186) #[] #[]
def fnByp : Value := .func (.func 187) #[] #[]
def numD (n : Int) : DataW Unit := .lit (.int .i64 n)
/-- How a state's function reads: by its number. -/
noncomputable def stR (v : Value) : Option (DataW Unit × List MemPlace) := by
  classical
  exact if v = fnOn then some (numD 1, []) else if v = fnOff then some (numD 2, []) else if v = fnByp then some (numD 3, []) else if v = .nilFunc then some (numD 0, []) else none
theorem stR_on : stR fnOn = some (numD 1, []) := by unfold stR; simp
theorem stR_off : stR fnOff = some (numD 2, []) := by unfold stR; simp [fnOn, fnOff]
theorem stR_byp : stR fnByp = some (numD 3, []) := by unfold stR; simp [fnOn, fnOff, fnByp]
theorem stR_nil : stR .nilFunc = some (numD 0, []) := by unfold stR; simp [fnOn, fnOff, fnByp]
theorem stR_inv {v : Value} {n : Int} {ps : List MemPlace} (h : stR v = some (numD n, ps)) : (n = 1 → v = fnOn) ∧ (n = 2 → v = fnOff) ∧ (n = 3 → v = fnByp) ∧ (n = 0 → v = .nilFunc) := by
  unfold stR numD at h
  split at h
  · rename_i e; simp at h; obtain ⟨rfl, _⟩ := h; exact ⟨fun _ => e, by omega, by omega, by omega⟩
  split at h
  · rename_i e; simp at h; obtain ⟨rfl, _⟩ := h; exact ⟨by omega, fun _ => e, by omega, by omega⟩
  split at h
  · rename_i e; simp at h; obtain ⟨rfl, _⟩ := h; exact ⟨by omega, by omega, fun _ => e, by omega⟩
  split at h
  · rename_i e; simp at h; obtain ⟨rfl, _⟩ := h; exact ⟨by omega, by omega, by omega, fun _ => e⟩
  · cases h
def stD : DataW Unit := (((DataW.map []).put (.string onW) (numD 1)).put (.string offW) (numD 2)).put (.string bypW) (numD 3)
/-- The state's number of a word. -/
def stN (l : List UInt8) : Int := if l == bypW then 3 else if l == offW then 2 else if l == onW then 1 else 0
theorem stD_list : stD = .map [(.string bypW, numD 3), (.string offW, numD 2), (.string onW, numD 1)] := rfl
theorem stD_at (l : List UInt8) : stD.atKey (.string l) (numD 0) = numD (stN l) := by
  rw [stD_list]
  unfold DataW.atKey stN
  have c : ∀ k : List UInt8, (k == l) = (l == k) := fun k => by rw [Bool.eq_iff_iff]; simp; exact ⟨fun h => h.symm, fun h => h.symm⟩
  simp only [List.find?, Lit.sameKey, c]
  cases h1 : (l == bypW) with
  | true => simp
  | false =>
    cases h2 : (l == offW) with
    | true => simp
    | false => cases h3 : (l == onW) <;> simp
theorem stD_has (l : List UInt8) : Maps.has stD (.string l) = stW l := by
  rw [stD_list]
  unfold Maps.has stW
  have c : ∀ k : List UInt8, (k == l) = (l == k) := fun k => by rw [Bool.eq_iff_iff]; simp; exact ⟨fun h => h.symm, fun h => h.symm⟩
  simp only [List.any, Lit.sameKey, c]
  cases (l == bypW) <;> cases (l == offW) <;> cases (l == onW) <;> rfl
theorem wpList_insert_own {H : Type} {P : Program} (w : World) {ops : Array Oper} {rest : List Oper} {o : Oper} {a : Act} {Q : Exit → Act → World → Prop}
    (hg : o.guard = none) (m x v : Operand) (t : TypeId) (hop : o.op = Op.insert t m x v)
    (k e : TypeId) (K : Maps.Keyed P k) (ht : P.underlying t = some (.map k e)) (R : Value → Option (DataW H × List MemPlace)) (b n : Nat) (D : DataW H)
    (hm : a.eval m = .map (some b)) (hown : w.ownsMap P k R b n D) (hn : n < maxLen) (key val : Value) (kl : Lit) (hx : a.eval x = key) (hv : a.eval v = val) (hkey : keyOf P k key = some kl)
    (d : DataW H) (ps : List MemPlace) (hval : R val = some (d, ps))
    (hK : ∀ w', w'.ownsMap P k R b (n + 1) (D.put kl d) → w.grownBy w' (some b) → wpList P ops Q rest (a.put o.dst undef) w') :
    wpList P ops Q (o :: rest) a w := by
  refine wpList_plain hg fun K' hK' => ?_
  obtain ⟨w', hrun, r1, r2⟩ := hown.update K ht hn hkey hval
  unfold Oper.wp
  simp [execOp, hop, hm, hx, hv, hrun, Result.andThen]
  exact hK' _ _ (hK w' r1 r2)
theorem und_str : Tryz.prog.underlying 9 = some .string := by kernel_rfl
theorem keyed_str : Maps.Keyed Tryz.prog 9 := Maps.string_keyed und_str
def stMap (w : World) (b : Nat) : Prop := w.ownsMap Tryz.prog 9 stR b 3 stD
set_option maxRecDepth 100000 in
set_option maxHeartbeats 2000000 in
theorem states_any (w : World) : Calls Tryz.prog 141 #[] w fun e w' => ∃ b, e = .returned (.map (some b)) ∧ stMap w' b ∧ Below w.heap.size w w' := by
  have hmk : ∀ W : World, (Instr.makeMap 202 none).run Tryz.prog W = .ok (.map (some W.heap.size)) (W.alloc (.map #[] 0)) := fun W => run_makeMap _ _
  have hT : Tryz.prog.underlying 202 = some (.map 9 200) := by kernel_rfl
  have HT := Lib.hid hT
  clear hT
  have H0 := Lib.hid (World.ownsMap_made w Tryz.prog 9 stR)
  have hb0 : Below w.heap.size w (w.alloc (.map #[] 0)) := (Below.refl w.heap.size w).alloc (Nat.le_refl _) _
  obtain ⟨w1, hr1, h1, hg1⟩ := H0.out.update keyed_str HT.out (by decide) (WideMaps.keyOf_string_mk und_str (s := ⟨#[111, 110]⟩) (by decide)) stR_on
  obtain ⟨w2, hr2, h2, hg2⟩ := h1.update keyed_str HT.out (by decide) (WideMaps.keyOf_string_mk und_str (s := ⟨#[111, 102, 102]⟩) (by decide)) stR_off
  obtain ⟨w3, hr3, h3, hg3⟩ := h2.update keyed_str HT.out (by decide) (WideMaps.keyOf_string_mk und_str (s := ⟨#[98, 121, 112, 97, 115, 115, 101, 100]⟩) (by decide)) stR_byp
  have hk : ∀ k, some w.heap.size = some k → w.heap.size ≤ k := fun k e => by cases e; exact Nat.le_refl _
  have b1 := hb0.grown hg1 hb0.size hk
  have b2 := b1.grown hg2 b1.size hk
  have HB := Lib.hid (b2.grown hg3 b2.size hk)
  have HH : Hid (stMap w3 w.heap.size) := Lib.hid h3
  unfold fnOn at hr1
  unfold fnOff at hr2
  unfold fnByp at hr3
  clear h1 h2 h3 hg1 hg2 hg3 hb0 b1 b2 hk H0
  go_enter Tryz.func141, Tryz.ntmps141
  go_wp2_with fail
  go_ret
  exact ⟨_, rfl, HH.out, HB.out⟩
theorem st1_any (x : Md) (w : World) : Calls Tryz.prog 185 #[.agg #[.string x.n, .int .i64 x.q, .bool x.on, .bool x.by_]] w fun e w' => e = .returned (.agg #[.string x.n, .int .i64 x.q, .bool true, .bool x.by_]) ∧ Below w.heap.size w w' := by
  go_enter Tryz.func185, Tryz.ntmps185
  go_wp2_with fail
  refine bodyPost_ret (v := .agg #[.string x.n, .int .i64 x.q, .bool true, .bool x.by_]) ?_ rfl ⟨rfl, bl_⟩
  have ck := (bk_ : Blk ((w.alloc (Obj.cells #[Value.string x.n, Value.int IntKind.i64 x.q, Value.bool true, Value.bool x.by_] 107)).alloc (Obj.cells #[Value.string x.n, Value.int IntKind.i64 x.q, Value.bool true, Value.bool x.by_] 107)) (w.heap.size + 1) 107 #[.string x.n, .int .i64 x.q, .bool true, .bool x.by_]).cell
  simp [results, Tryz.results185, go_sem, ck]
theorem st2_any (x : Md) (w : World) : Calls Tryz.prog 186 #[.agg #[.string x.n, .int .i64 x.q, .bool x.on, .bool x.by_]] w fun e w' => e = .returned (.agg #[.string x.n, .int .i64 x.q, .bool x.on, .bool x.by_]) ∧ Below w.heap.size w w' := by
  go_enter Tryz.func186, Tryz.ntmps186
  go_wp2_with fail
  refine bodyPost_ret (v := .agg #[.string x.n, .int .i64 x.q, .bool x.on, .bool x.by_]) ?_ rfl ⟨rfl, bl_⟩
  have ck := (bk_ : Blk ((w.alloc (Obj.cells #[Value.string x.n, Value.int IntKind.i64 x.q, Value.bool x.on, Value.bool x.by_] 107)).alloc (Obj.cells #[Value.string x.n, Value.int IntKind.i64 x.q, Value.bool x.on, Value.bool x.by_] 107)) (w.heap.size + 1) 107 #[.string x.n, .int .i64 x.q, .bool x.on, .bool x.by_]).cell
  simp [results, Tryz.results186, go_sem, ck]
theorem st3_any (x : Md) (w : World) : Calls Tryz.prog 187 #[.agg #[.string x.n, .int .i64 x.q, .bool x.on, .bool x.by_]] w fun e w' => e = .returned (.agg #[.string x.n, .int .i64 x.q, .bool x.on, .bool true]) ∧ Below w.heap.size w w' := by
  go_enter Tryz.func187, Tryz.ntmps187
  go_wp2_with fail
  refine bodyPost_ret (v := .agg #[.string x.n, .int .i64 x.q, .bool x.on, .bool true]) ?_ rfl ⟨rfl, bl_⟩
  have ck := (bk_ : Blk ((w.alloc (Obj.cells #[Value.string x.n, Value.int IntKind.i64 x.q, Value.bool x.on, Value.bool true] 107)).alloc (Obj.cells #[Value.string x.n, Value.int IntKind.i64 x.q, Value.bool x.on, Value.bool true] 107)) (w.heap.size + 1) 107 #[.string x.n, .int .i64 x.q, .bool x.on, .bool true]).cell
  simp [results, Tryz.results187, go_sem, ck]
end Go.Proofs.YtjanojmgnpfjeaaGreatDoor
