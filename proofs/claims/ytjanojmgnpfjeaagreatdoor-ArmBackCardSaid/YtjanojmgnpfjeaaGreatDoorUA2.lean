/- Results of the arm in one form: an arm, or the empty one with an error. -/
import Derived.Test.YtjanojmgnpfjeaaGreatDoorDI
import Derived.Test.YtjanojmgnpfjeaaGreatDoorDB
import Derived.Test.YtjanojmgnpfjeaaGreatDoorQr
import Derived.Test.YtjanojmgnpfjeaaGreatDoorQg
import Derived.Test.YtjanojmgnpfjeaaGreatDoorCJ
import Derived.Test.YtjanojmgnpfjeaaGreatDoorQn
namespace Go.Proofs.YtjanojmgnpfjeaaGreatDoor
open Go Go.RowKit Go.Sort Go.Shelf
set_option linter.unusedSimpArgs false
set_option linter.unusedVariables false
attribute [local go_sem] cell_if frozen_if grow_cell

/-- An arm, if there is no error; else the empty one. -/
def resAr (er : Int) (b : Ar) : Ar := if er = 0 then b else nilA
/-- An arm by value and what its rows hold. -/
def ArOut (w' : World) (b : Ar) (v : Value) : Prop := ∃ A c, v = .agg #[.slice A b.m.length c, .int .i64 b.lo, .int .i64 b.hi, .int .i64 b.cur, .int .i64 b.lim] ∧ MsAt w' w'.heap.size A b.m.length b.m ∧ b.m.length ≤ c
def UniA (w : World) (b : Ar) (er : Int) (e : Ending) (w' : World) : Prop := ∃ A c, e = .returned (.tuple #[.agg #[.slice A b.m.length c, .int .i64 b.lo, .int .i64 b.hi, .int .i64 b.cur, .int .i64 b.lim], .int .i64 er]) ∧ MsAt w' w'.heap.size A b.m.length b.m ∧ b.m.length ≤ c ∧ Below w.heap.size w w'
theorem ms_nil (w : World) (B : Nat) : MsAt w B none 0 [] := ⟨rfl, fun h => absurd h (Nat.not_lt_zero _)⟩
theorem nilA_uni {w w' : World} {er : Int} (hb : Below w.heap.size w w') : UniA w nilA er (.returned (.tuple #[.agg #[.slice none 0 0, .int .i64 0, .int .i64 0, .int .i64 0, .int .i64 0], .int .i64 er])) w' :=
  ⟨none, 0, rfl, ms_nil _ _, Nat.le_refl _, hb⟩
theorem ms_ne {W : World} {B n b : Nat} {A : Option Addr} {m : List Md} {t : TypeId} {cs : Array Value} (h : MsAt W B A n m) (hk : Blk W b t cs) (hs : ∀ (i : Nat) (s : ByteArray), cs[i]? ≠ some (.string s)) : ∀ b' o s', A = some ⟨b', o, s'⟩ → 0 < n → b' ≠ b := by
  rintro b' o s' rfl h0 rfl
  obtain ⟨hl, hat⟩ := md_at h
  obtain ⟨b2, o2, e, _, z0, _⟩ := hat 0 (by omega)
  cases e
  rw [hk.cell] at z0
  exact hs _ _ z0
theorem ms_set {W : World} {B n b : Nat} {A : Option Addr} {m : List Md} (h : MsAt W B A n m) (hne : ∀ b' o s', A = some ⟨b', o, s'⟩ → 0 < n → b' ≠ b) (i : Nat) (u : Value) : MsAt (W.setCell ⟨b, i, none⟩ u) B A n m := by
  refine ⟨h.1, fun h0 => ?_⟩
  obtain ⟨b', o, rfl, hb, hc⟩ := h.2 h0
  refine ⟨b', o, rfl, hb, fun j v hv => ?_⟩
  have h1 := hc j v hv
  unfold World.cell? at h1 ⊢
  rw [Below.heap_setCell W ⟨b, i, none⟩ u b' (hne _ _ _ rfl h0)]
  exact h1
theorem zero_cells : ∀ (i : Nat) (s : ByteArray), (#[.slice none 0 0, .int .i64 0, .int .i64 0, .int .i64 0, .int .i64 0] : Array Value)[i]? ≠ some (.string s) := fun i s e => by
  match i, e with
  | 0, e => simp at e
  | 1, e => simp at e
  | 2, e => simp at e
  | 3, e => simp at e
  | 4, e => simp at e
  | i + 5, e => simp at e
theorem ms_put5B {W : World} {B n b : Nat} {A : Option Addr} {m : List Md} {t : TypeId} {v0 v1 v2 v3 v4 : Value} (h : MsAt W B A n m) (hk : Blk W b t #[.slice none 0 0, .int .i64 0, .int .i64 0, .int .i64 0, .int .i64 0]) :
    MsAt (((((W.setCell ⟨b, 0, none⟩ v0).setCell ⟨b, 1, none⟩ v1).setCell ⟨b, 2, none⟩ v2).setCell ⟨b, 3, none⟩ v3).setCell ⟨b, 4, none⟩ v4) B A n m := by
  have hne := ms_ne h hk zero_cells
  exact ms_set (ms_set (ms_set (ms_set (ms_set h hne 0 v0) hne 1 v1) hne 2 v2) hne 3 v3) hne 4 v4
theorem Blk.exr {X : List Nat} {w w' : World} {g : Nat} {t : TypeId} {cs : Array Value} (h : Blk w g t cs) (hb : Ex X w w') (hg : g ∉ X) : Blk w' g t cs := (hb.block g h.lt hg).trans h
theorem Ex.lowB {X : List Nat} {a b : World} {B : Nat} (h : Ex X a b) (hB : B ≤ a.heap.size) (hX : ∀ x ∈ X, B ≤ x) : Below B a b :=
  ⟨h.os, h.tape, h.output, h.size, fun k hk => h.block k (by omega) (fun hx => by have := hX k hx; omega)⟩
theorem ms_put5 {W : World} {n b : Nat} {A : Option Addr} {m : List Md} {t : TypeId} {v0 v1 v2 v3 v4 : Value} (h : MsAt W W.heap.size A n m) (hk : Blk W b t #[.slice none 0 0, .int .i64 0, .int .i64 0, .int .i64 0, .int .i64 0]) :
    MsAt (((((W.setCell ⟨b, 0, none⟩ v0).setCell ⟨b, 1, none⟩ v1).setCell ⟨b, 2, none⟩ v2).setCell ⟨b, 3, none⟩ v3).setCell ⟨b, 4, none⟩ v4) (((((W.setCell ⟨b, 0, none⟩ v0).setCell ⟨b, 1, none⟩ v1).setCell ⟨b, 2, none⟩ v2).setCell ⟨b, 3, none⟩ v3).setCell ⟨b, 4, none⟩ v4).heap.size A n m := by
  have e5 : ∀ (V : World) (p : Addr) (u : Value), (V.setCell p u).heap.size = V.heap.size := fun V p u => by simp [World.setCell]
  have hne := ms_ne h hk (fun i s e => by
    match i, e with
    | 0, e => simp at e
    | 1, e => simp at e
    | 2, e => simp at e
    | 3, e => simp at e
    | 4, e => simp at e
    | i + 5, e => simp at e)
  rw [e5, e5, e5, e5, e5]
  exact ms_set (ms_set (ms_set (ms_set (ms_set h hne 0 v0) hne 1 v1) hne 2 v2) hne 3 v3) hne 4 v4
theorem armE_uni {w w' : World} {b : Ar} {er : Int} {e : Ending} (h : ArmERes w b er e w') : UniA w (resAr er b) er e w' := by
  obtain ⟨hb, ⟨rfl, g, rfl, hg, _⟩ | ⟨h0, rfl⟩⟩ := h
  · unfold resAr
    rw [if_pos rfl]
    exact ⟨_, _, rfl, (BlkArm.at hg rfl).more hg.lt, Nat.le_refl _, hb⟩
  · unfold resAr
    rw [if_neg h0]
    exact nilA_uni hb
theorem step_uni {w w' : World} {a : Ar} {o : Od} {er : Int} {e : Ending} (h : StepRes w a o er e w') : UniA w (resAr er (stepA a o)) er e w' := by
  obtain ⟨hb, ⟨rfl, g, rfl, hg, _⟩ | ⟨h0, rfl⟩⟩ := h
  · unfold resAr
    rw [if_pos rfl]
    have hl : (stepA a o).m.length = a.m.length := stepMs_len _ _ _ _
    have := (BlkArm.at (b := stepA a o) hg rfl).more hg.lt
    exact ⟨some ⟨g, 0, none⟩, a.m.length, by rw [hl]; rfl, this, by omega, hb⟩
  · unfold resAr
    rw [if_neg h0]
    exact nilA_uni hb
theorem Guaranteed_no (B : Nat) (A : Option Addr) (n c : Nat) (a : Ar) (w : World) (hM : MsAt w B A n a.m) (hB : B ≤ w.heap.size) (hF : FitA a) (hnc : n ≤ c) (hE : armE a ≠ 0) :
    Calls Tryz.prog 55 #[.agg #[.slice A n c, .int .i64 a.lo, .int .i64 a.hi, .int .i64 a.cur, .int .i64 a.lim]] w fun e w' => e = .returned (.tuple #[.int .i64 0, .int .i64 (armE a)]) ∧ Below w.heap.size w w' := by
  have HC := Lib.hid (fun W (hW : Below w.heap.size w W) => CheckArm_any B A n c a W (hM.below (hW.mono hB)) (by have := hW.size; omega) hF hnc)
  have hne : (armE a != 0) = true := by simpa using hE
  generalize armE a = ee at *
  clear hM hF hnc
  go_enter Tryz.func55, Tryz.ntmps55
  go_wp2_with fail
  refine (HC.out _ bl_).mono ?_
  (rintro e w1 ⟨rfl, hb1⟩; have hs1 := hb1.size; (try simp at hs1))
  have bR1 : Blk w1 (w.heap.size + 1) 3 #[.int .i64 0] := bk_
  have bR2 : Blk w1 (w.heap.size + 1 + 1) 31 #[.int .i64 0] := bk_
  have HB1 := Lib.hid (bl_ : Below w.heap.size w w1)
  have cR1 := bR1.cell
  have lR1 := bR1.lt
  have fR1 := bR1.frozen
  have cR2 := bR2.cell
  have lR2 := bR2.lt
  have fR2 := bR2.frozen
  have k1 := (bR1.set_ 0 (.int .i64 0)).far (p := ⟨w.heap.size + 1 + 1, 0, none⟩) (show w.heap.size + 1 ≠ w.heap.size + 1 + 1 by omega) (.int .i64 ee)
  have k2 := (bR2.far (p := ⟨w.heap.size + 1, 0, none⟩) (show w.heap.size + 1 + 1 ≠ w.heap.size + 1 by omega) (.int .i64 0)).set_ 0 (.int .i64 ee)
  have k3 := (HB1.out.setCell (p := ⟨w.heap.size + 1, 0, none⟩) (show w.heap.size ≤ w.heap.size + 1 by omega) (.int .i64 0)).setCell (p := ⟨w.heap.size + 1 + 1, 0, none⟩) (show w.heap.size ≤ w.heap.size + 1 + 1 by omega) (.int .i64 ee)
  have K1 := Lib.hid k1
  have K2 := Lib.hid k2
  have K3 := Lib.hid k3
  clear k1 k2 k3 bR1 bR2 hb1
  go_wp2_with fail
  have ck1 := K1.out.cell
  have ck2 := K2.out.cell
  refine bodyPost_ret (v := .tuple #[.int .i64 0, .int .i64 ee]) (by first | rfl | (simp [results, Tryz.results55, go_sem, ck1, ck2]; done)) rfl ⟨rfl, K3.out⟩
def guaV (a : Ar) : Int := if armE a = 0 then (guarL a : Int) else 0
theorem Guar_uni (B : Nat) (A : Option Addr) (n c : Nat) (a : Ar) (w : World) (hM : MsAt w B A n a.m) (hB : B ≤ w.heap.size) (hF : FitA a) (hnc : n ≤ c) :
    Calls Tryz.prog 55 #[.agg #[.slice A n c, .int .i64 a.lo, .int .i64 a.hi, .int .i64 a.cur, .int .i64 a.lim]] w fun e w' => e = .returned (.tuple #[.int .i64 (guaV a), .int .i64 (armE a)]) ∧ Below w.heap.size w w' := by
  unfold guaV
  by_cases hE : armE a = 0
  · rw [if_pos hE, hE]
    exact Guaranteed_any B A n c a w hM hB hF hnc hE
  · rw [if_neg hE]
    exact Guaranteed_no B A n c a w hM hB hF hnc hE
end Go.Proofs.YtjanojmgnpfjeaaGreatDoor
