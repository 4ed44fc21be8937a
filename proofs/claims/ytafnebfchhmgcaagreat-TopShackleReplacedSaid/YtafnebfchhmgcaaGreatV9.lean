/- Plans of replacement: modules, permits, hours that are left. -/
import Derived.Test.YtafnebfchhmgcaaGreatV7
import Derived.Test.YtafnebfchhmgcaaGreatQb
import Derived.Test.YtafnebfchhmgcaaGreatQm
namespace Go.Proofs.YtafnebfchhmgcaaGreat
open Go Go.RowKit Go.Sort Go.Shelf
set_option linter.unusedSimpArgs false
set_option linter.unusedVariables false
attribute [local go_sem] cell_if frozen_if grow_cell
/-- A module that has to be replaced. -/
structure Vm where
  n : ByteArray
  f : Int
  b : Int
  h : Int
def Vm.cells (x : Vm) : List Value := [.string x.n, .int .i64 x.f, .int .i64 x.b, .int .i64 x.h]
def vms (l : List Vm) : List Value := l.flatMap Vm.cells
theorem vm_at {w : World} {B n : Nat} {A : Option Addr} {l : List Vm} (h : Reads w B 4 A n (vms l)) : l.length = n ∧ ∀ k, (hk : k < l.length) → ∃ b o, A = some ⟨b, o, none⟩ ∧ b < B ∧ w.cell? ⟨b, o + k * 4, none⟩ = some (.string l[k].n) ∧ w.cell? ⟨b, o + k * 4 + 1, none⟩ = some (.int .i64 l[k].f) ∧ w.cell? ⟨b, o + k * 4 + 2, none⟩ = some (.int .i64 l[k].b) ∧ w.cell? ⟨b, o + k * 4 + 3, none⟩ = some (.int .i64 l[k].h) := by
  obtain ⟨h1, h2⟩ := flat_at (f := Vm.cells) (fun _ => rfl) (by decide) h
  refine ⟨h1, fun k hk => ?_⟩
  obtain ⟨b, o, e, hb, hc⟩ := h2 k hk
  exact ⟨b, o, e, hb, hc 0 _ rfl, hc 1 _ rfl, hc 2 _ rfl, hc 3 _ rfl⟩
def permB (o : Ot) (m : Vm) : Bool := decide (m.f ≤ o.t) && decide (o.t ≤ m.b)
set_option maxRecDepth 100000 in
set_option maxHeartbeats 1000000 in
theorem permits_any (o : Ot) (m : Vm) (w : World) : Calls Tryz.prog 152 #[.agg #[.int .i64 o.t, .int .i64 o.h, .int .i64 o.c], .agg #[.string m.n, .int .i64 m.f, .int .i64 m.b, .int .i64 m.h]] w fun e w' => e = .returned (.bool (permB o m)) ∧ Below w.heap.size w w' := by
  obtain ⟨ot, oh, oc⟩ := o
  obtain ⟨mn, mf, mb, mh⟩ := m
  dsimp only [permB]
  by_cases h1 : mf ≤ ot
  · have d1 : decide (mf ≤ ot) = true := decide_eq_true h1
    go_enter Tryz.func152, Tryz.ntmps152
    go_wp2_with fail
    go_ret
    exact ⟨by first | rfl | simp [d1], bl_⟩
  · have d1 : decide (mf ≤ ot) = false := decide_eq_false h1
    go_enter Tryz.func152, Tryz.ntmps152
    go_wp2_with fail
    go_ret
    exact ⟨by first | rfl | simp [d1], bl_⟩
theorem fit1_any (o : Ot) (w : World) : Calls Tryz.prog 176 #[.agg #[.int .i64 o.t, .int .i64 o.h, .int .i64 o.c]] w fun e w' => e = .returned (.int .i64 o.h) ∧ Below w.heap.size w w' := by
  go_enter Tryz.func176, Tryz.ntmps176
  go_wp2_with fail
  go_ret
  exact ⟨rfl, bl_⟩
theorem fit2_any (z : Int) (w : World) : Calls Tryz.prog 178 #[.int .i64 z] w fun e w' => e = .returned (.bool (decide (z < 0))) ∧ w = w' := by
  go_enter Tryz.func178, Tryz.ntmps178
  go_wp2_with fail
  go_ret
  exact ⟨rfl, rfl⟩
theorem ContainsFuncI_any (g : Nat) (cap : Array Value) (B : Nat) (A : Option Addr) (n c : Nat) (l : List Int) (p : Int → Bool) (w : World) (hr : Reads w B 1 A n (List.map (Value.int .i64) l)) (hB : B ≤ w.heap.size) (hn : n ≤ 1000) (eg : Enters Tryz.prog g) (hp : Pred Tryz.prog g #[] cap (fun x => Value.int .i64 x) l p w) :
    Calls Tryz.prog 177 #[.slice A n c, .func (.func g) #[] cap] w fun e w' => e = .returned (.bool (l.any p)) ∧ Below w.heap.size w w' := by
  have HC := Lib.hid (IndexFuncI_any g cap B A n c l p w hr hB hn eg hp)
  rw [← idxP_any p l 0]
  clear hp hr
  generalize idxP p 0 l = q at *
  go_enter Tryz.func177, Tryz.ntmps177
  go_wp2_with (go_at_call 136; refine HC.out.mono ?_; rintro e w1 ⟨rfl, hb1⟩)
  go_ret
  exact ⟨by first | rfl | (simp; done), hb1⟩
set_option maxRecDepth 100000 in
set_option maxHeartbeats 2000000 in
theorem mapH_any (B : Nat) (A : Option Addr) (n c : Nat) (l : List Ot) (w : World)  (hr : Reads w B 3 A n (ots l)) (hB : B ≤ w.heap.size) (hn : n ≤ 1000) :
    Calls Tryz.prog 175 #[.slice A n c, .func (.func 176) #[] #[]] w (MapRes 3 w (l.map fun x => Value.int .i64 x.h)) := by
  obtain ⟨hl, ha⟩ := ot_at hr
  have HL := Lib.hid hl
  have HA := Lib.hid ha
  clear hl ha hr
  go_enter Tryz.func175, Tryz.ntmps175
  go_wp2_with fail
  go_loopw [5, 10] (fun v i wr => ∃ k : Nat, k ≤ n ∧ i = .int .i64 k ∧ wr.ownsRow w.heap.size 3 1 v k ((l.take k).map fun x => Value.int .i64 x.h) ∧ Below w.heap.size w wr) (fun _ i _ => n - (intOf i).toNat)
  case atStart => exact ⟨0, by omega, rfl, World.ownsRow_nil _ _ _ _, bl_⟩
  case round =>
    obtain ⟨k, hk, rfl, hO, hb⟩ := hrel
    have HO := Lib.hid hO
    clear hO
    have hs := hb.size
    by_cases hlt : k < n
    · have hkl : k < l.length := by rw [HL.out]; exact hlt
      obtain ⟨b, o, eA, hbb, hz⟩ := HA.out k hkl
      have kb : ∀ i, wr.cell? ⟨b, i, none⟩ = w.cell? ⟨b, i, none⟩ := fun i => hb.cell (p := ⟨b, i, none⟩) (by simp; omega)
      simp only [← kb] at hz
      clear kb
      have hbw : b < wr.heap.size := by omega
      subst eA
      have Hd : Hid (((l.take (k + 1)).map fun x => Value.int .i64 x.h) = ((l.take k).map fun x => Value.int .i64 x.h) ++ [(fun x => Value.int .i64 x.h) l[k]]) := by
        show _ = _
        rw [List.take_succ_eq_append_getElem hkl, List.map_append]; rfl
      generalize l[k] = x at *
      obtain ⟨xt, xh, xc⟩ := x; obtain ⟨z0, z1, z2⟩ := hz; dsimp only at z0 z1 z2
      go_wp2_with (first | (go_at_call 176; refine (fit1_any ⟨xt, xh, xc⟩ _).mono ?_; rintro e w1 ⟨rfl, hb1⟩; have hs1 := hb1.size; simp at hs1; have HO1 := Lib.hid (own_kept (HO.out.alloc _) hb1)) | (at_builtin; refine wpList_app 73 3 1 8 elemInt rfl (.tmp 14) (.tmp 18) rfl w.heap.size _ k _ rfl HO1.out 1 rfl rfl ?h1 (by decide) ?h3 (by omega) (by omega) ?_))
      case h1 => rfl
      case h3 => unfold maxLen; omega
      intro g' cap' w' hown' hb' _ hs'
      go_wp2
      go_roundw
      case rel => exact ⟨k + 1, by omega, by go_num, by rw [Hd.out]; simpa using hown', (hb.trans (((Below.refl _ _).alloc hs _).trans (hb1.mono (by simp; omega)))).trans hb'⟩
      case measure => simp [intOf]; omega
    · obtain rfl : k = n := by omega
      have HL2 := Lib.hid HL.out
      go_wp2
      go_ret
      refine ⟨_, rfl, ?_, hb⟩
      have := HO.out
      rw [List.take_of_length_le (by rw [HL2.out]; exact Nat.le_refl _)] at this
      rw [List.length_map, HL2.out]
      exact this
end Go.Proofs.YtafnebfchhmgcaaGreat
