/- Lists and arms copied: ints and floats of the law, Own of the reference. -/
import Derived.Test.YtjanojmgnpfjeaaGreatDoorR5
import Derived.Test.YtjanojmgnpfjeaaGreatDoorQe
import Derived.Test.YtjanojmgnpfjeaaGreatDoorQn
namespace Go.Proofs.YtjanojmgnpfjeaaGreatDoor
open Go.RowKit Go.Sort Go.Shelf
set_option linter.unusedSimpArgs false
set_option linter.unusedVariables false
attribute [local go_sem] cell_if frozen_if grow_cell
def CopyRes (w : World) (n : Nat) (xs : List Value) (e : Ending) (w' : World) : Prop := ∃ A cap, e = .returned (.slice A n cap) ∧ Reads w' w'.heap.size 1 A n xs ∧ Below w.heap.size w w'
theorem floats_any (B : Nat) (A : Option Addr) (n c : Nat) (l : List Nat) (w : World) (hr : Reads w B 1 A n (l.map (Value.float .f32))) (hB : B ≤ w.heap.size) (hn : n ≤ 1000) :
    Calls Tryz.prog 11 #[.slice A n c] w (CopyRes w n (l.map (Value.float .f32))) := by
  have HR := Lib.hid hr
  clear hr
  go_enter Tryz.func11, Tryz.ntmps11
  go_wp2_with (at_builtin; refine wpList_plain rfl fun K hK => ?_; refine wp_spread 27 102 1 4 elemF32 (.tmp 3) (.tmp 4) rfl w.heap.size w.heap.size rfl (Own.new w w.heap.size 102 1 0 #[] (Nat.le_refl _) rfl (by unfold maxLen; decide)) A n c B (l.map (Value.float .f32)) rfl (HR.out.alloc hB _) (fun v hv => by obtain ⟨x, _, rfl⟩ := List.mem_map.1 hv; rfl) (by unfold maxLen; omega) (by omega) (by simp) ?_)
  intro v' w' hown hg _
  obtain ⟨A', cap', rfl, _, _, hrd⟩ := own_form hown
  have HD := Lib.hid hrd
  have HB := Lib.hid ((((Below.refl _ w).alloc (Nat.le_refl _) (.cells #[] 102)).grown hg (by simp) (fun k e => by cases e; exact Nat.le_refl _) : Below w.heap.size w w'))
  clear hown hg hrd
  refine hK _ _ ?_
  go_wp2
  go_ret
  exact ⟨A', cap', rfl, HD.out, HB.out⟩
/-- The result of a function that gives an arm in a box. -/
theorem res_armR {fn : Func} {p b : Nat} {T : TypeId} {tmps : Array Value} {W : World} {v0 v1 v2 v3 v4 : Value} (hr : fn.results = #[.cell p 26]) (hp : tmps[p]?.getD undef = .pointer (some ⟨b, 0, none⟩)) (hk : Blk W b T #[v0, v1, v2, v3, v4]) :
    (results fn tmps).run Tryz.prog W = .ok (.agg #[v0, v1, v2, v3, v4]) W := by
  have c0 : W.cell? ⟨b, 0, none⟩ = some v0 := hk.cell 0
  have c1 : W.cell? ⟨b, 1, none⟩ = some v1 := hk.cell 1
  have c2 : W.cell? ⟨b, 2, none⟩ = some v2 := hk.cell 2
  have c3 : W.cell? ⟨b, 3, none⟩ = some v3 := hk.cell 3
  have c4 : W.cell? ⟨b, 4, none⟩ = some v4 := hk.cell 4
  clear hk
  unfold results
  rw [hr]
  simp [go_sem, hp, c0, c1, c2, c3, c4]
/-- An arm with a row of its own, in place. -/
def ROwn (w : World) (a : Ar) (e : Ending) (w' : World) : Prop := ∃ g cap, e = .returned (.agg #[.slice (some ⟨g, 0, none⟩) a.m.length cap, .int .i64 a.lo, .int .i64 a.hi, .int .i64 a.cur, .int .i64 a.lim]) ∧ Own w' w.heap.size 109 4 g a.m.length cap (mds a.m) ∧ Below w.heap.size w w'
set_option maxRecDepth 100000 in
set_option maxHeartbeats 2000000 in
theorem rOwn_any (B : Nat) (A : Option Addr) (n c : Nat) (a : Ar) (w : World) (hM : MsAt w B A n a.m) (hB : B ≤ w.heap.size) (hn : n ≤ 1000) :
    Calls Tryz.prog 77 #[.agg #[.slice A n c, .int .i64 a.lo, .int .i64 a.hi, .int .i64 a.cur, .int .i64 a.lim]] w (ROwn w a) := by
  have hl := (md_at hM).1
  have HR := Lib.hid hM
  clear hM
  unfold ROwn
  rw [hl]
  clear hl
  obtain ⟨m, lo, hi, cu, li⟩ := a
  dsimp only at *
  go_enter Tryz.func77, Tryz.ntmps77
  go_upto_region 1 with fail
  refine wp_world ?_
  intro W0 hW0
  have hb0 : Below w.heap.size w W0 := by rw [hW0]; exact bl_
  have bA0 : Blk W0 w.heap.size 26 #[.slice A n c, .int .i64 lo, .int .i64 hi, .int .i64 cu, .int .i64 li] := by rw [hW0]; exact bk_
  have bR0 : Blk W0 (w.heap.size + 1) 26 #[.slice none 0 0, .int .i64 0, .int .i64 0, .int .i64 0, .int .i64 0] := by rw [hW0]; exact bk_
  have hs0 : w.heap.size + 1 + 1 ≤ W0.heap.size := by rw [hW0]; simp
  clear hW0
  have cA := bA0.cell
  have lA := bA0.lt
  go_wp2_with (at_builtin; refine wpList_plain rfl fun K hK => ?_; refine wp_spread 22 109 4 32 elemMdR (.tmp 3) (.tmp 5) rfl W0.heap.size W0.heap.size rfl (Own.new W0 W0.heap.size 109 4 0 #[] (Nat.le_refl _) rfl (by unfold maxLen; decide)) A n c B (mds m) rfl ((HR.out.below (hb0.mono hB)).alloc (by omega) _) (mds_one m) (by unfold maxLen; omega) (by omega) (by simp) ?_)
  intro v' w' hown hg hv
  have hb1 : Below W0.heap.size W0 w' := (((Below.refl _ W0).alloc (Nat.le_refl _) (.cells #[] 109)).grown hg (by simp) (fun k e => by cases e; exact Nat.le_refl _))
  have bA1 := bA0.kept hb1
  have bR1 := bR0.kept hb1
  have HB1 := Lib.hid (hb0.trans (hb1.mono (by omega)))
  have hs1 := hb1.size
  obtain ⟨g, cap, rfl⟩ : ∃ g cap, v' = .slice (some ⟨g, 0, none⟩) n cap := by
    rcases hown.2 with ⟨e, _⟩ | ⟨g, cap, cur, e, _⟩
    · exact absurd e hv
    · exact ⟨g, cap, e⟩
  have HO := Lib.hid hown
  have f0 := bA1.frozen
  have l0 := bA1.lt
  have c0 := bA1.cell
  have fR := bR1.frozen
  have cR := bR1.cell
  have lR := bR1.lt
  clear hown hg hv hb1 hb0 cA lA bA0 bR0
  refine hK _ _ ?_
  have k1 := bA1.set_ 0 (.slice (some ⟨g, 0, none⟩) n cap)
  simp only [List.setIfInBounds_toArray, List.set_cons_zero] at k1
  have k2 := bR1.far (p := ⟨w.heap.size, 0, none⟩) (show w.heap.size + 1 ≠ w.heap.size by omega) (.slice (some ⟨g, 0, none⟩) n cap)
  have hgl := HO.out.lt
  have e5 : ∀ (V : World) (p : Addr) (u : Value), (V.setCell p u).heap.size = V.heap.size := fun V p u => by simp [World.setCell]
  have k3 := row_set (t := 26) (i := 0) (u := .slice (some ⟨g, 0, none⟩) n cap) HO.out bA1 (by decide)
  have k4 := HB1.out.setCell (p := ⟨w.heap.size, 0, none⟩) (Nat.le_refl _) (.slice (some ⟨g, 0, none⟩) n cap)
  have p2 := put5_blk (v0 := .slice (some ⟨g, 0, none⟩) n cap) (v1 := .int .i64 lo) (v2 := .int .i64 hi) (v3 := .int .i64 cu) (v4 := .int .i64 li) k2
  have p4 := put5_low (b := w.heap.size + 1) (v0 := .slice (some ⟨g, 0, none⟩) n cap) (v1 := .int .i64 lo) (v2 := .int .i64 hi) (v3 := .int .i64 cu) (v4 := .int .i64 li) k4 (by omega)
  have q0 := row_set (t := 26) (i := 0) (u := .slice (some ⟨g, 0, none⟩) n cap) k3 k2 (by decide)
  have q1 := row_set (t := 26) (i := 1) (u := .int .i64 lo) q0 (k2.set_ 0 _) (by decide)
  have q2 := row_set (t := 26) (i := 2) (u := .int .i64 hi) q1 ((k2.set_ 0 _).set_ 1 _) (by decide)
  have q3 := row_set (t := 26) (i := 3) (u := .int .i64 cu) q2 (((k2.set_ 0 _).set_ 1 _).set_ 2 _) (by decide)
  have q4 := row_set (t := 26) (i := 4) (u := .int .i64 li) q3 ((((k2.set_ 0 _).set_ 1 _).set_ 2 _).set_ 3 _) (by decide)
  have P2 := Lib.hid p2
  have P4 := Lib.hid p4
  have Q4 := Lib.hid q4
  clear k1 k2 k3 k4 p2 p4 q0 q1 q2 q3 q4
  go_wp2_with fail
  refine bodyPost_ret (v := .agg #[.slice (some ⟨g, 0, none⟩) n cap, .int .i64 lo, .int .i64 hi, .int .i64 cu, .int .i64 li]) (res_armR Tryz.results77 rfl P2.out) rfl ⟨g, cap, rfl, row_base Q4.out (by omega), P4.out⟩
end Go.Proofs.YtjanojmgnpfjeaaGreatDoor
