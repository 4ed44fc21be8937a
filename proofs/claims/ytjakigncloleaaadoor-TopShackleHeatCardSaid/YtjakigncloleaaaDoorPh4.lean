/- Contracts of phasor: components. -/
import Derived.Test.YtjakigncloleaaaDoorPh3
import Derived.Deep.DeepCutAuto
namespace Go.Proofs.YtjakigncloleaaaDoor
open Go.RowKit Go.Sort
attribute [local go_sem] cell_if frozen_if grow_cell
/-- The two roots lie where the program's text lays them. -/
structure Roots (w : World) : Prop where
  a0 : w.cell? ⟨0, 0, none⟩ = some (.int .i64 0)
  a1 : w.cell? ⟨0, 1, none⟩ = some (.int .i64 1)
  b0 : w.cell? ⟨1, 0, none⟩ = some (.int .i64 (-1))
  b1 : w.cell? ⟨1, 1, none⟩ = some (.int .i64 (-1))
  lt : 2 ≤ w.heap.size
theorem Roots.below {w w' : World} (h : Roots w) (hb : Below w.heap.size w w') : Roots w' :=
  ⟨(hb.cell (p := ⟨_, 0, none⟩) (by have := h.lt; simp; omega)).trans h.a0, (hb.cell (p := ⟨_, 1, none⟩) (by have := h.lt; simp; omega)).trans h.a1, (hb.cell (p := ⟨_, 0, none⟩) (by have := h.lt; simp; omega)).trans h.b0, (hb.cell (p := ⟨_, 1, none⟩) (by have := h.lt; simp; omega)).trans h.b1, Nat.le_trans h.lt hb.size⟩

def cA (a b c : Int) : Int := ePA (ePA a b) c
def c1A (a b b' c c' : Int) : Int := ePA (ePA a (eMA 0 1 b b')) (eMA (-1) (-1) c c')
set_option maxHeartbeats 1000000 in
theorem components_any (a a' b b' c c' : Int) (w : World) (hw : Roots w) :
    Calls Tryd.prog 58 #[.agg #[.int .i64 a, .int .i64 a', .int .i64 b, .int .i64 b', .int .i64 c, .int .i64 c']] w fun e w' => e = .returned (.agg #[.int .i64 (ePA (ePA a b) c), .int .i64 (ePA (ePA a' b') c'),
      .int .i64 (ePA (ePA a (eMA 0 1 b b')) (eMA (-1) (-1) c c')), .int .i64 (ePA (ePA a' (eMB 0 1 b b')) (eMB (-1) (-1) c c')), .int .i64 (ePA (ePA a (eMA (-1) (-1) b b')) (eMA 0 1 c c')), .int .i64 (ePA (ePA a' (eMB (-1) (-1) b b')) (eMB 0 1 c c'))]) ∧ Below w.heap.size w w' := by
  have hlt := hw.lt
  go_enter Tryd.func58, Tryd.ntmps58
  go_upto_region 1 with fail
  go_cut [3, 4, 5] (fun s3 s4 s5 wx => ∃ g h i : Nat, s3 = .pointer (some ⟨g, 0, none⟩) ∧ s4 = .pointer (some ⟨h, 0, none⟩) ∧ s5 = .pointer (some ⟨i, 0, none⟩) ∧ Blk wx g 77 #[.int .i64 a, .int .i64 a'] ∧ Blk wx h 77 #[.int .i64 b, .int .i64 b'] ∧ Blk wx i 77 #[.int .i64 c, .int .i64 c'] ∧ Blk wx (w.heap.size + 1) 30 #[.int .i64 0, .int .i64 0, .int .i64 0, .int .i64 0, .int .i64 0, .int .i64 0] ∧ Below w.heap.size w wx)
  case first =>
    go_region
    all_goals
      go_wp2_with fail
      go_meet
      exact ⟨_, _, _, rfl, rfl, rfl, (by repeat (first | (with_reducible assumption) | ((with_reducible apply Blk.new_at); (first | (simp; done) | (simp; omega))) | (with_reducible apply Blk.drew) | (with_reducible refine Blk.alloc ?_ _) | (with_reducible apply blk_two) | ((with_reducible refine blk_far ?_ ?_ _); (· first | (simp; done) | (simp; omega) | omega)) | ((with_reducible apply blk_kept); (· with_reducible assumption)))), (by repeat (first | (with_reducible assumption) | ((with_reducible apply Blk.new_at); (first | (simp; done) | (simp; omega))) | (with_reducible apply Blk.drew) | (with_reducible refine Blk.alloc ?_ _) | (with_reducible apply blk_two) | ((with_reducible refine blk_far ?_ ?_ _); (· first | (simp; done) | (simp; omega) | omega)) | ((with_reducible apply blk_kept); (· with_reducible assumption)))), (by repeat (first | (with_reducible assumption) | ((with_reducible apply Blk.new_at); (first | (simp; done) | (simp; omega))) | (with_reducible apply Blk.drew) | (with_reducible refine Blk.alloc ?_ _) | (with_reducible apply blk_two) | ((with_reducible refine blk_far ?_ ?_ _); (· first | (simp; done) | (simp; omega) | omega)) | ((with_reducible apply blk_kept); (· with_reducible assumption)))), (by repeat (first | (with_reducible assumption) | ((with_reducible apply Blk.new_at); (first | (simp; done) | (simp; omega))) | (with_reducible apply Blk.drew) | (with_reducible refine Blk.alloc ?_ _) | (with_reducible apply blk_two) | ((with_reducible refine blk_far ?_ ?_ _); (· first | (simp; done) | (simp; omega) | omega)) | ((with_reducible apply blk_kept); (· with_reducible assumption)))), (by repeat (first | (with_reducible exact Below.refl _ _) | (with_reducible assumption) | ((with_reducible refine Below.alloc ?_ ?_ _); rotate_left; (· first | (simp; done) | (simp; omega) | omega)) | ((with_reducible refine Below.setCell ?_ ?_ _); rotate_left; (· first | (simp; done) | (simp; omega) | omega)) | (with_reducible apply Below.drew) | ((with_reducible apply below_step); (· with_reducible assumption); rotate_left; (· first | (simp; done) | (simp; omega) | omega))))⟩
  case rest =>
    obtain ⟨g, h, i, rfl, rfl, rfl, hg, hh, hi, hr, hb⟩ := hcut
    have hw' := hw.below hb
    clear hw
    obtain ⟨a0, a1, b0, b1, lt⟩ := hw'
    have hgl := hg.lt
    have hhl := hh.lt
    have hil := hi.lt
    have hrl := hr.lt
    obtain ⟨g0, g1, -, -⟩ := hg.two
    obtain ⟨h0, h1, -, -⟩ := hh.two
    obtain ⟨i0, i1, -, -⟩ := hi.two
    clear hg hh hi
    have HR := Lib.hid hr
    clear hr
    go_wp2_with fail
    (refine wp_region_head_below 24 (by kernel_rfl) (by kernel_rfl) ?_; simp only [List.take_succ_cons, List.take_zero, List.drop_succ_cons, List.drop_zero]; (repeat (go_big_quiet_step (first | exact Calls.regrown_of (plus_any _ _ _ _ _) | exact Calls.regrown_of (times_any _ _ _ _ _)))); refine wpQuiet_nil ?_)
    intro w1 hb1
    have hr1 := HR.out.kept hb1
    have hs1 := hb1.size
    have r0 := hr1.cell 0
    have r1 := hr1.cell 1
    have r2 := hr1.cell 2
    have r3 := hr1.cell 3
    have r4 := hr1.cell 4
    have r5 := hr1.cell 5
    have f0 := hr1.frozen
    simp at r0 r1 r2 r3 r4 r5
    clear hr1
    go_wp2
    exact bodyPost_ret (by simp [results, Tryd.results58, go_sem, *]; try ((repeat' apply And.intro) <;> rfl)) rfl ⟨rfl, (by repeat (first | (with_reducible exact Below.refl _ _) | (with_reducible assumption) | ((with_reducible refine Below.alloc ?_ ?_ _); rotate_left; (· first | (simp; done) | (simp; omega) | omega)) | ((with_reducible refine Below.setCell ?_ ?_ _); rotate_left; (· first | (simp; done) | (simp; omega) | omega)) | (with_reducible apply Below.drew) | ((with_reducible apply below_step); (· with_reducible assumption); rotate_left; (· first | (simp; done) | (simp; omega) | omega))))⟩
end Go.Proofs.YtjakigncloleaaaDoor
