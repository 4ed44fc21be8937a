/- Contracts of phasor: Power. -/
import Derived.Test.YtjakigncloleaaaDoorPh5
import Derived.Test.YtjakigncloleaaaDoorPh2
namespace Go.Proofs.YtjakigncloleaaaDoor
open Go.RowKit Go.Sort
attribute [local go_sem] cell_if frozen_if grow_cell
def powS (U I : Nat → Int × Int) : Nat → Int × Int
  | 0 => (0, 0)
  | k + 1 => (ePA (powS U I k).1 (eMA (U k).1 (U k).2 (eCA (I k).1 (I k).2) (eCB (I k).2)), ePA (powS U I k).2 (eMB (U k).1 (U k).2 (eCA (I k).1 (I k).2) (eCB (I k).2)))
theorem six_at {w : World} {g t : Nat} {U : Nat → Int × Int} (h : Blk w g t #[.int .i64 (U 0).1, .int .i64 (U 0).2, .int .i64 (U 1).1, .int .i64 (U 1).2, .int .i64 (U 2).1, .int .i64 (U 2).2]) {k : Nat} (hk : k < 3) : w.cell? ⟨g, k * 2, none⟩ = some (.int .i64 (U k).1) ∧ w.cell? ⟨g, k * 2 + 1, none⟩ = some (.int .i64 (U k).2) := by
  rw [h.cell, h.cell]
  match k, hk with
  | 0, _ => exact ⟨rfl, rfl⟩
  | 1, _ => exact ⟨rfl, rfl⟩
  | 2, _ => exact ⟨rfl, rfl⟩
set_option maxHeartbeats 1000000 in
theorem Power_any (U I : Nat → Int × Int) (w : World) (h : Small3 (U 0).1 (U 0).2 (U 1).1 (U 1).2 (U 2).1 (U 2).2) (h' : Small3 (I 0).1 (I 0).2 (I 1).1 (I 1).2 (I 2).1 (I 2).2) :
    Calls Tryd.prog 10 #[.agg #[.int .i64 (U 0).1, .int .i64 (U 0).2, .int .i64 (U 1).1, .int .i64 (U 1).2, .int .i64 (U 2).1, .int .i64 (U 2).2], .agg #[.int .i64 (I 0).1, .int .i64 (I 0).2, .int .i64 (I 1).1, .int .i64 (I 1).2, .int .i64 (I 2).1, .int .i64 (I 2).2]] w fun e w' => e = .returned (.tuple #[.agg #[.int .i64 (powS U I 3).1, .int .i64 (powS U I 3).2], .int .i64 (wrap64 (wrap64 (2 * (powS U I 3).1) - (powS U I 3).2)), .int .i64 0]) ∧ Below w.heap.size w w' := by
  go_enter Tryd.func10, Tryd.ntmps10
  go_wp2_with fail
  (refine wp_region_head_below 4 (by kernel_rfl) (by kernel_rfl) ?_; simp only [List.take_succ_cons, List.take_zero, List.drop_succ_cons, List.drop_zero]; (repeat (go_big_quiet_step (first | exact Calls.regrown_of (checkPhases_any _ _ _ _ _ _ _ h) | exact Calls.regrown_of (checkPhases_any _ _ _ _ _ _ _ h')))); refine wpQuiet_nil ?_)
  intro w1 hb1
  have B1 : Blk w1 w.heap.size 31 #[.int .i64 (U 0).1, .int .i64 (U 0).2, .int .i64 (U 1).1, .int .i64 (U 1).2, .int .i64 (U 2).1, .int .i64 (U 2).2] := Blk.kept (by repeat (first | (with_reducible assumption) | ((with_reducible apply Blk.new_at); (first | (simp; done) | (simp; omega))) | (with_reducible apply Blk.drew) | (with_reducible refine Blk.alloc ?_ _) | (with_reducible apply blk_two) | ((with_reducible refine blk_far ?_ ?_ _); (· first | (simp; done) | (simp; omega) | omega)) | ((with_reducible apply blk_kept); (· with_reducible assumption)))) hb1
  have B2 : Blk w1 (w.heap.size + 1) 31 #[.int .i64 (I 0).1, .int .i64 (I 0).2, .int .i64 (I 1).1, .int .i64 (I 1).2, .int .i64 (I 2).1, .int .i64 (I 2).2] := Blk.kept (by repeat (first | (with_reducible assumption) | ((with_reducible apply Blk.new_at); (first | (simp; done) | (simp; omega))) | (with_reducible apply Blk.drew) | (with_reducible refine Blk.alloc ?_ _) | (with_reducible apply blk_two) | ((with_reducible refine blk_far ?_ ?_ _); (· first | (simp; done) | (simp; omega) | omega)) | ((with_reducible apply blk_kept); (· with_reducible assumption)))) hb1
  have B3 : Blk w1 (w.heap.size + 1 + 1) 25 #[.int .i64 0, .int .i64 0] := Blk.kept (by repeat (first | (with_reducible assumption) | ((with_reducible apply Blk.new_at); (first | (simp; done) | (simp; omega))) | (with_reducible apply Blk.drew) | (with_reducible refine Blk.alloc ?_ _) | (with_reducible apply blk_two) | ((with_reducible refine blk_far ?_ ?_ _); (· first | (simp; done) | (simp; omega) | omega)) | ((with_reducible apply blk_kept); (· with_reducible assumption)))) hb1
  have hb : Below w.heap.size w w1 := (by repeat (first | (with_reducible exact Below.refl _ _) | (with_reducible assumption) | ((with_reducible refine Below.alloc ?_ ?_ _); rotate_left; (· first | (simp; done) | (simp; omega) | omega)) | ((with_reducible refine Below.setCell ?_ ?_ _); rotate_left; (· first | (simp; done) | (simp; omega) | omega)) | (with_reducible apply Below.drew) | ((with_reducible apply below_step); (· with_reducible assumption); rotate_left; (· first | (simp; done) | (simp; omega) | omega))))
  clear hb1
  have hl3 := B3.lt
  go_wp2_with (go_at_call 24; refine (first_new [0, 0] _ _ 2 rfl (by unfold maxLen; omega)).mono ?_; rw [show firstE [0, 0] = 0 from rfl]; rintro e w3 ⟨rfl, rfl⟩)
  go_loopw [20] (fun i wr => ∃ k : Nat, k ≤ 3 ∧ i = .int .i64 k ∧ Blk wr w.heap.size 31 #[.int .i64 (U 0).1, .int .i64 (U 0).2, .int .i64 (U 1).1, .int .i64 (U 1).2, .int .i64 (U 2).1, .int .i64 (U 2).2] ∧ Blk wr (w.heap.size + 1) 31 #[.int .i64 (I 0).1, .int .i64 (I 0).2, .int .i64 (I 1).1, .int .i64 (I 1).2, .int .i64 (I 2).1, .int .i64 (I 2).2] ∧ Blk wr (w.heap.size + 1 + 1) 25 #[.int .i64 0, .int .i64 0] ∧ Blk wr (w1.heap.size + 1) 77 #[.int .i64 (powS U I k).1, .int .i64 (powS U I k).2] ∧ Below w.heap.size w wr) (fun i _ => 3 - (intOf i).toNat)
  case atStart => exact ⟨0, by omega, rfl, (B1.alloc _).alloc _, (B2.alloc _).alloc _, (B3.alloc _).alloc _, Blk.new_at _ _ (by simp), (by repeat (first | (with_reducible exact Below.refl _ _) | (with_reducible assumption) | ((with_reducible refine Below.alloc ?_ ?_ _); rotate_left; (· first | (simp; done) | (simp; omega) | omega)) | ((with_reducible refine Below.setCell ?_ ?_ _); rotate_left; (· first | (simp; done) | (simp; omega) | omega)) | (with_reducible apply Below.drew) | ((with_reducible apply below_step); (· with_reducible assumption); rotate_left; (· first | (simp; done) | (simp; omega) | omega))))⟩
  case round =>
    obtain ⟨k, hk, rfl, C1, C2, C3, C4, hb'⟩ := hrel
    clear B1 B2 B3
    have l1 := C1.lt
    have l2 := C2.lt
    have l3 := C3.lt
    have l4 := C4.lt
    have hs' := hb'.size
    have HC4 := Lib.hid C4
    have HC3 := Lib.hid C3
    have hS : Hid (powS U I (k + 1) = (ePA (powS U I k).1 (eMA (U k).1 (U k).2 (eCA (I k).1 (I k).2) (eCB (I k).2)), ePA (powS U I k).2 (eMB (U k).1 (U k).2 (eCA (I k).1 (I k).2) (eCB (I k).2)))) := rfl
    generalize hp : powS U I k = p at *
    have HP := Lib.hid hp
    clear hp
    obtain ⟨p1, p2⟩ := p
    obtain ⟨s0, s1, -, -⟩ := C4.two
    by_cases hlt : k < 3
    · obtain ⟨u0, u1⟩ := six_at C1 hlt
      obtain ⟨i0, i1⟩ := six_at C2 hlt
      have HC1 := Lib.hid C1
      have HC2 := Lib.hid C2
      clear C1 C2 C3 C4 HP
      generalize U k = u at *
      generalize I k = v at *
      have hk1 : (0 : Int) ≤ (k : Int) := by omega
      have hk2 : (k : Int) < 3 := by omega
      go_wp2_with fail
      (refine wp_region_head_below 10 (by kernel_rfl) (by kernel_rfl) ?_; simp only [List.take_succ_cons, List.take_zero, List.drop_succ_cons, List.drop_zero]; (repeat (go_big_quiet_step (first | exact Calls.regrown_of (plus_any _ _ _ _ _) | exact Calls.regrown_of (times_any _ _ _ _ _) | exact Calls.regrown_of (conj_any _ _ _)))); refine wpQuiet_nil ?_)
      intro w2 hb2
      have D4 := HC4.out.kept hb2
      obtain ⟨t0, t1, f0, f1⟩ := D4.two
      have HD4 := Lib.hid D4
      clear s0 s1 u0 u1 i0 i1 D4
      have ls := hb2.size
      go_wp2
      go_roundw
      case rel =>
        refine ⟨k + 1, by omega, by go_num, ?_, ?_, ?_, ?_, (by repeat (first | (with_reducible exact Below.refl _ _) | (with_reducible assumption) | ((with_reducible refine Below.alloc ?_ ?_ _); rotate_left; (· first | (simp; done) | (simp; omega) | omega)) | ((with_reducible refine Below.setCell ?_ ?_ _); rotate_left; (· first | (simp; done) | (simp; omega) | omega)) | (with_reducible apply Below.drew) | ((with_reducible apply below_step); (· with_reducible assumption); rotate_left; (· first | (simp; done) | (simp; omega) | omega))))⟩
        · exact ((HC1.out.kept hb2).far (by simp; omega) _).far (by simp; omega) _
        · exact ((HC2.out.kept hb2).far (by simp; omega) _).far (by simp; omega) _
        · exact ((HC3.out.kept hb2).far (by simp; omega) _).far (by simp; omega) _
        · rw [hS.out]; exact (HD4.out.set_ 0 _).set_ 1 _
      case measure => simp [intOf]; omega
    · obtain rfl : k = 3 := by omega
      obtain ⟨r0, r1, g0, g1⟩ := C3.two
      clear C1 C2 C3 C4
      go_wp2
      go_region
      go_wp2
      exact bodyPost_ret (v := .tuple #[.agg #[.int .i64 p1, .int .i64 p2], .int .i64 (wrap64 (wrap64 (2 * p1) - p2)), .int .i64 0]) (by simp [results, Tryd.results10, go_sem, *]) rfl ⟨by rw [HP.out], (by repeat (first | (with_reducible exact Below.refl _ _) | (with_reducible assumption) | ((with_reducible refine Below.alloc ?_ ?_ _); rotate_left; (· first | (simp; done) | (simp; omega) | omega)) | ((with_reducible refine Below.setCell ?_ ?_ _); rotate_left; (· first | (simp; done) | (simp; omega) | omega)) | (with_reducible apply Below.drew) | ((with_reducible apply below_step); (· with_reducible assumption); rotate_left; (· first | (simp; done) | (simp; omega) | omega))))⟩
end Go.Proofs.YtjakigncloleaaaDoor
