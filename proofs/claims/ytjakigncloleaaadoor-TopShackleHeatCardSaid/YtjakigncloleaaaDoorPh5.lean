/- Contracts of phasor: CheckPhases, Components, Balanced. -/
import Derived.Test.YtjakigncloleaaaDoorPh4
namespace Go.Proofs.YtjakigncloleaaaDoor
open Go.RowKit Go.Sort
attribute [local go_sem] cell_if frozen_if grow_cell
def Small3 (a a' b b' c c' : Int) : Prop := inB 65536 a a' = true ∧ inB 65536 b b' = true ∧ inB 65536 c c' = true
theorem checkPhases_any (a a' b b' c c' : Int) (w : World) (h : Small3 a a' b b' c c') :
    Calls Tryd.prog 30 #[.agg #[.int .i64 a, .int .i64 a', .int .i64 b, .int .i64 b', .int .i64 c, .int .i64 c']] w fun e w' => e = .returned (.int .i64 0) ∧ Below w.heap.size w w' := by
  have hk : Hid (ckA 65536 [(a, a'), (b, b'), (c, c')] = 0) := ckA_yes (by intro x hx; obtain ⟨h1, h2, h3⟩ := h; simp at hx; rcases hx with rfl | rfl | rfl <;> assumption)
  clear h
  go_enter Tryd.func30, Tryd.ntmps30
  go_wp2_with (go_at_call 35; refine (allWithin_any 65536 (w.heap.size + 1) _ 3 3 [(a, a'), (b, b'), (c, c')] _ (by omega) (by omega) (by unfold maxLen; omega) (by simp) (Reads.blk (Blk.new _ _ _) rfl)).mono ?_; rw [hk.out]; rintro e w1 ⟨rfl, hb1⟩)
  go_ret
  exact ⟨rfl, (by repeat (first | (with_reducible exact Below.refl _ _) | (with_reducible assumption) | ((with_reducible refine Below.alloc ?_ ?_ _); rotate_left; (· first | (simp; done) | (simp; omega) | omega)) | ((with_reducible refine Below.setCell ?_ ?_ _); rotate_left; (· first | (simp; done) | (simp; omega) | omega)) | (with_reducible apply Below.drew) | ((with_reducible apply below_step); (· with_reducible assumption); rotate_left; (· first | (simp; done) | (simp; omega) | omega))))⟩

set_option maxHeartbeats 400000 in
theorem Components_any (a a' b b' c c' : Int) (w : World) (hw : Roots w) (h : Small3 a a' b b' c c') :
    Calls Tryd.prog 29 #[.agg #[.int .i64 a, .int .i64 a', .int .i64 b, .int .i64 b', .int .i64 c, .int .i64 c']] w fun e w' => e = .returned (.tuple #[.agg #[.int .i64 (ePA (ePA a b) c), .int .i64 (ePA (ePA a' b') c'),
      .int .i64 (ePA (ePA a (eMA 0 1 b b')) (eMA (-1) (-1) c c')), .int .i64 (ePA (ePA a' (eMB 0 1 b b')) (eMB (-1) (-1) c c')), .int .i64 (ePA (ePA a (eMA (-1) (-1) b b')) (eMA 0 1 c c')), .int .i64 (ePA (ePA a' (eMB (-1) (-1) b b')) (eMB 0 1 c c'))], .int .i64 0]) ∧ Below w.heap.size w w' := by
  go_enter Tryd.func29, Tryd.ntmps29
  go_wp2_with (first | (go_at_call 30; refine (checkPhases_any _ _ _ _ _ _ _ h).mono ?_; rintro e w1 ⟨rfl, hb1⟩; obtain ⟨hc1, hf1⟩ := ifs_of hb1; have hs1 := hb1.size; (try simp at hs1)) | (go_at_call 58; refine (components_any _ _ _ _ _ _ _ (hw.below (by repeat (first | (with_reducible exact Below.refl _ _) | (with_reducible assumption) | ((with_reducible refine Below.alloc ?_ ?_ _); rotate_left; (· first | (simp; done) | (simp; omega) | omega)) | ((with_reducible refine Below.setCell ?_ ?_ _); rotate_left; (· first | (simp; done) | (simp; omega) | omega)) | (with_reducible apply Below.drew) | ((with_reducible apply below_step); (· with_reducible assumption); rotate_left; (· first | (simp; done) | (simp; omega) | omega)))))).mono ?_; rintro e w2 ⟨rfl, hb2⟩; obtain ⟨hc2, hf2⟩ := ifs_of hb2; have hs2 := hb2.size; (try simp at hs2)))
  exact bodyPost_ret (by simp [results, Tryd.results29, go_sem, *, ↓IntWalk.iteOmega]; try ((repeat' apply And.intro) <;> rfl)) rfl ⟨rfl, (by repeat (first | (with_reducible exact Below.refl _ _) | (with_reducible assumption) | ((with_reducible refine Below.alloc ?_ ?_ _); rotate_left; (· first | (simp; done) | (simp; omega) | omega)) | ((with_reducible refine Below.setCell ?_ ?_ _); rotate_left; (· first | (simp; done) | (simp; omega) | omega)) | (with_reducible apply Below.drew) | ((with_reducible apply below_step); (· with_reducible assumption); rotate_left; (· first | (simp; done) | (simp; omega) | omega))))⟩

set_option maxRecDepth 100000 in
set_option maxHeartbeats 400000 in
theorem Balanced_yes (a a' b b' c c' : Int) (w : World) (hw : Roots w) (h : Small3 a a' b b' c c')
    (h0 : ePA (ePA a b) c = 0) (h1 : ePA (ePA a' b') c' = 0) (h2 : ePA (ePA a (eMA (-1) (-1) b b')) (eMA 0 1 c c') = 0) (h3 : ePA (ePA a' (eMB (-1) (-1) b b')) (eMB 0 1 c c') = 0) :
    Calls Tryd.prog 9 #[.agg #[.int .i64 a, .int .i64 a', .int .i64 b, .int .i64 b', .int .i64 c, .int .i64 c']] w fun e w' => e = .returned (.tuple #[.bool true, .int .i64 0]) ∧ Below w.heap.size w w' := by
  have H0 := Lib.hid h0
  have H1 := Lib.hid h1
  have H2 := Lib.hid h2
  have H3 := Lib.hid h3
  clear h0 h1 h2 h3
  have e30 : ∀ (d : Nat) (xs ys : Array Value) (w : World), (Op.equalIn (d + 1) 30 (.agg xs) (.agg ys)).run Tryd.prog w = (eqElems d 25 2 xs ys [0, 1, 2]).run Tryd.prog w := fun d xs ys w => run_equalIn_array (P := Tryd.prog) w d _ _ 3 2 xs ys Tryd.underlying30 (by kernel_rfl)
  go_enter Tryd.func9, Tryd.ntmps9
  go_wp2_with (go_at_call 29; refine (Components_any _ _ _ _ _ _ _ (hw.below (by repeat (first | (with_reducible exact Below.refl _ _) | (with_reducible assumption) | ((with_reducible refine Below.alloc ?_ ?_ _); rotate_left; (· first | (simp; done) | (simp; omega) | omega)) | ((with_reducible refine Below.setCell ?_ ?_ _); rotate_left; (· first | (simp; done) | (simp; omega) | omega)) | (with_reducible apply Below.drew) | ((with_reducible apply below_step); (· with_reducible assumption); rotate_left; (· first | (simp; done) | (simp; omega) | omega))))) h).mono ?_; rw [H0.out, H1.out, H2.out, H3.out]; generalize ePA (ePA a (eMA 0 1 b b')) (eMA (-1) (-1) c c') = p; generalize ePA (ePA a' (eMB 0 1 b b')) (eMB (-1) (-1) c c') = p'; rintro e w1 ⟨rfl, hb1⟩; obtain ⟨hc1, hf1⟩ := ifs_of hb1; have hs1 := hb1.size; (try simp at hs1))
  go_ret2
  exact ⟨by first | rfl | (simp; done), (by repeat (first | (with_reducible exact Below.refl _ _) | (with_reducible assumption) | ((with_reducible refine Below.alloc ?_ ?_ _); rotate_left; (· first | (simp; done) | (simp; omega) | omega)) | ((with_reducible refine Below.setCell ?_ ?_ _); rotate_left; (· first | (simp; done) | (simp; omega) | omega)) | (with_reducible apply Below.drew) | ((with_reducible apply below_step); (· with_reducible assumption); rotate_left; (· first | (simp; done) | (simp; omega) | omega))))⟩
end Go.Proofs.YtjakigncloleaaaDoor
