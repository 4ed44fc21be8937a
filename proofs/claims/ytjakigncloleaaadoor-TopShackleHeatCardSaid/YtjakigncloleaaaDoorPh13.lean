/- Contracts: Mul, Bar, Turn of the reference; the law's helpers thimbleNumber, thimblePair, thimbleWires. -/
import Derived.Test.YtjakigncloleaaaDoorPh12
import Derived.Test.YtjakigncloleaaaDoorPh5
namespace Go.Proofs.YtjakigncloleaaaDoor
open Go.RowKit Go.Sort
attribute [local go_sem] cell_if frozen_if grow_cell
def mA (a b c d : Int) : Int := wrap64 (wrap64 (a * c) - wrap64 (b * d))
def mB (a b c d : Int) : Int := wrap64 (wrap64 (wrap64 (a * d) + wrap64 (b * c)) - wrap64 (b * d))
theorem Mul_any (a b c d : Int) (w : World) :
    Calls Tryd.prog 6 #[.agg #[.int .i64 a, .int .i64 b], .agg #[.int .i64 c, .int .i64 d]] w fun e w' => e = .returned (.agg #[.int .i64 (mA a b c d), .int .i64 (mB a b c d)]) ∧ Below w.heap.size w w' := by
  go_enter Tryd.func6, Tryd.ntmps6
  go_wp2
  exact bodyPost_ret (by simp [results, Tryd.results6, go_sem, *]; try ((repeat' apply And.intro) <;> rfl)) rfl ⟨rfl, (by repeat (first | (with_reducible exact Below.refl _ _) | (with_reducible assumption) | ((with_reducible refine Below.alloc ?_ ?_ _); rotate_left; (· first | (simp; done) | (simp; omega) | omega)) | ((with_reducible refine Below.setCell ?_ ?_ _); rotate_left; (· first | (simp; done) | (simp; omega) | omega)) | (with_reducible apply Below.drew) | ((with_reducible apply below_step); (· with_reducible assumption); rotate_left; (· first | (simp; done) | (simp; omega) | omega))))⟩
theorem Bar_any (a b : Int) (w : World) :
    Calls Tryd.prog 7 #[.agg #[.int .i64 a, .int .i64 b]] w fun e w' => e = .returned (.agg #[.int .i64 (wrap64 (a - b)), .int .i64 (wrap64 (-b))]) ∧ Below w.heap.size w w' := by
  go_enter Tryd.func7, Tryd.ntmps7
  go_wp2
  exact bodyPost_ret (by simp [results, Tryd.results7, go_sem, *]; try ((repeat' apply And.intro) <;> rfl)) rfl ⟨rfl, (by repeat (first | (with_reducible exact Below.refl _ _) | (with_reducible assumption) | ((with_reducible refine Below.alloc ?_ ?_ _); rotate_left; (· first | (simp; done) | (simp; omega) | omega)) | ((with_reducible refine Below.setCell ?_ ?_ _); rotate_left; (· first | (simp; done) | (simp; omega) | omega)) | (with_reducible apply Below.drew) | ((with_reducible apply below_step); (· with_reducible assumption); rotate_left; (· first | (simp; done) | (simp; omega) | omega))))⟩
def tm : Nat → Int × Int → Int × Int
  | 0, p => p
  | n + 1, p => (mA (tm n p).1 (tm n p).2 1 1, mB (tm n p).1 (tm n p).2 1 1)
set_option maxHeartbeats 400000 in
theorem Turn_any (a b : Int) (w : World) :
    Calls Tryd.prog 13 #[.agg #[.int .i64 a, .int .i64 b], .int .i64 (-2)] w fun e w' => e = .returned (.agg #[.int .i64 (tm 4 (a, b)).1, .int .i64 (tm 4 (a, b)).2]) ∧ Below w.heap.size w w' := by
  go_enter Tryd.func13, Tryd.ntmps13
  go_wp2
  go_loopw [6] (fun i wr => ∃ k : Nat, k ≤ 4 ∧ i = .int .i64 k ∧ Blk wr w.heap.size 25 #[.int .i64 (tm k (a, b)).1, .int .i64 (tm k (a, b)).2] ∧ Blk wr (w.heap.size + 1) 25 #[.int .i64 0, .int .i64 0] ∧ Below w.heap.size w wr) (fun i _ => 4 - (intOf i).toNat)
  case atStart => exact ⟨0, by omega, rfl, (by show Blk _ _ _ #[.int .i64 a, .int .i64 b]; exact (by repeat (first | (with_reducible assumption) | ((with_reducible apply Blk.new_at); (first | (simp; done) | (simp; omega))) | (with_reducible apply Blk.drew) | (with_reducible refine Blk.alloc ?_ _) | (with_reducible apply blk_two) | ((with_reducible refine blk_far ?_ ?_ _); (· first | (simp; done) | (simp; omega) | omega)) | ((with_reducible apply blk_kept); (· with_reducible assumption))))), (by repeat (first | (with_reducible assumption) | ((with_reducible apply Blk.new_at); (first | (simp; done) | (simp; omega))) | (with_reducible apply Blk.drew) | (with_reducible refine Blk.alloc ?_ _) | (with_reducible apply blk_two) | ((with_reducible refine blk_far ?_ ?_ _); (· first | (simp; done) | (simp; omega) | omega)) | ((with_reducible apply blk_kept); (· with_reducible assumption)))), (by repeat (first | (with_reducible exact Below.refl _ _) | (with_reducible assumption) | ((with_reducible refine Below.alloc ?_ ?_ _); rotate_left; (· first | (simp; done) | (simp; omega) | omega)) | ((with_reducible refine Below.setCell ?_ ?_ _); rotate_left; (· first | (simp; done) | (simp; omega) | omega)) | (with_reducible apply Below.drew) | ((with_reducible apply below_step); (· with_reducible assumption); rotate_left; (· first | (simp; done) | (simp; omega) | omega))))⟩
  case round =>
    obtain ⟨k, hk, rfl, B1, B2, hb⟩ := hrel
    have l2 := B2.lt
    have hs := hb.size
    have HB1 := Lib.hid B1
    have HB2 := Lib.hid B2
    have hE : Hid (tm (k + 1) (a, b) = (mA (tm k (a, b)).1 (tm k (a, b)).2 1 1, mB (tm k (a, b)).1 (tm k (a, b)).2 1 1)) := rfl
    generalize hp : tm k (a, b) = p at *
    have HP := Lib.hid hp
    clear hp
    obtain ⟨p1, p2⟩ := p
    obtain ⟨c0, c1, f0, f1⟩ := B1.two
    obtain ⟨r0, r1, g0, g1⟩ := B2.two
    clear B1 B2
    by_cases hlt : k < 4
    · clear HP
      go_wp2_with (go_at_call 6; refine (Mul_any _ _ _ _ _).mono ?_; rintro e w1 ⟨rfl, hb1⟩; obtain ⟨hc1, hf1⟩ := ifs_of hb1; have hs1 := hb1.size; (try simp at hs1))
      go_roundw
      case rel => exact ⟨k + 1, by omega, by go_num, by rw [hE.out]; exact ((HB1.out.kept hb1).set_ 0 _).set_ 1 _, ((HB2.out.kept hb1).far (by first | (simp; done) | (simp; omega)) _).far (by first | (simp; done) | (simp; omega)) _, (by repeat (first | (with_reducible exact Below.refl _ _) | (with_reducible assumption) | ((with_reducible refine Below.alloc ?_ ?_ _); rotate_left; (· first | (simp; done) | (simp; omega) | omega)) | ((with_reducible refine Below.setCell ?_ ?_ _); rotate_left; (· first | (simp; done) | (simp; omega) | omega)) | (with_reducible apply Below.drew) | ((with_reducible apply below_step); (· with_reducible assumption); rotate_left; (· first | (simp; done) | (simp; omega) | omega))))⟩
      case measure => simp [intOf]; omega
    · obtain rfl : k = 4 := by omega
      go_wp2
      exact bodyPost_ret (v := .agg #[.int .i64 p1, .int .i64 p2]) (by simp [results, Tryd.results13, go_sem, *]) rfl ⟨by rw [HP.out], (by repeat (first | (with_reducible exact Below.refl _ _) | (with_reducible assumption) | ((with_reducible refine Below.alloc ?_ ?_ _); rotate_left; (· first | (simp; done) | (simp; omega) | omega)) | ((with_reducible refine Below.setCell ?_ ?_ _); rotate_left; (· first | (simp; done) | (simp; omega) | omega)) | (with_reducible apply Below.drew) | ((with_reducible apply below_step); (· with_reducible assumption); rotate_left; (· first | (simp; done) | (simp; omega) | omega))))⟩
theorem number_any (a b : Int) (w : World) (ha : -128 ≤ a ∧ a ≤ 127) (hb : -128 ≤ b ∧ b ≤ 127) :
    Calls Tryd.prog 5 #[.agg #[.int .i8 a, .int .i8 b]] w fun e w' => e = .returned (.agg #[.int .i64 (a.tmod 101), .int .i64 (b.tmod 101)]) ∧ Below w.heap.size w w' := by
  obtain ⟨a1, a2⟩ := ha
  obtain ⟨b1, b2⟩ := hb
  go_enter Tryd.func5, Tryd.ntmps5
  go_wp2
  exact bodyPost_ret (by simp [results, Tryd.results5, go_sem, *]; try ((repeat' apply And.intro) <;> rfl)) rfl ⟨rfl, (by repeat (first | (with_reducible exact Below.refl _ _) | (with_reducible assumption) | ((with_reducible refine Below.alloc ?_ ?_ _); rotate_left; (· first | (simp; done) | (simp; omega) | omega)) | ((with_reducible refine Below.setCell ?_ ?_ _); rotate_left; (· first | (simp; done) | (simp; omega) | omega)) | (with_reducible apply Below.drew) | ((with_reducible apply below_step); (· with_reducible assumption); rotate_left; (· first | (simp; done) | (simp; omega) | omega))))⟩
theorem pair_any (w : World) :
    Calls Tryd.prog 37 #[.agg #[.int .i64 2, .int .i64 0, .int .i64 (-2), .int .i64 (-2), .int .i64 0, .int .i64 2], .int .i64 3] w fun e w' => e = .returned (.agg #[.int .i64 5, .int .i64 6, .int .i64 2, .int .i64 0, .int .i64 (-2), .int .i64 (-2), .int .i64 5, .int .i64 7, .int .i64 0, .int .i64 2, .int .i64 0, .int .i64 0]) ∧ Below w.heap.size w w' := by
  go_enter Tryd.func37, Tryd.ntmps37
  go_wp2
  exact bodyPost_ret (by simp [results, Tryd.results37, go_sem, *]; try ((repeat' apply And.intro) <;> rfl)) rfl ⟨rfl, (by repeat (first | (with_reducible exact Below.refl _ _) | (with_reducible assumption) | ((with_reducible refine Below.alloc ?_ ?_ _); rotate_left; (· first | (simp; done) | (simp; omega) | omega)) | ((with_reducible refine Below.setCell ?_ ?_ _); rotate_left; (· first | (simp; done) | (simp; omega) | omega)) | (with_reducible apply Below.drew) | ((with_reducible apply below_step); (· with_reducible assumption); rotate_left; (· first | (simp; done) | (simp; omega) | omega))))⟩
end Go.Proofs.YtjakigncloleaaaDoor
