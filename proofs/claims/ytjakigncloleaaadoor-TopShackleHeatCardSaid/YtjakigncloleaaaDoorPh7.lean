/- Contracts of phasor: spectrum, Spectrum. -/
import Derived.Test.YtjakigncloleaaaDoorPh2
import Derived.Test.YtjakigncloleaaaDoorPh3
namespace Go.Proofs.YtjakigncloleaaaDoor
open Go.RowKit Go.Sort
attribute [local go_sem] cell_if frozen_if grow_cell
/-- One element: the sum over m of x m turned by -k m. -/
def spS (x : Nat → Int × Int) (k : Nat) : Nat → Int × Int
  | 0 => (0, 0)
  | m + 1 => (ePA (spS x k m).1 (tr (six (wrap64 (-(k : Int) * m))) (x m)).1, ePA (spS x k m).2 (tr (six (wrap64 (-(k : Int) * m))) (x m)).2)
def spV (x : Nat → Int × Int) (j k : Nat) : Int × Int := if k < j then spS x k 6 else (0, 0)
theorem tw_at {w : World} {g t : Nat} {U : Nat → Int × Int} (h : Blk w g t #[.int .i64 (U 0).1, .int .i64 (U 0).2, .int .i64 (U 1).1, .int .i64 (U 1).2, .int .i64 (U 2).1, .int .i64 (U 2).2, .int .i64 (U 3).1, .int .i64 (U 3).2, .int .i64 (U 4).1, .int .i64 (U 4).2, .int .i64 (U 5).1, .int .i64 (U 5).2]) {k : Nat} (hk : k < 6) : w.cell? ⟨g, k * 2, none⟩ = some (.int .i64 (U k).1) ∧ w.cell? ⟨g, k * 2 + 1, none⟩ = some (.int .i64 (U k).2) := by
  rw [h.cell, h.cell]
  match k, hk with
  | 0, _ => exact ⟨rfl, rfl⟩
  | 1, _ => exact ⟨rfl, rfl⟩
  | 2, _ => exact ⟨rfl, rfl⟩
  | 3, _ => exact ⟨rfl, rfl⟩
  | 4, _ => exact ⟨rfl, rfl⟩
  | 5, _ => exact ⟨rfl, rfl⟩
theorem tw_index (U : Nat → Int × Int) {k : Nat} (hk : k < 6) (w : World) : (Instr.index 27 (.agg #[.int .i64 (U 0).1, .int .i64 (U 0).2, .int .i64 (U 1).1, .int .i64 (U 1).2, .int .i64 (U 2).1, .int .i64 (U 2).2, .int .i64 (U 3).1, .int .i64 (U 3).2, .int .i64 (U 4).1, .int .i64 (U 4).2, .int .i64 (U 5).1, .int .i64 (U 5).2]) (.int .i64 k)).run Tryd.prog w = .ok (.agg #[.int .i64 (U k).1, .int .i64 (U k).2]) w := by
  rcases (show k = 0 ∨ k = 1 ∨ k = 2 ∨ k = 3 ∨ k = 4 ∨ k = 5 from by omega) with rfl | rfl | rfl | rfl | rfl | rfl
  · exact (show (Instr.index 27 (.agg #[.int .i64 (U 0).1, .int .i64 (U 0).2, .int .i64 (U 1).1, .int .i64 (U 1).2, .int .i64 (U 2).1, .int .i64 (U 2).2, .int .i64 (U 3).1, .int .i64 (U 3).2, .int .i64 (U 4).1, .int .i64 (U 4).2, .int .i64 (U 5).1, .int .i64 (U 5).2]) (.int .i64 ((0 : Nat) : Int))).run Tryd.prog w = .ok (.agg #[.int .i64 (U 0).1, .int .i64 (U 0).2]) w by kernel_rfl)
  · exact (show (Instr.index 27 (.agg #[.int .i64 (U 0).1, .int .i64 (U 0).2, .int .i64 (U 1).1, .int .i64 (U 1).2, .int .i64 (U 2).1, .int .i64 (U 2).2, .int .i64 (U 3).1, .int .i64 (U 3).2, .int .i64 (U 4).1, .int .i64 (U 4).2, .int .i64 (U 5).1, .int .i64 (U 5).2]) (.int .i64 ((1 : Nat) : Int))).run Tryd.prog w = .ok (.agg #[.int .i64 (U 1).1, .int .i64 (U 1).2]) w by kernel_rfl)
  · exact (show (Instr.index 27 (.agg #[.int .i64 (U 0).1, .int .i64 (U 0).2, .int .i64 (U 1).1, .int .i64 (U 1).2, .int .i64 (U 2).1, .int .i64 (U 2).2, .int .i64 (U 3).1, .int .i64 (U 3).2, .int .i64 (U 4).1, .int .i64 (U 4).2, .int .i64 (U 5).1, .int .i64 (U 5).2]) (.int .i64 ((2 : Nat) : Int))).run Tryd.prog w = .ok (.agg #[.int .i64 (U 2).1, .int .i64 (U 2).2]) w by kernel_rfl)
  · exact (show (Instr.index 27 (.agg #[.int .i64 (U 0).1, .int .i64 (U 0).2, .int .i64 (U 1).1, .int .i64 (U 1).2, .int .i64 (U 2).1, .int .i64 (U 2).2, .int .i64 (U 3).1, .int .i64 (U 3).2, .int .i64 (U 4).1, .int .i64 (U 4).2, .int .i64 (U 5).1, .int .i64 (U 5).2]) (.int .i64 ((3 : Nat) : Int))).run Tryd.prog w = .ok (.agg #[.int .i64 (U 3).1, .int .i64 (U 3).2]) w by kernel_rfl)
  · exact (show (Instr.index 27 (.agg #[.int .i64 (U 0).1, .int .i64 (U 0).2, .int .i64 (U 1).1, .int .i64 (U 1).2, .int .i64 (U 2).1, .int .i64 (U 2).2, .int .i64 (U 3).1, .int .i64 (U 3).2, .int .i64 (U 4).1, .int .i64 (U 4).2, .int .i64 (U 5).1, .int .i64 (U 5).2]) (.int .i64 ((4 : Nat) : Int))).run Tryd.prog w = .ok (.agg #[.int .i64 (U 4).1, .int .i64 (U 4).2]) w by kernel_rfl)
  · exact (show (Instr.index 27 (.agg #[.int .i64 (U 0).1, .int .i64 (U 0).2, .int .i64 (U 1).1, .int .i64 (U 1).2, .int .i64 (U 2).1, .int .i64 (U 2).2, .int .i64 (U 3).1, .int .i64 (U 3).2, .int .i64 (U 4).1, .int .i64 (U 4).2, .int .i64 (U 5).1, .int .i64 (U 5).2]) (.int .i64 ((5 : Nat) : Int))).run Tryd.prog w = .ok (.agg #[.int .i64 (U 5).1, .int .i64 (U 5).2]) w by kernel_rfl)
theorem tw_set {w : World} {g t : Nat} {U V : Nat → Int × Int} {k : Nat} (hk : k < 6) (h : Blk w g t #[.int .i64 (U 0).1, .int .i64 (U 0).2, .int .i64 (U 1).1, .int .i64 (U 1).2, .int .i64 (U 2).1, .int .i64 (U 2).2, .int .i64 (U 3).1, .int .i64 (U 3).2, .int .i64 (U 4).1, .int .i64 (U 4).2, .int .i64 (U 5).1, .int .i64 (U 5).2]) (hV : ∀ j, j < 6 → V j = if j = k then V k else U j) :
    Blk ((w.setCell ⟨g, k * 2, none⟩ (.int .i64 (V k).1)).setCell ⟨g, k * 2 + 1, none⟩ (.int .i64 (V k).2)) g t #[.int .i64 (V 0).1, .int .i64 (V 0).2, .int .i64 (V 1).1, .int .i64 (V 1).2, .int .i64 (V 2).1, .int .i64 (V 2).2, .int .i64 (V 3).1, .int .i64 (V 3).2, .int .i64 (V 4).1, .int .i64 (V 4).2, .int .i64 (V 5).1, .int .i64 (V 5).2] := by
  have h2 := (h.set_ (k * 2) (.int .i64 (V k).1)).set_ (k * 2 + 1) (.int .i64 (V k).2)
  have e0 := hV 0 (by omega)
  have e1 := hV 1 (by omega)
  have e2 := hV 2 (by omega)
  have e3 := hV 3 (by omega)
  have e4 := hV 4 (by omega)
  have e5 := hV 5 (by omega)
  clear hV h
  match k, hk with
  | 0, _ => rw [e1, e2, e3, e4, e5]; exact h2
  | 1, _ => rw [e0, e2, e3, e4, e5]; exact h2
  | 2, _ => rw [e0, e1, e3, e4, e5]; exact h2
  | 3, _ => rw [e0, e1, e2, e4, e5]; exact h2
  | 4, _ => rw [e0, e1, e2, e3, e5]; exact h2
  | 5, _ => rw [e0, e1, e2, e3, e4]; exact h2
theorem spV_succ (x : Nat → Int × Int) (k : Nat) : ∀ j, j < 6 → spV x (k + 1) j = if j = k then spV x (k + 1) k else spV x k j := by
  intro j hj
  unfold spV
  by_cases h : j = k
  · rw [if_pos h, h]
  · rw [if_neg h]
    by_cases h2 : j < k
    · rw [if_pos h2, if_pos (by omega)]
    · rw [if_neg h2, if_neg (by omega)]

set_option maxHeartbeats 1000000 in
theorem spectrum_any (x : Nat → Int × Int) (w : World) :
    Calls Tryd.prog 36 #[.agg #[.int .i64 (x 0).1, .int .i64 (x 0).2, .int .i64 (x 1).1, .int .i64 (x 1).2, .int .i64 (x 2).1, .int .i64 (x 2).2, .int .i64 (x 3).1, .int .i64 (x 3).2, .int .i64 (x 4).1, .int .i64 (x 4).2, .int .i64 (x 5).1, .int .i64 (x 5).2], .int .i64 (-1)] w fun e w' => e = .returned (.agg #[.int .i64 (spV x 6 0).1, .int .i64 (spV x 6 0).2, .int .i64 (spV x 6 1).1, .int .i64 (spV x 6 1).2, .int .i64 (spV x 6 2).1, .int .i64 (spV x 6 2).2, .int .i64 (spV x 6 3).1, .int .i64 (spV x 6 3).2, .int .i64 (spV x 6 4).1, .int .i64 (spV x 6 4).2, .int .i64 (spV x 6 5).1, .int .i64 (spV x 6 5).2]) ∧ Below w.heap.size w w' := by
  have hix := fun (k : Nat) (hk : k < 6) (w : World) => tw_index x hk w
  go_enter Tryd.func36, Tryd.ntmps36
  go_wp2
  go_loopw [10] (fun i wr => ∃ k : Nat, k ≤ 6 ∧ i = .int .i64 k ∧ Blk wr w.heap.size 27 #[.int .i64 (x 0).1, .int .i64 (x 0).2, .int .i64 (x 1).1, .int .i64 (x 1).2, .int .i64 (x 2).1, .int .i64 (x 2).2, .int .i64 (x 3).1, .int .i64 (x 3).2, .int .i64 (x 4).1, .int .i64 (x 4).2, .int .i64 (x 5).1, .int .i64 (x 5).2] ∧ Blk wr (w.heap.size + 1) 27 #[.int .i64 (spV x 0 0).1, .int .i64 (spV x 0 0).2, .int .i64 (spV x 0 1).1, .int .i64 (spV x 0 1).2, .int .i64 (spV x 0 2).1, .int .i64 (spV x 0 2).2, .int .i64 (spV x 0 3).1, .int .i64 (spV x 0 3).2, .int .i64 (spV x 0 4).1, .int .i64 (spV x 0 4).2, .int .i64 (spV x 0 5).1, .int .i64 (spV x 0 5).2] ∧ Blk wr (w.heap.size + 1 + 1) 27 #[.int .i64 (spV x k 0).1, .int .i64 (spV x k 0).2, .int .i64 (spV x k 1).1, .int .i64 (spV x k 1).2, .int .i64 (spV x k 2).1, .int .i64 (spV x k 2).2, .int .i64 (spV x k 3).1, .int .i64 (spV x k 3).2, .int .i64 (spV x k 4).1, .int .i64 (spV x k 4).2, .int .i64 (spV x k 5).1, .int .i64 (spV x k 5).2] ∧ Below w.heap.size w wr) (fun i _ => 6 - (intOf i).toNat)
  case atStart => exact ⟨0, by omega, rfl, (by repeat (first | (with_reducible assumption) | ((with_reducible apply Blk.new_at); (first | (simp; done) | (simp; omega))) | (with_reducible apply Blk.drew) | (with_reducible refine Blk.alloc ?_ _) | (with_reducible apply blk_two) | ((with_reducible refine blk_far ?_ ?_ _); (· first | (simp; done) | (simp; omega) | omega)) | ((with_reducible apply blk_kept); (· with_reducible assumption)))), (by show Blk _ _ _ #[.int .i64 0, .int .i64 0, .int .i64 0, .int .i64 0, .int .i64 0, .int .i64 0, .int .i64 0, .int .i64 0, .int .i64 0, .int .i64 0, .int .i64 0, .int .i64 0]; exact (by repeat (first | (with_reducible assumption) | ((with_reducible apply Blk.new_at); (first | (simp; done) | (simp; omega))) | (with_reducible apply Blk.drew) | (with_reducible refine Blk.alloc ?_ _) | (with_reducible apply blk_two) | ((with_reducible refine blk_far ?_ ?_ _); (· first | (simp; done) | (simp; omega) | omega)) | ((with_reducible apply blk_kept); (· with_reducible assumption))))), (by show Blk _ _ _ #[.int .i64 0, .int .i64 0, .int .i64 0, .int .i64 0, .int .i64 0, .int .i64 0, .int .i64 0, .int .i64 0, .int .i64 0, .int .i64 0, .int .i64 0, .int .i64 0]; exact (by repeat (first | (with_reducible assumption) | ((with_reducible apply Blk.new_at); (first | (simp; done) | (simp; omega))) | (with_reducible apply Blk.drew) | (with_reducible refine Blk.alloc ?_ _) | (with_reducible apply blk_two) | ((with_reducible refine blk_far ?_ ?_ _); (· first | (simp; done) | (simp; omega) | omega)) | ((with_reducible apply blk_kept); (· with_reducible assumption))))), (by repeat (first | (with_reducible exact Below.refl _ _) | (with_reducible assumption) | ((with_reducible refine Below.alloc ?_ ?_ _); rotate_left; (· first | (simp; done) | (simp; omega) | omega)) | ((with_reducible refine Below.setCell ?_ ?_ _); rotate_left; (· first | (simp; done) | (simp; omega) | omega)) | (with_reducible apply Below.drew) | ((with_reducible apply below_step); (· with_reducible assumption); rotate_left; (· first | (simp; done) | (simp; omega) | omega))))⟩
  case round =>
    obtain ⟨k, hk, rfl, B1, B2, B3, hb⟩ := hrel
    obtain ⟨wo, rfl⟩ : ∃ wo : World, wo = wr := ⟨_, rfl⟩
    have l1 := B1.lt
    have l2 := B3.lt
    have hs := hb.size
    have HB1 := Lib.hid B1
    have HB2 := Lib.hid B2
    have HB3 := Lib.hid B3
    clear B2 B3
    by_cases hlt : k < 6
    · have c1 := B1.cell
      clear B1
      have hd : decide ((k : Int) < 6) = true := by simp; omega
      go_wp2
      clear c1
      go_loopw [14] (fun i wr => ∃ m : Nat, m ≤ 6 ∧ i = .int .i64 m ∧ Blk wr w.heap.size 27 #[.int .i64 (x 0).1, .int .i64 (x 0).2, .int .i64 (x 1).1, .int .i64 (x 1).2, .int .i64 (x 2).1, .int .i64 (x 2).2, .int .i64 (x 3).1, .int .i64 (x 3).2, .int .i64 (x 4).1, .int .i64 (x 4).2, .int .i64 (x 5).1, .int .i64 (x 5).2] ∧ Blk wr (w.heap.size + 1) 27 #[.int .i64 (spV x 0 0).1, .int .i64 (spV x 0 0).2, .int .i64 (spV x 0 1).1, .int .i64 (spV x 0 1).2, .int .i64 (spV x 0 2).1, .int .i64 (spV x 0 2).2, .int .i64 (spV x 0 3).1, .int .i64 (spV x 0 3).2, .int .i64 (spV x 0 4).1, .int .i64 (spV x 0 4).2, .int .i64 (spV x 0 5).1, .int .i64 (spV x 0 5).2] ∧ Blk wr (w.heap.size + 1 + 1) 27 #[.int .i64 (spV x k 0).1, .int .i64 (spV x k 0).2, .int .i64 (spV x k 1).1, .int .i64 (spV x k 1).2, .int .i64 (spV x k 2).1, .int .i64 (spV x k 2).2, .int .i64 (spV x k 3).1, .int .i64 (spV x k 3).2, .int .i64 (spV x k 4).1, .int .i64 (spV x k 4).2, .int .i64 (spV x k 5).1, .int .i64 (spV x k 5).2] ∧ Blk wr wo.heap.size 77 #[.int .i64 (spS x k m).1, .int .i64 (spS x k m).2] ∧ Below w.heap.size w wr) (fun i _ => 6 - (intOf i).toNat)
      case atStart => exact ⟨0, by omega, rfl, HB1.out.alloc _, HB2.out.alloc _, HB3.out.alloc _, Blk.new_at _ _ (by simp), (by repeat (first | (with_reducible exact Below.refl _ _) | (with_reducible assumption) | ((with_reducible refine Below.alloc ?_ ?_ _); rotate_left; (· first | (simp; done) | (simp; omega) | omega)) | ((with_reducible refine Below.setCell ?_ ?_ _); rotate_left; (· first | (simp; done) | (simp; omega) | omega)) | (with_reducible apply Below.drew) | ((with_reducible apply below_step); (· with_reducible assumption); rotate_left; (· first | (simp; done) | (simp; omega) | omega))))⟩
      case round =>
        obtain ⟨m, hm, rfl, C1, C2, C3, C4, hb'⟩ := hrel
        clear HB1 HB2 HB3
        have l4 := C4.lt
        have hs' := hb'.size
        have HC1 := Lib.hid C1
        have HC2 := Lib.hid C2
        have HC3 := Lib.hid C3
        have HC4 := Lib.hid C4
        have hS : Hid (spS x k (m + 1) = (ePA (spS x k m).1 (tr (six (wrap64 (-(k : Int) * m))) (x m)).1, ePA (spS x k m).2 (tr (six (wrap64 (-(k : Int) * m))) (x m)).2)) := rfl
        generalize hp : spS x k m = p at *
        have HP := Lib.hid hp
        clear hp
        obtain ⟨p1, p2⟩ := p
        obtain ⟨s0, s1, -, -⟩ := C4.two
        clear C1 C2 C4
        by_cases hlm : m < 6
        · have hixm := hix m hlm
          clear hix C3 HP
          generalize hxm : x m = u at *
          clear hxm
          obtain ⟨u1, u2⟩ := u
          go_wp2_with fail
          (refine wp_region_head_below 9 (by kernel_rfl) (by kernel_rfl) ?_; simp only [List.take_succ_cons, List.take_zero, List.drop_succ_cons, List.drop_zero]; (repeat (go_big_quiet_step (first | exact Calls.regrown_of (plus_any _ _ _ _ _) | exact Calls.regrown_of (turned_any _ _ _ _)))); refine wpQuiet_nil ?_)
          intro w2 hb2
          have D4 := (HC4.out.alloc (.cells #[.int .i64 u1, .int .i64 u2] 25)).kept hb2
          obtain ⟨t0, t1, f0, f1⟩ := D4.two
          have HD4 := Lib.hid D4
          clear s0 s1 D4
          have ls := hb2.size
          simp at ls
          go_wp2
          go_roundw
          case rel =>
            refine ⟨m + 1, by omega, by go_num, ?_, ?_, ?_, ?_, (by repeat (first | (with_reducible exact Below.refl _ _) | (with_reducible assumption) | ((with_reducible refine Below.alloc ?_ ?_ _); rotate_left; (· first | (simp; done) | (simp; omega) | omega)) | ((with_reducible refine Below.setCell ?_ ?_ _); rotate_left; (· first | (simp; done) | (simp; omega) | omega)) | (with_reducible apply Below.drew) | ((with_reducible apply below_step); (· with_reducible assumption); rotate_left; (· first | (simp; done) | (simp; omega) | omega))))⟩
            · exact (((HC1.out.alloc _).kept hb2).far (by first | (simp; done) | (simp; omega)) _).far (by first | (simp; done) | (simp; omega)) _
            · exact (((HC2.out.alloc _).kept hb2).far (by first | (simp; done) | (simp; omega)) _).far (by first | (simp; done) | (simp; omega)) _
            · exact (((HC3.out.alloc _).kept hb2).far (by first | (simp; done) | (simp; omega)) _).far (by first | (simp; done) | (simp; omega)) _
            · have h4 := (HD4.out.set_ 0 (.int .i64 (ePA p1 (tr (six (wrap64 (-(k : Int) * m))) (u1, u2)).1))).set_ 1 (.int .i64 (ePA p2 (tr (six (wrap64 (-(k : Int) * m))) (u1, u2)).2))
              rw [hS.out]
              exact h4
          case measure => simp [intOf]; omega
        · obtain rfl : m = 6 := by omega
          obtain ⟨o0, o1⟩ := tw_at C3 hlt
          have g3 := C3.frozen
          clear C3 hix
          have l5 := HC3.out.lt
          have hk1 : (0 : Int) ≤ (k : Int) := by omega
          have hk2 : (k : Int) < 6 := by omega
          go_wp2
          go_roundw
          case rel =>
            refine ⟨k + 1, by omega, by go_num, ?_, ?_, ?_, (by repeat (first | (with_reducible exact Below.refl _ _) | (with_reducible assumption) | ((with_reducible refine Below.alloc ?_ ?_ _); rotate_left; (· first | (simp; done) | (simp; omega) | omega)) | ((with_reducible refine Below.setCell ?_ ?_ _); rotate_left; (· first | (simp; done) | (simp; omega) | omega)) | (with_reducible apply Below.drew) | ((with_reducible apply below_step); (· with_reducible assumption); rotate_left; (· first | (simp; done) | (simp; omega) | omega))))⟩
            · exact (HC1.out.far (by first | (simp; done) | (simp; omega)) _).far (by first | (simp; done) | (simp; omega)) _
            · exact (HC2.out.far (by first | (simp; done) | (simp; omega)) _).far (by first | (simp; done) | (simp; omega)) _
            · have e : spV x (k + 1) k = (p1, p2) := by unfold spV; rw [if_pos (by omega), HP.out]
              have h3 := tw_set hlt HC3.out (spV_succ x k)
              rw [e] at h3
              exact h3
          case measure => simp [intOf]; omega
    · obtain rfl : k = 6 := by omega
      have r0 := HB2.out.cell
      have g0 := HB2.out.frozen
      have c3 := HB3.out.cell
      clear B1 hix
      go_wp2
      exact bodyPost_ret (by simp [results, Tryd.results36, go_sem, *]; try ((repeat' apply And.intro) <;> rfl)) rfl ⟨rfl, (by repeat (first | (with_reducible exact Below.refl _ _) | (with_reducible assumption) | ((with_reducible refine Below.alloc ?_ ?_ _); rotate_left; (· first | (simp; done) | (simp; omega) | omega)) | ((with_reducible refine Below.setCell ?_ ?_ _); rotate_left; (· first | (simp; done) | (simp; omega) | omega)) | (with_reducible apply Below.drew) | ((with_reducible apply below_step); (· with_reducible assumption); rotate_left; (· first | (simp; done) | (simp; omega) | omega))))⟩

set_option maxHeartbeats 400000 in
theorem Spectrum_any (x : Nat → Int × Int) (w : World) (h : ∀ j, j < 6 → inB 65536 (x j).1 (x j).2 = true) :
    Calls Tryd.prog 12 #[.agg #[.int .i64 (x 0).1, .int .i64 (x 0).2, .int .i64 (x 1).1, .int .i64 (x 1).2, .int .i64 (x 2).1, .int .i64 (x 2).2, .int .i64 (x 3).1, .int .i64 (x 3).2, .int .i64 (x 4).1, .int .i64 (x 4).2, .int .i64 (x 5).1, .int .i64 (x 5).2]] w fun e w' => e = .returned (.tuple #[.agg #[.int .i64 (spV x 6 0).1, .int .i64 (spV x 6 0).2, .int .i64 (spV x 6 1).1, .int .i64 (spV x 6 1).2, .int .i64 (spV x 6 2).1, .int .i64 (spV x 6 2).2, .int .i64 (spV x 6 3).1, .int .i64 (spV x 6 3).2, .int .i64 (spV x 6 4).1, .int .i64 (spV x 6 4).2, .int .i64 (spV x 6 5).1, .int .i64 (spV x 6 5).2], .int .i64 0]) ∧ Below w.heap.size w w' := by
  have hk : Hid (ckA 65536 [x 0, x 1, x 2, x 3, x 4, x 5] = 0) := ckA_yes (by
    intro y hy
    simp at hy
    rcases hy with rfl | rfl | rfl | rfl | rfl | rfl <;> exact h _ (by omega))
  clear h
  go_enter Tryd.func12, Tryd.ntmps12
  go_wp2_with (first | (go_at_call 35; refine (allWithin_any 65536 (w.heap.size + 1) _ 6 6 [x 0, x 1, x 2, x 3, x 4, x 5] _ (by omega) (by omega) (by unfold maxLen; omega) (by simp) (Reads.blk (t := 27) (cs := #[.int .i64 (x 0).1, .int .i64 (x 0).2, .int .i64 (x 1).1, .int .i64 (x 1).2, .int .i64 (x 2).1, .int .i64 (x 2).2, .int .i64 (x 3).1, .int .i64 (x 3).2, .int .i64 (x 4).1, .int .i64 (x 4).2, .int .i64 (x 5).1, .int .i64 (x 5).2]) (by repeat (first | (with_reducible assumption) | ((with_reducible apply Blk.new_at); (first | (simp; done) | (simp; omega))) | (with_reducible apply Blk.drew) | (with_reducible refine Blk.alloc ?_ _) | (with_reducible apply blk_two) | ((with_reducible refine blk_far ?_ ?_ _); (· first | (simp; done) | (simp; omega) | omega)) | ((with_reducible apply blk_kept); (· with_reducible assumption)))) rfl)).mono ?_; rw [hk.out]; rintro e w1 ⟨rfl, hb1⟩; obtain ⟨hc1, hf1⟩ := ifs_of hb1; have hs1 := hb1.size; (try simp at hs1)) | (go_at_call 36; refine (spectrum_any x _).mono ?_; rintro e w2 ⟨rfl, hb2⟩; obtain ⟨hc2, hf2⟩ := ifs_of hb2; have hs2 := hb2.size; (try simp at hs2)))
  exact bodyPost_ret (by simp [results, Tryd.results12, go_sem, *, ↓IntWalk.iteOmega]; try ((repeat' apply And.intro) <;> rfl)) rfl ⟨rfl, (by repeat (first | (with_reducible exact Below.refl _ _) | (with_reducible assumption) | ((with_reducible refine Below.alloc ?_ ?_ _); rotate_left; (· first | (simp; done) | (simp; omega) | omega)) | ((with_reducible refine Below.setCell ?_ ?_ _); rotate_left; (· first | (simp; done) | (simp; omega) | omega)) | (with_reducible apply Below.drew) | ((with_reducible apply below_step); (· with_reducible assumption); rotate_left; (· first | (simp; done) | (simp; omega) | omega))))⟩
end Go.Proofs.YtjakigncloleaaaDoor
