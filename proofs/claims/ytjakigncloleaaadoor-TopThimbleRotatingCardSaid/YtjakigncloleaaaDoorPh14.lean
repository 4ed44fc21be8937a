/- Contract: thimbleWires. -/
import Derived.Test.YtjakigncloleaaaDoorPh13
namespace Go.Proofs.YtjakigncloleaaaDoor
open Go.RowKit Go.Sort
attribute [local go_sem] cell_if frozen_if grow_cell
def telA : Nat → Int := fun j => [2, 0, -2, -2].getD j 0
def telB : Nat → Int := fun j => [0, 2, 0, 0].getD j 0
theorem goodA : GoodTel 5 6 telA := ⟨by decide, by decide, by decide, by decide, by decide, by decide⟩
theorem goodB : GoodTel 5 7 telB := ⟨by decide, by decide, by decide, by decide, by decide, by decide⟩
def sA (k : Nat) : Value := ((sumB 5 6 telA).map (Value.int .u8)).getD k undef
def sB (k : Nat) : Value := ((sumB 5 7 telB).map (Value.int .u8)).getD k undef
theorem Encode_A (w : World) :
    Calls Tryd.prog 38 #[.agg #[.int .i64 5, .int .i64 6, .int .i64 2, .int .i64 0, .int .i64 (-2), .int .i64 (-2)]] w fun e w' => e = .returned (.tuple #[.agg #[.int .u8 177, .int .u8 5, .int .u8 0, .int .u8 6, .int .u8 0, .int .u8 2, .int .u8 0, .int .u8 0, .int .u8 255, .int .u8 254, .int .u8 255, .int .u8 254, sA 0, sA 1, sA 2, sA 3], .int .i64 0]) ∧ Below w.heap.size w w' :=
  Encode_any 5 6 telA w goodA
theorem Encode_B (w : World) :
    Calls Tryd.prog 38 #[.agg #[.int .i64 5, .int .i64 7, .int .i64 0, .int .i64 2, .int .i64 0, .int .i64 0]] w fun e w' => e = .returned (.tuple #[.agg #[.int .u8 177, .int .u8 5, .int .u8 0, .int .u8 7, .int .u8 0, .int .u8 0, .int .u8 0, .int .u8 2, .int .u8 0, .int .u8 0, .int .u8 0, .int .u8 0, sB 0, sB 1, sB 2, sB 3], .int .i64 0]) ∧ Below w.heap.size w w' :=
  Encode_any 5 7 telB w goodB
theorem sA_int (k : Nat) (h : k < 4) : ∃ n, sA k = .int .u8 n := ⟨(sumB 5 6 telA)[k]'(by simpa [sumB, bytesOf] using h), by
  unfold sA; rw [List.getD_eq_getElem?_getD, List.getElem?_map, List.getElem?_eq_getElem (by simpa [sumB, bytesOf] using h)]; rfl⟩
theorem sB_int (k : Nat) (h : k < 4) : ∃ n, sB k = .int .u8 n := ⟨(sumB 5 7 telB)[k]'(by simpa [sumB, bytesOf] using h), by
  unfold sB; rw [List.getD_eq_getElem?_getD, List.getElem?_map, List.getElem?_eq_getElem (by simpa [sumB, bytesOf] using h)]; rfl⟩
theorem Components_wires (w : World) (hw : Roots w) :
    Calls Tryd.prog 29 #[.agg #[.int .i64 2, .int .i64 0, .int .i64 (-2), .int .i64 (-2), .int .i64 0, .int .i64 2]] w fun e w' => e = .returned (.tuple #[.agg #[.int .i64 0, .int .i64 0, .int .i64 6, .int .i64 0, .int .i64 0, .int .i64 0], .int .i64 0]) ∧ Below w.heap.size w w' := by
  have h := Components_any 2 0 (-2) (-2) 0 2 w hw ⟨by decide, by decide, by decide⟩
  have e : (#[.int .i64 (ePA (ePA 2 (-2)) 0), .int .i64 (ePA (ePA 0 (-2)) 2), .int .i64 (ePA (ePA 2 (eMA 0 1 (-2) (-2))) (eMA (-1) (-1) 0 2)), .int .i64 (ePA (ePA 0 (eMB 0 1 (-2) (-2))) (eMB (-1) (-1) 0 2)), .int .i64 (ePA (ePA 2 (eMA (-1) (-1) (-2) (-2))) (eMA 0 1 0 2)), .int .i64 (ePA (ePA 0 (eMB (-1) (-1) (-2) (-2))) (eMB 0 1 0 2))] : Array Value) = #[.int .i64 0, .int .i64 0, .int .i64 6, .int .i64 0, .int .i64 0, .int .i64 0] := by kernel_rfl
  rw [e] at h
  exact h
set_option maxRecDepth 100000 in
set_option maxHeartbeats 1000000 in
theorem wires_any (w : World) (hw : Roots w) : Calls Tryd.prog 14 #[] w fun e w' => e = .returned (.bool true) ∧ Below w.heap.size w w' := by
  obtain ⟨a0, hA0⟩ := sA_int 0 (by omega)
  obtain ⟨a1, hA1⟩ := sA_int 1 (by omega)
  obtain ⟨a2, hA2⟩ := sA_int 2 (by omega)
  obtain ⟨a3, hA3⟩ := sA_int 3 (by omega)
  obtain ⟨b0, hB0⟩ := sB_int 0 (by omega)
  obtain ⟨b1, hB1⟩ := sB_int 1 (by omega)
  obtain ⟨b2, hB2⟩ := sB_int 2 (by omega)
  obtain ⟨b3, hB3⟩ := sB_int 3 (by omega)
  have kA := fun w => Encode_A w
  have kB := fun w => Encode_B w
  rw [hA0, hA1, hA2, hA3] at kA
  rw [hB0, hB1, hB2, hB3] at kB
  have KA := Lib.hid kA
  have KB := Lib.hid kB
  clear kA kB hA0 hA1 hA2 hA3 hB0 hB1 hB2 hB3
  have e30 : ∀ (d : Nat) (xs ys : Array Value) (w : World), (Op.equalIn (d + 1) 30 (.agg xs) (.agg ys)).run Tryd.prog w = (eqElems d 25 2 xs ys [0, 1, 2]).run Tryd.prog w := fun d xs ys w => run_equalIn_array (P := Tryd.prog) w d _ _ 3 2 xs ys Tryd.underlying30 (by kernel_rfl)
  have e12 : ∀ (d : Nat) (xs ys : Array Value) (w : World), (Op.equalIn (d + 1) 95 (.agg xs) (.agg ys)).run Tryd.prog w = (eqElems d 5 1 xs ys [0, 1, 2, 3, 4, 5, 6, 7, 8, 9, 10, 11]).run Tryd.prog w := fun d xs ys w => run_equalIn_array (P := Tryd.prog) w d _ _ 12 1 xs ys Tryd.underlying95 (by kernel_rfl)
  have hat : ∀ (g cap : Nat) (w : World), (Instr.arrayAt 95 (.slice (some ⟨g, 0, none⟩) 12 cap)).run Tryd.prog w = .ok (.pointer (some ⟨g, 0, none⟩)) w := fun g cap w => run_arrayAt w 95 _ 12 _ 12 cap Tryd.underlying95 (by omega)
  go_enter Tryd.func14, Tryd.ntmps14
  go_wp2_with (go_at_call 37; refine (pair_any _).mono ?_; rintro e w1 ⟨rfl, hb1⟩; obtain ⟨hc1, hf1⟩ := ifs_of hb1; have hs1 := hb1.size; (try simp at hs1))
  refine (KA.out _).mono ?_
  rintro e w2 ⟨rfl, hb2⟩
  obtain ⟨hc2, hf2⟩ := ifs_of hb2; have hs2 := hb2.size; (try simp at hs2)
  go_wp2_with fail
  refine (KB.out _).mono ?_
  rintro e w3 ⟨rfl, hb3⟩
  obtain ⟨hc3, hf3⟩ := ifs_of hb3; have hs3 := hb3.size; (try simp at hs3)
  go_wp2_with fail
  refine (Components_wires _ (hw.below (by repeat (first | (with_reducible exact Below.refl _ _) | (with_reducible assumption) | ((with_reducible refine Below.alloc ?_ ?_ _); rotate_left; (· first | (simp; done) | (simp; omega) | omega)) | ((with_reducible refine Below.setCell ?_ ?_ _); rotate_left; (· first | (simp; done) | (simp; omega) | omega)) | (with_reducible apply Below.drew) | ((with_reducible apply below_step); (· with_reducible assumption); rotate_left; (· first | (simp; done) | (simp; omega) | omega)))))).mono ?_
  rintro e w4 ⟨rfl, hb4⟩
  obtain ⟨hc4, hf4⟩ := ifs_of hb4; have hs4 := hb4.size; (try simp at hs4)
  go_wp2
  go_ret
  exact ⟨by first | rfl | (simp; done), (by repeat (first | (with_reducible exact Below.refl _ _) | (with_reducible assumption) | ((with_reducible refine Below.alloc ?_ ?_ _); rotate_left; (· first | (simp; done) | (simp; omega) | omega)) | ((with_reducible refine Below.setCell ?_ ?_ _); rotate_left; (· first | (simp; done) | (simp; omega) | omega)) | (with_reducible apply Below.drew) | ((with_reducible apply below_step); (· with_reducible assumption); rotate_left; (· first | (simp; done) | (simp; omega) | omega))))⟩
end Go.Proofs.YtjakigncloleaaaDoor
