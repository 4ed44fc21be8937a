/- Reference: Move. -/
import Derived.Test.YtphlojgmfkgeiaaGreatDoorWS
import Derived.Test.YtphlojgmfkgeiaaGreatDoorR7
namespace Go.Proofs.YtphlojgmfkgeiaaGreatDoor
open Go.RowKit Go.Sort Go.Shelf
set_option linter.unusedSimpArgs false
set_option linter.unusedVariables false
attribute [local go_sem] cell_if frozen_if grow_cell
/-- A yard with lists of its own and no error, or the zero yard and an error. -/
def YdRRes (w : World) (er : Int) (y : Yd) (e : Ending) (w' : World) : Prop :=
  (er = 0 ∧ ∃ A0 A1 A2 c0 c1 c2, e = .returned (.tuple #[.agg #[.slice A0 y.s.length c0, .slice A1 y.w.length c1, .slice A2 y.p.length c2], .int .i64 0]) ∧ OwRow 66 68 72 w.heap.size y A0 A1 A2 c0 c1 c2 w' ∧ Below w.heap.size w w') ∨
  (er ≠ 0 ∧ e = .returned (.tuple #[zeroY, .int .i64 er]) ∧ Below w.heap.size w w')
def moveR (y : Yd) (nm : ByteArray) : Int := or0 (whenE (decide (atB y nm < 0)) 10) (whenE (!(whyN y (atB y nm).toNat == 0)) 21)
theorem moveE_R {y : Yd} (h : yardE y = 0) (nm : ByteArray) : moveE y nm = moveR y nm := by
  unfold moveE moveR findE
  rw [or0_pos h]
theorem sw_find (y : Yd) (nm : ByteArray) {n : Nat} (h : y.w.length = n) : findI ((y.w.map Sw.n).take n) nm = atB y nm := by
  rw [List.take_of_length_le (by simp [h])]
  exact find_idx _ _ _ _
theorem FindSw_any (B : Nat) (A0 A1 A2 : Option Addr) (n0 n1 n2 c0 c1 c2 : Nat) (y : Yd) (nm : ByteArray) (w : World) (hY : YdAt w B A0 A1 A2 n0 n1 n2 y) (hB : B ≤ w.heap.size) (h9 : n1 ≤ 9) :
    Calls Tryz.prog 61 #[.agg #[.slice A0 n0 c0, .slice A1 n1 c1, .slice A2 n2 c2], .string nm, .int .i64 n1] w fun e w' => e = .returned (.int .i64 (atB y nm)) ∧ Below w.heap.size w w' := by
  have h := FindSwitch_any B A0 A1 A2 n0 n1 n2 c0 c1 c2 y nm n1 w hY hB (Nat.le_refl _) (by unfold maxLen; omega)
  rw [sw_find y nm (sw_at hY.hw).1] at h
  exact h
set_option maxRecDepth 100000 in
set_option maxHeartbeats 2000000 in
theorem rMove_any (B : Nat) (A0 A1 A2 : Option Addr) (n0 n1 n2 c0 c1 c2 : Nat) (y : Yd) (w : World) (hY : YdAt w B A0 A1 A2 n0 n1 n2 y) (hB : B ≤ w.heap.size) (hP : Parts y) (nm : ByteArray) : Calls Tryz.prog 64 #[.agg #[.slice A0 n0 c0, .slice A1 n1 c1, .slice A2 n2 c2], .string nm] w (YdRRes w (moveR y nm) (y.mv (atB y nm).toNat)) := by
  have hl0 := (sec_at hY.hs).1
  have hl1 := (sw_at hY.hw).1
  have hl2 := (pm_at hY.hp).1
  have h8 := hP.n8
  have h8' := hP.w8
  have h8'' := hP.p8
  have hbd := atB_bd y nm
  have HC := Lib.hid (fun W (hW : Below w.heap.size w W) => FindSw_any B A0 A1 A2 n0 n1 n2 c0 c1 c2 y nm W (hY.below (hW.mono hB)) (by have := hW.size; omega) (by omega))
  by_cases hi : atB y nm < 0
  · have HM : Hid (moveR y nm = 10) := by
      show _ = _
      unfold moveR
      rw [decide_eq_true hi]
      rfl
    rw [HM.out]
    generalize atB y nm = i at *
    clear hY hP hbd
    go_enter Tryz.func64, Tryz.ntmps64
    go_wp2_with fail
    refine (HC.out _ bl_).mono ?_
    (rintro e w1 ⟨rfl, hb1⟩; have hs1 := hb1.size; (try simp at hs1))
    obtain ⟨hc1, hf1⟩ := ifs_of hb1; have hs1 := hb1.size; (try simp at hs1)
    go_wp2_with fail
    refine bodyPost_ret (v := .tuple #[zeroY, .int .i64 10]) ?_ rfl (Or.inr ⟨by decide, rfl, bl_⟩)
    have ck := (bk_ : Blk w1 (w.heap.size + 1) 26 #[.slice none 0 0, .slice none 0 0, .slice none 0 0])
    have ck := (((ck.set_ 0 (.slice none 0 0)).set_ 1 (.slice none 0 0)).set_ 2 (.slice none 0 0)).cell
    simp [results, Tryz.results64, go_sem, zeroY, ck]
  · obtain ⟨i, hie⟩ := Int.eq_ofNat_of_zero_le (show 0 ≤ atB y nm by omega)
    have hil : i < y.w.length := by omega
    have HM : Hid (moveR y nm = whenE (!(whyN y i == 0)) 21) := by
      show _ = _
      unfold moveR
      rw [decide_eq_false hi, hie]
      rfl
    rw [HM.out]
    rw [hie] at HC ⊢
    rw [Int.toNat_natCast]
    have HA := Lib.hid (fun W (hW : Below w.heap.size w W) => rWhy_any B A0 A1 A2 n0 n1 n2 c0 c1 c2 y W (hY.below (hW.mono hB)) (by have := hW.size; omega) hP i hil)
    have HV := Lib.hid (fun W (hW : Below w.heap.size w W) => (rMoved_any B A0 A1 A2 n0 n1 n2 c0 c1 c2 y i W (hY.below (hW.mono hB)) (by have := hW.size; omega) (by omega) (by omega) (by omega) hil))
    have hle := whyN_le y i
    have HN := Lib.hid (nmL_nil hle)
    clear hY hP hbd hi hie hil hle HM hl0 hl1 hl2
    cases hz : (whyN y i == 0) with
    | false =>
      rw [hz] at HN
      have hnn := HN.out
      generalize nmL (whyN y i) = v at *
      go_enter Tryz.func64, Tryz.ntmps64
      go_wp2_with fail
      refine (HC.out _ bl_).mono ?_
      (rintro e w1 ⟨rfl, hb1⟩; have hs1 := hb1.size; (try simp at hs1))
      obtain ⟨hc1, hf1⟩ := ifs_of hb1; have hs1 := hb1.size; (try simp at hs1)
      go_wp2_with fail
      refine (HA.out _ bl_).mono ?_
      (rintro e w2 ⟨rfl, hb2⟩; have hs2 := hb2.size; (try simp at hs2))
      obtain ⟨hc2, hf2⟩ := ifs_of hb2; have hs2 := hb2.size; (try simp at hs2)
      go_wp2_with fail
      refine bodyPost_ret (v := .tuple #[zeroY, .int .i64 21]) ?_ rfl (Or.inr ⟨by decide, rfl, bl_⟩)
      have ck := (bk_ : Blk w2 (w.heap.size + 1) 26 #[.slice none 0 0, .slice none 0 0, .slice none 0 0])
      have ck := (((ck.set_ 0 (.slice none 0 0)).set_ 1 (.slice none 0 0)).set_ 2 (.slice none 0 0)).cell
      simp [results, Tryz.results64, go_sem, zeroY, ck]
    | true =>
      rw [hz] at HN
      have hnn := HN.out
      generalize nmL (whyN y i) = v at *
      generalize y.mv i = z at *
      go_enter Tryz.func64, Tryz.ntmps64
      go_wp2_with fail
      refine (HC.out _ bl_).mono ?_
      (rintro e w1 ⟨rfl, hb1⟩; have hs1 := hb1.size; (try simp at hs1))
      obtain ⟨hc1, hf1⟩ := ifs_of hb1; have hs1 := hb1.size; (try simp at hs1)
      go_wp2_with fail
      refine (HA.out _ bl_).mono ?_
      (rintro e w2 ⟨rfl, hb2⟩; have hs2 := hb2.size; (try simp at hs2))
      obtain ⟨hc2, hf2⟩ := ifs_of hb2; have hs2 := hb2.size; (try simp at hs2)
      go_wp2_with fail
      refine (HV.out _ bl_).mono ?_
      rintro e w3 ⟨D0, D1, D2, d0, d1, d2, rfl, hO, hb3⟩
      have bz := (bk_ : Blk w3 (w.heap.size + 1) 26 #[.slice none 0 0, .slice none 0 0, .slice none 0 0])
      have hb := (bl_ : Below w.heap.size w w3)
      have hO6 := (((hO.low (base' := w.heap.size) (by omega)).far (i := 0) bz (.slice D0 z.s.length d0) (by decide) (by decide) (by decide)).far (i := 1) (bz.set_ 0 _) (.slice D1 z.w.length d1) (by decide) (by decide) (by decide)).far (i := 2) ((bz.set_ 0 _).set_ 1 _) (.slice D2 z.p.length d2) (by decide) (by decide) (by decide)
      have hbl6 := below_set3 hb (show w.heap.size ≤ w.heap.size + 1 by omega) (.slice D0 z.s.length d0) (.slice D1 z.w.length d1) (.slice D2 z.p.length d2)
      have ck := (bz.set3 (.slice D0 z.s.length d0) (.slice D1 z.w.length d1) (.slice D2 z.p.length d2)).cell
      have HO6 := Lib.hid (And.intro hO6 hbl6)
      have cz := bz.cell
      have fz := bz.frozen
      have lz := bz.lt
      clear hO6 hbl6 hO hb bz
      go_wp2_with fail
      refine bodyPost_ret (v := .tuple #[.agg #[.slice D0 z.s.length d0, .slice D1 z.w.length d1, .slice D2 z.p.length d2], .int .i64 0]) ?_ rfl (Or.inl ⟨rfl, D0, D1, D2, d0, d1, d2, rfl, HO6.out.1, HO6.out.2⟩)
      simp [results, Tryz.results64, go_sem, ck]
end Go.Proofs.YtphlojgmfkgeiaaGreatDoor
