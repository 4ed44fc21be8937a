/- Order, with the room of its row. -/
import Derived.Test.YtphlojgmfkgeiaaGreatDoorKj
namespace Go.Proofs.YtphlojgmfkgeiaaGreatDoor
open Go.RowKit Go.Sort Go.Shelf
set_option linter.unusedSimpArgs false
set_option linter.unusedVariables false
attribute [local go_sem] cell_if frozen_if grow_cell
def WordsCRes (w : World) (zs : List ByteArray) (er : Int) (e : Ending) (w' : World) : Prop := ∃ A cap, e = .returned (.tuple #[.slice A zs.length cap, .int .i64 er]) ∧ Reads w' w'.heap.size 1 A zs.length (zs.map .string) ∧ zs.length ≤ cap ∧ cap ≤ maxLen ∧ Below w.heap.size w w'
set_option maxRecDepth 100000 in
set_option maxHeartbeats 1000000 in
theorem Order_cap (B : Nat) (A0 A1 A2 : Option Addr) (n0 n1 n2 c0 c1 c2 : Nat) (y : Yd) (w : World) (hY : YdAt w B A0 A1 A2 n0 n1 n2 y) (hB : B ≤ w.heap.size) (hT : Tabs w) (hF : Fits y) (gk gs : ByteArray) (hgs : gs.size ≤ maxLen) : Calls Tryz.prog 52 #[.agg #[.slice A0 n0 c0, .slice A1 n1 c1, .slice A2 n2 c2], .agg #[.string gk, .string gs]] w (WordsCRes w (resW (orderE y gk gs) (orderL y gk gs)) (orderE y gk gs)) := by
  have H1 := Lib.hid (fun W (hW : Below w.heap.size w W) => checkGoal_any B A0 A1 A2 n0 n1 n2 c0 c1 c2 y W (hY.below (hW.mono hB)) (by have := hW.size; omega) (hT.kept hW) hF gk gs hgs)
  cases he : (goalE y gk gs != 0) with
  | true =>
    have HE := Lib.hid (show goalE y gk gs ≠ 0 by simpa using he)
    have HM : Hid (orderE y gk gs = goalE y gk gs) := by show _ = _; unfold orderE; rw [or0_neg HE.out]
    have HR : Hid (resW (goalE y gk gs) (orderL y gk gs) = []) := by show _ = _; rw [resW, if_neg HE.out]
    rw [HM.out, HR.out]
    clear hY hT hF HR HM
    generalize goalE y gk gs = ee at *
    go_enter Tryz.func52, Tryz.ntmps52
    go_wp2_with fail
    refine (H1.out _ bl_).mono ?_
    (rintro e w1 ⟨rfl, hb1⟩; have hs1 := hb1.size; (try simp at hs1))
    obtain ⟨hc1, hf1⟩ := ifs_of hb1; have hs1 := hb1.size; (try simp at hs1)
    go_wp2_with fail
    go_ret2
    exact ⟨none, 0, rfl, Reads.nil_, Nat.le_refl _, Nat.zero_le _, bl_⟩
  | false =>
    have HE := Lib.hid (show goalE y gk gs = 0 by simpa using he)
    obtain ⟨k1, k2, k3⟩ := goalE_zero HE.out
    have hP := (yard_ok k1).1
    have HS := Lib.hid (fun W (hW : Below w.heap.size w W) => search_any B A0 A1 A2 n0 n1 n2 c0 c1 c2 y W (hY.below (hW.mono hB)) (by have := hW.size; omega) hP 83 #[.agg #[.string gk, .string gs]] #[] (holdsF y gk gs) (enters_of Tryz.func83 (by kernel_rfl) rfl) (holds_pred hP hF.sn gk gs hgs k3 W))
    rw [HE.out] at H1
    have HM : Hid (orderE y gk gs = whenE (!(searchL y (holdsF y gk gs)).2.isSome) 18) := by show _ = _; unfold orderE; rw [or0_pos HE.out]
    have HB : Hid (orderL y gk gs = match (searchL y (holdsF y gk gs)).2 with | some p => p.m.map (swNm y) | none => []) := Lib.hid rfl
    have HC := Lib.hid (fun W (hW : Below w.heap.size w W) i hi (hb : Blk W w.heap.size 41 #[.slice A0 n0 c0, .slice A1 n1 c1, .slice A2 n2 c2]) => orderc_any w.heap.size B A0 A1 A2 n0 n1 n2 c0 c1 c2 y W (hY.below (hW.mono hB)) (by have := hW.size; omega) (by have := hF.w9; have := (sw_at hY.hw).1; omega) i hi hb)
    have HSS := Lib.hid (fun p (h : (searchL y (holdsF y gk gs)).2 = some p) => search_some h)
    have h256 : Hid (2 ^ y.w.length ≤ 256) := Lib.hid (Nat.pow_le_pow_right (n := 2) (by omega) hP.w8)
    rw [HM.out, HB.out]
    clear he HE HM HB hT hF hY hP k1 k2 k3
    generalize searchL y (holdsF y gk gs) = r at *
    obtain ⟨ps, op⟩ := r
    cases op with
    | none =>
      go_enter Tryz.func52, Tryz.ntmps52
      go_wp2_with fail
      refine (H1.out _ bl_).mono ?_
      (rintro e w1 ⟨rfl, hb1⟩; have hs1 := hb1.size; (try simp at hs1))
      obtain ⟨hc1, hf1⟩ := ifs_of hb1; have hs1 := hb1.size; (try simp at hs1)
      go_wp2_with fail
      refine (HS.out _ bl_).mono ?_
      rintro e w2 ⟨g, cap, v, rfl, hrd, _, hb2⟩
      have hs2 := hb2.size
      (try simp at hs2)
      clear hrd
      obtain ⟨hc2, hf2⟩ := ifs_of hb2; have hs2 := hb2.size; (try simp at hs2)
      go_wp2_with fail
      go_ret2
      exact ⟨none, 0, rfl, Reads.nil_, Nat.le_refl _, Nat.zero_le _, bl_⟩
    | some p =>
      obtain ⟨r1, _, r2, _⟩ := HSS.out p rfl
      have hin := Lib.hid (run_in _ _ r1)
      have hpl : p.m.length ≤ 256 := by have := h256.out; omega
      clear r1 r2 HSS
      go_enter Tryz.func52, Tryz.ntmps52
      go_wp2_with fail
      refine (H1.out _ bl_).mono ?_
      (rintro e w1 ⟨rfl, hb1⟩; have hs1 := hb1.size; (try simp at hs1))
      obtain ⟨hc1, hf1⟩ := ifs_of hb1; have hs1 := hb1.size; (try simp at hs1)
      go_wp2_with fail
      refine (HS.out _ bl_).mono ?_
      rintro e w2 ⟨g, cap, v, rfl, hrd, hpa, hb2⟩
      have hs2 := hb2.size
      (try simp at hs2)
      have hmr := (hpa p rfl).mv
      have HMR := Lib.hid hmr
      have hml : v.m = p.m.length := by have := hmr.1; simpa using this.symm
      clear hrd hpa hmr
      obtain ⟨B0, B1, B2, M, m0, m1, m2, mm, d0, d1, d2, dd⟩ := v
      dsimp only at HMR hml
      have hm256 : mm ≤ 256 := by omega
      clear hml
      obtain ⟨hc2, hf2⟩ := ifs_of hb2; have hs2 := hb2.size; (try simp at hs2)
      have HBx := Lib.hid (show Blk (w2.alloc (.cells #[.slice B0 m0 d0, .slice B1 m1 d1, .slice B2 m2 d2, .slice M mm dd] 129)) w.heap.size 41 #[.slice A0 n0 c0, .slice A1 n1 c1, .slice A2 n2 c2] from bk_)
      have HBb := Lib.hid (bl_ : Below w.heap.size w (w2.alloc (.cells #[.slice B0 m0 d0, .slice B1 m1 d1, .slice B2 m2 d2, .slice M mm dd] 129)))
      go_wp2_with fail
      refine (mapIS_any 128 #[] #[.pointer (some ⟨w.heap.size, 0, none⟩)] w2.heap.size M mm dd p.m (swNm y) _ (HMR.out.alloc (Nat.le_refl _) _) (by simp) (by omega) (enters_of Tryz.func128 (by kernel_rfl) rfl) (fun W hW x hx => by simpa using HC.out W (HBb.out.trans (hW.mono HBb.out.size)) x (hin.out x hx) (HBx.out.kept hW))).mono ?_
      rintro e w3 ⟨A', cap', rfl, hr3, hc3, hc4, hb3⟩
      have HC3 := Lib.hid (And.intro hc3 hc4)
      clear hc3 hc4
      have hs3 := hb3.size
      (try simp at hs3)
      have HR3 := Lib.hid hr3
      clear hr3
      go_wp2_with fail
      go_ret2
      show WordsCRes w (p.m.map (swNm y)) 0 _ _
      exact ⟨A', cap', by rw [List.length_map]; rfl, HR3.out, HC3.out.1, HC3.out.2, bl_⟩
end Go.Proofs.YtphlojgmfkgeiaaGreatDoor
