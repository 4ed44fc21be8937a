/- Reference: a yard in a state, and the error of a state. -/
import Derived.Test.YtphlojgmfkgeiaaGreatDoorKr
import Derived.Test.YtphlojgmfkgeiaaGreatDoorKg
namespace Go.Proofs.YtphlojgmfkgeiaaGreatDoor
open Go.RowKit Go.Sort Go.Shelf
set_option linter.unusedSimpArgs false
set_option linter.unusedVariables false
attribute [local go_sem] cell_if frozen_if grow_cell
theorem OwRow.bit {T0 T1 T2 : TypeId} {base : Nat} {y : Yd} {l : List Sw} {s : Int} {k : Nat} {A0 A2 : Option Addr} {g c0 c1 c2 : Nat} {w : World} (h : OwRow T0 T1 T2 base { y with w := withTo l s k } A0 (some ⟨g, 0, none⟩) A2 c0 c1 c2 w) (hk : k < l.length) (h0 : T0 ≠ T1) (h2 : T2 ≠ T1) : OwRow T0 T1 T2 base { y with w := withTo l s (k + 1) } A0 (some ⟨g, 0, none⟩) A2 c0 c1 c2 (w.setCell ⟨g, k * 5 + 4, none⟩ (.bool (bitB s k))) := by
  have := h.close (i := k) (bitB s k) (by simpa [withTo_len] using hk) h0 h2
  rwa [withTo_succ] at this
theorem sws_getL (l : List Sw) (i : Nat) (h : i < l.length) : (sws l)[i * 5 + 4]? = some (.bool l[i].c) := by simpa using sws_get l i h
set_option maxRecDepth 100000 in
set_option maxHeartbeats 4000000 in
theorem rWith_any (B : Nat) (A0 A1 A2 : Option Addr) (n0 n1 n2 c0 c1 c2 : Nat) (y : Yd) (s : Int) (w : World) (hY : YdAt w B A0 A1 A2 n0 n1 n2 y) (hB : B ≤ w.heap.size) (h0 : n0 ≤ 1000) (h1 : n1 ≤ 9) (h2 : n2 ≤ 1000) (hs0 : 0 ≤ s) (hs1 : s < 1000000) :
    Calls Tryz.prog 48 #[.agg #[.slice A0 n0 c0, .slice A1 n1 c1, .slice A2 n2 c2], .int .i64 s] w (OwRes 66 68 72 w (y.at s)) := by
  have HO := Lib.hid (fun W (hW : Below w.heap.size w W) => rOwn_any B A0 A1 A2 n0 n1 n2 c0 c1 c2 y W (hY.below (hW.mono hB)) (by have := hW.size; omega) h0 (by omega) h2)
  have hl1 := (sw_at hY.hw).1
  have HL := Lib.hid hl1
  clear hY
  go_enter Tryz.func48, Tryz.ntmps48
  go_wp2_with fail
  refine (HO.out _ bl_).mono ?_
  rintro e w1 ⟨A0', A1', A2', c0', c1', c2', rfl, hO, hb1⟩
  have hsz1 := hb1.size
  simp at hsz1
  have b4 : Blk w1 (w.heap.size + 1) 26 #[.slice none 0 0, .slice none 0 0, .slice none 0 0] := (show Blk _ _ _ _ from bk_)
  have hO' : OwRow 66 68 72 (w.heap.size + 1 + 1) { y with w := withTo y.w s 0 } A0' A1' A2' c0' c1' c2' w1 := by rw [withTo_zero]; exact hO.low (by simp)
  have HO1 := Lib.hid hO'
  clear hO hO'
  rw [hl1]
  go_wp2_with fail
  go_loopw [6] (fun i wr => ∃ k : Nat, k ≤ n1 ∧ i = .int .i64 k ∧ OwRow 66 68 72 (w.heap.size + 1 + 1) { y with w := withTo y.w s k } A0' A1' A2' c0' c1' c2' wr ∧ (∀ g, A1' = some ⟨g, 0, none⟩ → g < w1.heap.size) ∧ Blk wr w1.heap.size 26 #[.slice A0' y.s.length c0', .slice A1' n1 c1', .slice A2' y.p.length c2'] ∧ Blk wr (w.heap.size + 1) 26 #[.slice none 0 0, .slice none 0 0, .slice none 0 0] ∧ Below w.heap.size w wr) (fun i _ => n1 - (intOf i).toNat)
  case atStart => exact ⟨0, by omega, rfl, HO1.out.kept bl_, fun g e => (HO1.out.r1.lt g (by rw [e]; rfl)).2, (show Blk _ _ _ _ from bk_), (show Blk _ _ _ _ from bk_), bl_⟩
  case round =>
    obtain ⟨k, hk, rfl, hOk, hgw, bo, bz, hb⟩ := hrel
    have hsr := hb.size
    have co := bo.cell
    have fo := bo.frozen
    have lo := bo.lt
    have cz := bz.cell
    have fz := bz.frozen
    by_cases hlt2 : k < n1
    · have hkl : k < y.w.length := by rw [HL.out]; exact hlt2
      have hkw : k < (withTo y.w s k).length := by rw [withTo_len]; exact hkl
      obtain ⟨g, rfl⟩ := own_some hOk.r1 (by show 0 < (withTo y.w s k).length; omega)
      have hgl := (hOk.r1.lt g rfl).2
      have hgb := (hOk.r1.lt g rfl).1
      have hgl1 := hgw g rfl
      have hng : w1.heap.size ≠ g := by omega
      clear hgw
      have HB := Lib.hid hOk
      clear hOk
      have HS : bits BinOp.and IntKind.i64 (s / 2 ^ k) 1 = s / 2 ^ k % 2 := and_one (Int.ediv_nonneg hs0 (Int.le_of_lt (Int.pow_pos (by omega)))) (Int.lt_of_le_of_lt (Int.ediv_le_self _ hs0) hs1)
      go_wp2_with fail
      (refine wp_region_calm [g] [0, 1, 2, 3, 4, 5, 6, 7, 8, 9] 1 (by kernel_rfl) rfl (by kernel_rfl) (by kernel_rfl) (by kernel_rfl) ?_; simp only [pickB, List.filterMap_cons, List.filterMap_nil, List.getElem?_toArray, List.getElem?_cons_zero, List.getElem?_cons_succ]; (repeat (first | ((with_reducible refine quietL_plain rfl (fun K hK => ?_)); (apply Exists.intro; refine ⟨fun wx hx => ?_, ?_⟩; (· (have hcx := ifs_ex hx); simp [go_sem, *, ↓IntWalk.iteOmega] <;> (first | rfl | exact ⟨rfl, rfl⟩ | fail)); (simp only [Act.put, List.setIfInBounds_toArray, List.set_cons_zero, List.set_cons_succ]; refine hK _ ?_; clear hK K))) | ((with_reducible refine quietL_skip (by with_unfolding_all rfl) ?_); simp only [Act.put, List.setIfInBounds_toArray, List.set_cons_zero, List.set_cons_succ]) | ((with_reducible refine quietL_want (by with_unfolding_all rfl) (fun K hK => ?_)); (apply Exists.intro; refine ⟨fun wx hx => ?_, ?_⟩; (· (have hcx := ifs_ex hx); simp [go_sem, *, ↓IntWalk.iteOmega] <;> (first | rfl | exact ⟨rfl, rfl⟩ | fail)); (simp only [Act.put, List.setIfInBounds_toArray, List.set_cons_zero, List.set_cons_succ]; refine hK _ ?_; clear hK K))))); refine quietL_nil ?_)
      refine anyB_one (i := 10) (by kernel_rfl) rfl rfl ?_
      intro w2 hb2 K hK
      have hO2 := HB.out.kept hb2
      have f4 := World.ownsRow.frozenAt hO2.r1
      have l4 := (hO2.r1.lt g rfl).2
      have e4 : w2.cell? ⟨g, k * 5 + 4, none⟩ = some (.bool (withTo y.w s k)[k].c) := by rw [World.ownsRow.cellAt hO2.r1 _ (by show _ < (withTo y.w s k).length * 5; omega), sws_getL _ _ hkw]
      generalize (withTo y.w s k)[k].c = q at *
      clear hO2 hkw
      go_wp2
      refine ⟨xs_, ?_⟩
      refine anyB_end (by kernel_rfl) ?_
      intro w3 hb3
      rw [show (s / 2 ^ k % 2 == 1) = bitB s k from rfl] at hb3
      have hO3 := ((HB.out.kept hb2).bit hkl (by decide) (by decide)).kept hb3
      have bo3 := ((bo.kept hb2).far (p := ⟨g, k * 5 + 4, none⟩) hng (.bool (bitB s k))).kept hb3
      have bz3 := ((bz.kept hb2).far (p := ⟨g, k * 5 + 4, none⟩) (by simp; omega) (.bool (bitB s k))).kept hb3
      have hbb := hb.trans (hb2.mono hb.size)
      have hbl3 : Below w.heap.size w w3 := (hbb.setCell (p := ⟨g, k * 5 + 4, none⟩) (by simp; omega) (.bool (bitB s k))).trans (hb3.mono (by have := hbb.size; simp [World.setCell]; omega))
      have H3 := Lib.hid (And.intro hO3 (And.intro (show ∀ g', some (⟨g, 0, none⟩ : Addr) = some ⟨g', 0, none⟩ → g' < w1.heap.size from fun g' e => by cases e; omega) (And.intro bo3 (And.intro bz3 hbl3))))
      clear hO3 bo3 bz3 hbl3 hb3 hb2 hb bo bz co fo lo cz fz e4 f4 l4
      simp only [Calm]
      go_wp2_with fail
      go_roundw
      case rel => exact ⟨k + 1, by omega, by go_num, H3.out⟩
      case measure => simp [intOf]; omega
    · obtain rfl : k = n1 := by omega
      have hO6 := ((hOk.far (i := 0) bz (.slice A0' y.s.length c0') (by decide) (by decide) (by decide)).far (i := 1) (bz.set_ 0 _) (.slice A1' k c1') (by decide) (by decide) (by decide)).far (i := 2) ((bz.set_ 0 _).set_ 1 _) (.slice A2' y.p.length c2') (by decide) (by decide) (by decide)
      have hbl6 := ((hb.setCell (p := ⟨w.heap.size + 1, 0, none⟩) (by simp) (.slice A0' y.s.length c0')).setCell (p := ⟨w.heap.size + 1, 1, none⟩) (by simp) (.slice A1' k c1')).setCell (p := ⟨w.heap.size + 1, 2, none⟩) (by simp) (.slice A2' y.p.length c2')
      have ck := (((bz.set_ 0 (.slice A0' y.s.length c0')).set_ 1 (.slice A1' k c1')).set_ 2 (.slice A2' y.p.length c2')).cell
      have HO6 := Lib.hid (And.intro (hO6.low (base' := w.heap.size) (by omega)) hbl6)
      clear hO6 hbl6 hgw
      go_wp2_with fail
      refine bodyPost_ret (v := .agg #[.slice A0' y.s.length c0', .slice A1' k c1', .slice A2' y.p.length c2']) (by simp [results, Tryz.results48, go_sem, ck]) rfl ?_
      have HW : withTo y.w s k = withL y.w s := by rw [← HL.out, withTo_all]
      rw [HW] at HO6
      refine ⟨A0', A1', A2', c0', c1', c2', ?_, HO6.out.1, HO6.out.2⟩
      show Ending.returned (.agg #[_, .slice _ k _, _]) = .returned (.agg #[_, .slice _ (withL y.w s).length _, _])
      rw [withL_len, HL.out]
      rfl
theorem CheckRange_any (n a b : Int) (w : World) : Calls Tryz.prog 123 #[.int .i64 n, .int .i64 a, .int .i64 b] w fun e w' => e = .returned (.int .i64 (whenE (!decide (a ≤ n ∧ n ≤ b)) 3)) ∧ w = w' := by
  have HW := Lib.hid (fun q W => rWhen_any q 3 W)
  by_cases h1 : n < a
  · have e : (!decide (a ≤ n ∧ n ≤ b)) = true := by simp; omega
    rw [e]
    go_enter Tryz.func123, Tryz.ntmps123
    go_wp2_with fail
    refine (HW.out _ _).mono ?_
    rintro e w3 ⟨rfl, rfl⟩
    go_wp2_with fail
    go_ret
    exact ⟨rfl, rfl⟩
  · by_cases h2 : b < n
    · have e : (!decide (a ≤ n ∧ n ≤ b)) = true := by simp; omega
      rw [e]
      go_enter Tryz.func123, Tryz.ntmps123
      go_wp2_with fail
      refine (HW.out _ _).mono ?_
      rintro e w3 ⟨rfl, rfl⟩
      go_wp2_with fail
      go_ret
      exact ⟨rfl, rfl⟩
    · have e : (!decide (a ≤ n ∧ n ≤ b)) = false := by simp; omega
      rw [e]
      go_enter Tryz.func123, Tryz.ntmps123
      go_wp2_with fail
      refine (HW.out _ _).mono ?_
      rintro e w3 ⟨rfl, rfl⟩
      go_wp2_with fail
      go_ret
      exact ⟨rfl, rfl⟩
theorem rCheckState_any (A0 A1 A2 : Option Addr) (n0 n1 n2 c0 c1 c2 : Nat) (s : Int) (w : World) (hn : n1 ≤ 9) :
    Calls Tryz.prog 47 #[.agg #[.slice A0 n0 c0, .slice A1 n1 c1, .slice A2 n2 c2], .int .i64 s] w fun e w' => e = .returned (.int .i64 (stE n1 s)) ∧ Below w.heap.size w w' := by
  have HC := Lib.hid (fun W => CheckRange_any s 0 (2 ^ n1 - 1) W)
  have hp9 := pow9 (k := n1) (by omega)
  have e : stE n1 s = whenE (!decide (0 ≤ s ∧ s ≤ 2 ^ n1 - 1)) 3 := by
    unfold stE
    congr 2
    exact decide_eq_decide.2 ⟨fun h => ⟨h.1, by omega⟩, fun h => ⟨h.1, by omega⟩⟩
  have HE := Lib.hid e
  clear e
  generalize whenE (!decide (0 ≤ s ∧ s ≤ 2 ^ n1 - 1)) 3 = v at *
  go_enter Tryz.func47, Tryz.ntmps47
  go_wp2_with fail
  refine (HC.out _).mono ?_
  rintro e w3 ⟨rfl, rfl⟩
  go_wp2_with fail
  go_ret
  exact ⟨by rw [HE.out]; rfl, bl_⟩
end Go.Proofs.YtphlojgmfkgeiaaGreatDoor
