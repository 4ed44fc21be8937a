/- Reference: the error of states that have to be a barrier. -/
import Derived.Test.YtphlojgmfkgeiaaGreatDoorWS
import Derived.Test.YtphlojgmfkgeiaaGreatDoorWR
import Derived.Test.YtphlojgmfkgeiaaGreatDoorWQ
import Derived.Test.YtphlojgmfkgeiaaGreatDoorKj
import Derived.Test.YtphlojgmfkgeiaaGreatDoorR7
namespace Go.Proofs.YtphlojgmfkgeiaaGreatDoor
open Go.RowKit Go.Sort Go.Shelf
set_option linter.unusedSimpArgs false
set_option linter.unusedVariables false
attribute [local go_sem] cell_if frozen_if grow_cell
def barrR (y : Yd) (gk gs : ByteArray) (l : List Int) : Int := or0 (statesE y.w.length l) (whenE (leakB y gk gs l || !hasI l (y0 y)) 19)
theorem stsE_cons (n : Nat) (last s : Int) (r : List Int) : stsE n last (s :: r) = if firstE [stE n s, whenE (decide (s ≤ last)) 11] = 0 then stsE n s r else firstE [stE n s, whenE (decide (s ≤ last)) 11] := rfl
theorem stsE_bad {n : Nat} {last s : Int} {r : List Int} (h : stE n s ≠ 0) : stsE n last (s :: r) = stE n s := by
  have e : firstE [stE n s, whenE (decide (s ≤ last)) 11] = stE n s := by rw [firstE_cons, or0, if_neg h]
  rw [stsE_cons, e, if_neg h]
theorem stsE_low {n : Nat} {last s : Int} {r : List Int} (h : stE n s = 0) (hs : s ≤ last) : stsE n last (s :: r) = 11 := by
  rw [stsE_cons, h, decide_eq_true hs]
  rfl
theorem stsE_next {n : Nat} {last s : Int} {r : List Int} (h : stE n s = 0) (hs : ¬ s ≤ last) : stsE n last (s :: r) = stsE n s r := by
  rw [stsE_cons, h, decide_eq_false hs]
  rfl
theorem barrR_big {y : Yd} {gk gs : ByteArray} {l : List Int} (h : 256 < l.length) : barrR y gk gs l = 5 := by
  unfold barrR statesE
  rw [if_pos h]
  rfl
theorem barrR_sts {y : Yd} {gk gs : ByteArray} {l : List Int} (h : ¬ 256 < l.length) (h2 : stsE y.w.length (-1) l ≠ 0) : barrR y gk gs l = stsE y.w.length (-1) l := by
  unfold barrR statesE
  rw [if_neg h, or0, if_neg h2]
theorem barrR_ok {y : Yd} {gk gs : ByteArray} {l : List Int} (h : ¬ 256 < l.length) (h2 : stsE y.w.length (-1) l = 0) : barrR y gk gs l = whenE (leakB y gk gs l || !hasI l (y0 y)) 19 := by
  unfold barrR statesE
  rw [if_neg h, h2]
  rfl
set_option maxRecDepth 100000 in
set_option maxHeartbeats 8000000 in
theorem rCheckBarrier_any (B : Nat) (A0 A1 A2 : Option Addr) (n0 n1 n2 c0 c1 c2 : Nat) (y : Yd) (w : World) (hY : YdAt w B A0 A1 A2 n0 n1 n2 y) (hB : B ≤ w.heap.size) (hP : Parts y) (gk gs : ByteArray) (hk : goalB gk = true) (h0 : 0 ≤ secAtB y gs) (A : Option Addr) (n c : Nat) (l : List Int) (hr : Reads w B 1 A n (l.map (.int .i64))) (hn : n ≤ 1000) :
    Calls Tryz.prog 25 #[.agg #[.slice A0 n0 c0, .slice A1 n1 c1, .slice A2 n2 c2], .agg #[.string gk, .string gs], .slice A n c] w fun e w' => e = .returned (.int .i64 (barrR y gk gs l)) ∧ Below w.heap.size w w' := by
  have hl0 := (sec_at hY.hs).1
  have hl1 := (sw_at hY.hw).1
  have hl2 := (pm_at hY.hp).1
  have h8 := hP.n8
  have h8' := hP.w8
  have h8'' := hP.p8
  have hp9 := pow9 (k := n1) (by omega)
  obtain ⟨hll, hla⟩ := int_at hr
  have HC := Lib.hid (fun W s => rCheckState_any A0 A1 A2 n0 n1 n2 c0 c1 c2 s W (by omega))
  have HSt := Lib.hid (fun W (hW : Below w.heap.size w W) => rState_any B A0 A1 A2 n0 n1 n2 c0 c1 c2 y W (hY.below (hW.mono hB)) (by have := hW.size; omega) (by omega))
  have HSt' : Hid (stUp y.w n1 = y0 y) := by show _ = _; rw [y0, hl1]
  rw [HSt'.out] at HSt
  have HWi := Lib.hid (fun W (hW : Below w.heap.size w W) s (hs : 0 ≤ s ∧ s < 2 ^ n1) => (rWith_any B A0 A1 A2 n0 n1 n2 c0 c1 c2 y s W (hY.below (hW.mono hB)) (by have := hW.size; omega) (by omega) (by omega) (by omega) hs.1 (by omega)).mono fun _ _ h => h.lens (m0 := y.s.length) (m1 := y.w.length) (m2 := y.p.length) rfl (at_lenR y s) rfl)
  have HSo := Lib.hid (fun W D0 D1 D2 d0 d1 d2 s (hz : YdAt W W.heap.size D0 D1 D2 y.s.length y.w.length y.p.length (y.at s)) => Sound_any W.heap.size D0 D1 D2 _ _ _ d0 d1 d2 (y.at s) W hz (Nat.le_refl _) (hP.at s))
  have HHo := Lib.hid (fun W D0 D1 D2 d0 d1 d2 s (hz : YdAt W W.heap.size D0 D1 D2 y.s.length y.w.length y.p.length (y.at s)) => rHolds_any W.heap.size D0 D1 D2 _ _ _ d0 d1 d2 (y.at s) W hz (Nat.le_refl _) (hP.at s) gk gs hk h0)
  have HWh := Lib.hid (fun W D0 D1 D2 d0 d1 d2 s (hz : YdAt W W.heap.size D0 D1 D2 y.s.length y.w.length y.p.length (y.at s)) k (hk : k < y.w.length) => rWhy_any W.heap.size D0 D1 D2 _ _ _ d0 d1 d2 (y.at s) W hz (Nat.le_refl _) (hP.at s) k (by show k < (withL y.w s).length; rw [withL_len]; exact hk))
  have HMv := Lib.hid (fun W D0 D1 D2 d0 d1 d2 s (hz : YdAt W W.heap.size D0 D1 D2 y.s.length y.w.length y.p.length (y.at s)) k (hk : k < y.w.length) => (rMoved_any W.heap.size D0 D1 D2 _ _ _ d0 d1 d2 (y.at s) k W hz (Nat.le_refl _) (by omega) (by omega) (by omega) (by show k < (withL y.w s).length; rw [withL_len]; exact hk)).mono fun _ _ h => h.lens (m0 := y.s.length) (m1 := y.w.length) (m2 := y.p.length) rfl (mv_lenR y s k) rfl)
  have HSm := Lib.hid (fun W D0 D1 D2 d0 d1 d2 s k (hz : YdAt W W.heap.size D0 D1 D2 y.s.length y.w.length y.p.length ((y.at s).mv k)) => rState_any W.heap.size D0 D1 D2 y.s.length y.w.length y.p.length d0 d1 d2 ((y.at s).mv k) W hz (Nat.le_refl _) (by omega))
  have HL0 := Lib.hid hl0
  have HL1 := Lib.hid hl1
  have HL2 := Lib.hid hl2
  have HR := Lib.hid hr
  have HLA := Lib.hid hla
  have HLL := Lib.hid hll
  clear hY hP hl0 hl1 hl2 hr hla hp9 HSt'
  by_cases hbig : 256 < n
  · have HV := Lib.hid (barrR_big (y := y) (gk := gk) (gs := gs) (l := l) (by rw [hll]; exact hbig))
    have hbi : (256 : Int) < (n : Int) := by omega
    clear hbig
    go_enter Tryz.func25, Tryz.ntmps25
    go_wp2_with fail
    go_ret
    exact ⟨by rw [HV.out]; rfl, bl_⟩
  · have hbi : ¬ (256 : Int) < (n : Int) := by omega
    have HV1 := Lib.hid (fun h2 => barrR_sts (y := y) (gk := gk) (gs := gs) (l := l) (by rw [hll]; exact hbig) h2)
    have HV2 := Lib.hid (fun h2 => barrR_ok (y := y) (gk := gk) (gs := gs) (l := l) (by rw [hll]; exact hbig) h2)
    rw [HL1.out] at HV1 HV2
    clear hbig hll
    go_enter Tryz.func25, Tryz.ntmps25
    go_wp2_with fail
    go_loopw [7] (fun i wr => ∃ (k : Nat) (last : Int), k ≤ n ∧ i = .int .i64 k ∧ Hid (stsE n1 (-1) l = stsE n1 last (l.drop k)) ∧ Hid (k = 0 ∧ last = -1 ∨ 0 < k ∧ l[k - 1]? = some last) ∧ Blk wr w.heap.size 26 #[.slice A0 n0 c0, .slice A1 n1 c1, .slice A2 n2 c2] ∧ Blk wr (w.heap.size + 1) 28 #[.string gk, .string gs] ∧ Below w.heap.size w wr) (fun i _ => n - (intOf i).toNat)
    case atStart => exact ⟨0, -1, by omega, rfl, Lib.hid rfl, Lib.hid (.inl ⟨rfl, rfl⟩), bk_, bk_, bl_⟩
    case round =>
      obtain ⟨k, last, hkn, rfl, hq, hlast, bY, bG, hb⟩ := hrel
      have hsr := hb.size
      have cY := bY.cell
      have lY := bY.lt
      have cG := bG.cell
      have lG := bG.lt
      have BY := Lib.hid bY
      have BG := Lib.hid bG
      clear bY bG
      by_cases hlt : k < n
      · have hkl : k < l.length := by rw [HLL.out]; exact hlt
        obtain ⟨b, o, eA, hbb, hcs⟩ := HR.out.2 (by omega)
        have hD : Hid (l.drop k = l[k] :: l.drop (k + 1)) := List.drop_eq_getElem_cons hkl
        have hK : Hid (l[k]? = some l[k]) := List.getElem?_eq_getElem hkl
        have kb : ∀ i, wr.cell? ⟨b, i, none⟩ = w.cell? ⟨b, i, none⟩ := fun i => hb.cell (p := ⟨b, i, none⟩) (by simp; omega)
        have hbw : b < wr.heap.size := by omega
        have z0 := (kb _).trans (hcs k (.int .i64 l[k]) (by simp [hkl]))
        have z1 := Lib.hid (fun j u (hj : l[j]? = some u) => (kb _).trans (hcs j (.int .i64 u) (by simp [hj])))
        clear kb hcs
        subst eA
        have HCk := Lib.hid (fun W => HC.out W l[k])
        generalize l[k] = s at *
        cases hs : (stE n1 s != 0) with
        | true =>
          have hs' : stE n1 s ≠ 0 := by simpa using hs
          have hv : barrR y gk gs l = stE n1 s := by
            have e : stsE n1 (-1) l = stE n1 s := by rw [hq.out, hD.out, stsE_bad hs']
            rw [HV1.out (by rw [e]; exact hs'), e]
          have HV := Lib.hid hv
          clear hv hs' hq hlast hD hK z1
          generalize stE n1 s = ee at *
          go_wp2_with fail
          (refine wp_region_calm [] [0, 1, 2, 3, 4, 5] 1 (by kernel_rfl) rfl (by kernel_rfl) (by kernel_rfl) (by kernel_rfl) ?_; simp only [pickB, List.filterMap_cons, List.filterMap_nil, List.getElem?_toArray, List.getElem?_cons_zero, List.getElem?_cons_succ]; (repeat (first | ((with_reducible refine quietL_plain rfl (fun K hK => ?_)); (apply Exists.intro; refine ⟨fun wx hx => ?_, ?_⟩; (· (have hcx := ifs_ex hx); simp [go_sem, *, ↓IntWalk.iteOmega] <;> (first | rfl | exact ⟨rfl, rfl⟩ | (have hbx := Ex.belowW hx; exact calls_B (HCk.out _)))); (simp only [Act.put, List.setIfInBounds_toArray, List.set_cons_zero, List.set_cons_succ]; refine hK _ ?_; clear hK K))) | ((with_reducible refine quietL_skip (by with_unfolding_all rfl) ?_); simp only [Act.put, List.setIfInBounds_toArray, List.set_cons_zero, List.set_cons_succ]) | ((with_reducible refine quietL_want (by with_unfolding_all rfl) (fun K hK => ?_)); (apply Exists.intro; refine ⟨fun wx hx => ?_, ?_⟩; (· (have hcx := ifs_ex hx); simp [go_sem, *, ↓IntWalk.iteOmega] <;> (first | rfl | exact ⟨rfl, rfl⟩ | (have hbx := Ex.belowW hx; exact calls_B (HCk.out _)))); (simp only [Act.put, List.setIfInBounds_toArray, List.set_cons_zero, List.set_cons_succ]; refine hK _ ?_; clear hK K))))); refine quietL_nil ?_)
          (refine anyB_one (i := 6) (by kernel_rfl) rfl rfl ?_; intro w2 hb2 K hK; obtain ⟨hc2, hf2⟩ := ifs_of hb2; have hs2 := hb2.size; (try simp at hs2); go_wp2; refine ⟨xs_, ?_⟩)
          (refine anyB_end (by kernel_rfl) ?_; intro w3 hb3; obtain ⟨hc3, hf3⟩ := ifs_of hb3; have hs3 := hb3.size; (try simp at hs3); simp only [Calm]; go_wp2_with fail)
          go_ret
          exact ⟨by rw [HV.out]; rfl, bl_⟩
        | false =>
          have hs' : stE n1 s = 0 := by simpa using hs
          rw [hs'] at HCk
          rcases hlast.out with ⟨rfl, rfl⟩ | ⟨hk0, hlk⟩
          · simp only [Nat.add_zero] at z0
            have HN : Hid (stsE n1 (-1) l = stsE n1 s (l.drop 1)) := by
              show _ = _
              rw [hq.out, hD.out, stsE_next hs' (by have := (stE_zero hs').1; omega)]
            clear hq hlast hD z1 hs hs'
            go_wp2_with fail
            (refine wp_region_calm [] [0, 1, 2, 3, 4, 5] 1 (by kernel_rfl) rfl (by kernel_rfl) (by kernel_rfl) (by kernel_rfl) ?_; simp only [pickB, List.filterMap_cons, List.filterMap_nil, List.getElem?_toArray, List.getElem?_cons_zero, List.getElem?_cons_succ]; (repeat (first | ((with_reducible refine quietL_plain rfl (fun K hK => ?_)); (apply Exists.intro; refine ⟨fun wx hx => ?_, ?_⟩; (· (have hcx := ifs_ex hx); simp [go_sem, *, ↓IntWalk.iteOmega] <;> (first | rfl | exact ⟨rfl, rfl⟩ | (have hbx := Ex.belowW hx; exact calls_B (HCk.out _)))); (simp only [Act.put, List.setIfInBounds_toArray, List.set_cons_zero, List.set_cons_succ]; refine hK _ ?_; clear hK K))) | ((with_reducible refine quietL_skip (by with_unfolding_all rfl) ?_); simp only [Act.put, List.setIfInBounds_toArray, List.set_cons_zero, List.set_cons_succ]) | ((with_reducible refine quietL_want (by with_unfolding_all rfl) (fun K hK => ?_)); (apply Exists.intro; refine ⟨fun wx hx => ?_, ?_⟩; (· (have hcx := ifs_ex hx); simp [go_sem, *, ↓IntWalk.iteOmega] <;> (first | rfl | exact ⟨rfl, rfl⟩ | (have hbx := Ex.belowW hx; exact calls_B (HCk.out _)))); (simp only [Act.put, List.setIfInBounds_toArray, List.set_cons_zero, List.set_cons_succ]; refine hK _ ?_; clear hK K))))); refine quietL_nil ?_)
            (refine anyB_one (i := 6) (by kernel_rfl) rfl rfl ?_; intro w2 hb2 K hK; obtain ⟨hc2, hf2⟩ := ifs_of hb2; have hs2 := hb2.size; (try simp at hs2); go_wp2; refine ⟨xs_, ?_⟩)
            (refine anyB_end (by kernel_rfl) ?_; intro w3 hb3; obtain ⟨hc3, hf3⟩ := ifs_of hb3; have hs3 := hb3.size; (try simp at hs3); simp only [Calm]; go_wp2_with fail)
            (refine wp_region_calm [] [0, 1, 2, 3, 4, 5, 6, 7, 8, 9, 10, 11, 12, 13] 0 (by kernel_rfl) rfl (by kernel_rfl) (by kernel_rfl) (by kernel_rfl) ?_; simp only [pickB, List.filterMap_cons, List.filterMap_nil, List.getElem?_toArray, List.getElem?_cons_zero, List.getElem?_cons_succ]; (repeat (first | ((with_reducible refine quietL_plain rfl (fun K hK => ?_)); (apply Exists.intro; refine ⟨fun wx hx => ?_, ?_⟩; (· (have hcx := ifs_ex hx); simp [go_sem, *, ↓IntWalk.iteOmega] <;> (first | rfl | exact ⟨rfl, rfl⟩ | fail)); (simp only [Act.put, List.setIfInBounds_toArray, List.set_cons_zero, List.set_cons_succ]; refine hK _ ?_; clear hK K))) | ((with_reducible refine quietL_skip (by with_unfolding_all rfl) ?_); simp only [Act.put, List.setIfInBounds_toArray, List.set_cons_zero, List.set_cons_succ]) | ((with_reducible refine quietL_want (by with_unfolding_all rfl) (fun K hK => ?_)); (apply Exists.intro; refine ⟨fun wx hx => ?_, ?_⟩; (· (have hcx := ifs_ex hx); simp [go_sem, *, ↓IntWalk.iteOmega] <;> (first | rfl | exact ⟨rfl, rfl⟩ | fail)); (simp only [Act.put, List.setIfInBounds_toArray, List.set_cons_zero, List.set_cons_succ]; refine hK _ ?_; clear hK K))))); refine quietL_nil ?_)
            (refine anyB_end (by kernel_rfl) ?_; intro w4 hb4; obtain ⟨hc4, hf4⟩ := ifs_of hb4; have hs4 := hb4.size; (try simp at hs4); simp only [Calm]; go_wp2_with fail)
            go_roundw
            case rel => exact ⟨1, s, by omega, by go_num, HN, Lib.hid (.inr ⟨by omega, hK.out⟩), BY.out.kept bl_, BG.out.kept bl_, bl_⟩
            case measure => simp [intOf]; omega
          · obtain ⟨j, rfl⟩ : ∃ j, k = j + 1 := ⟨k - 1, by omega⟩
            simp only [Nat.add_sub_cancel] at hlk
            have hwj : IntKind.i64.wrap (j : Int) = (j : Int) := by simp [IntKind.wrap, IntKind.bits, IntKind.signed]; omega
            have z2 := z1.out j last hlk
            by_cases hle : s ≤ last
            · have hv : barrR y gk gs l = 11 := by
                have e : stsE n1 (-1) l = 11 := by rw [hq.out, hD.out, stsE_low hs' hle]
                rw [HV1.out (by rw [e]; decide), e]
              have HV := Lib.hid hv
              clear hv hs' hq hlast hD hK z1 hs hlk
              go_wp2_with fail
              (refine wp_region_calm [] [0, 1, 2, 3, 4, 5] 1 (by kernel_rfl) rfl (by kernel_rfl) (by kernel_rfl) (by kernel_rfl) ?_; simp only [pickB, List.filterMap_cons, List.filterMap_nil, List.getElem?_toArray, List.getElem?_cons_zero, List.getElem?_cons_succ]; (repeat (first | ((with_reducible refine quietL_plain rfl (fun K hK => ?_)); (apply Exists.intro; refine ⟨fun wx hx => ?_, ?_⟩; (· (have hcx := ifs_ex hx); simp [go_sem, *, ↓IntWalk.iteOmega] <;> (first | rfl | exact ⟨rfl, rfl⟩ | (have hbx := Ex.belowW hx; exact calls_B (HCk.out _)))); (simp only [Act.put, List.setIfInBounds_toArray, List.set_cons_zero, List.set_cons_succ]; refine hK _ ?_; clear hK K))) | ((with_reducible refine quietL_skip (by with_unfolding_all rfl) ?_); simp only [Act.put, List.setIfInBounds_toArray, List.set_cons_zero, List.set_cons_succ]) | ((with_reducible refine quietL_want (by with_unfolding_all rfl) (fun K hK => ?_)); (apply Exists.intro; refine ⟨fun wx hx => ?_, ?_⟩; (· (have hcx := ifs_ex hx); simp [go_sem, *, ↓IntWalk.iteOmega] <;> (first | rfl | exact ⟨rfl, rfl⟩ | (have hbx := Ex.belowW hx; exact calls_B (HCk.out _)))); (simp only [Act.put, List.setIfInBounds_toArray, List.set_cons_zero, List.set_cons_succ]; refine hK _ ?_; clear hK K))))); refine quietL_nil ?_)
              (refine anyB_one (i := 6) (by kernel_rfl) rfl rfl ?_; intro w2 hb2 K hK; obtain ⟨hc2, hf2⟩ := ifs_of hb2; have hs2 := hb2.size; (try simp at hs2); go_wp2; refine ⟨xs_, ?_⟩)
              (refine anyB_end (by kernel_rfl) ?_; intro w3 hb3; obtain ⟨hc3, hf3⟩ := ifs_of hb3; have hs3 := hb3.size; (try simp at hs3); simp only [Calm]; go_wp2_with fail)
              (refine wp_region_calm [] [0, 1, 2, 3, 4, 5, 6, 7, 8, 9, 10, 11, 12, 13] 0 (by kernel_rfl) rfl (by kernel_rfl) (by kernel_rfl) (by kernel_rfl) ?_; simp only [pickB, List.filterMap_cons, List.filterMap_nil, List.getElem?_toArray, List.getElem?_cons_zero, List.getElem?_cons_succ]; (repeat (first | ((with_reducible refine quietL_plain rfl (fun K hK => ?_)); (apply Exists.intro; refine ⟨fun wx hx => ?_, ?_⟩; (· (have hcx := ifs_ex hx); simp [go_sem, *, ↓IntWalk.iteOmega] <;> (first | rfl | exact ⟨rfl, rfl⟩ | fail)); (simp only [Act.put, List.setIfInBounds_toArray, List.set_cons_zero, List.set_cons_succ]; refine hK _ ?_; clear hK K))) | ((with_reducible refine quietL_skip (by with_unfolding_all rfl) ?_); simp only [Act.put, List.setIfInBounds_toArray, List.set_cons_zero, List.set_cons_succ]) | ((with_reducible refine quietL_want (by with_unfolding_all rfl) (fun K hK => ?_)); (apply Exists.intro; refine ⟨fun wx hx => ?_, ?_⟩; (· (have hcx := ifs_ex hx); simp [go_sem, *, ↓IntWalk.iteOmega] <;> (first | rfl | exact ⟨rfl, rfl⟩ | fail)); (simp only [Act.put, List.setIfInBounds_toArray, List.set_cons_zero, List.set_cons_succ]; refine hK _ ?_; clear hK K))))); refine quietL_nil ?_)
              (refine anyB_end (by kernel_rfl) ?_; intro w4 hb4; obtain ⟨hc4, hf4⟩ := ifs_of hb4; have hs4 := hb4.size; (try simp at hs4); simp only [Calm]; go_wp2_with fail)
              go_ret
              exact ⟨by rw [HV.out]; rfl, bl_⟩
            · have HN : Hid (stsE n1 (-1) l = stsE n1 s (l.drop (j + 1 + 1))) := by
                show _ = _
                rw [hq.out, hD.out, stsE_next hs' hle]
              clear hq hlast hD z1 hs hs' hlk
              go_wp2_with fail
              (refine wp_region_calm [] [0, 1, 2, 3, 4, 5] 1 (by kernel_rfl) rfl (by kernel_rfl) (by kernel_rfl) (by kernel_rfl) ?_; simp only [pickB, List.filterMap_cons, List.filterMap_nil, List.getElem?_toArray, List.getElem?_cons_zero, List.getElem?_cons_succ]; (repeat (first | ((with_reducible refine quietL_plain rfl (fun K hK => ?_)); (apply Exists.intro; refine ⟨fun wx hx => ?_, ?_⟩; (· (have hcx := ifs_ex hx); simp [go_sem, *, ↓IntWalk.iteOmega] <;> (first | rfl | exact ⟨rfl, rfl⟩ | (have hbx := Ex.belowW hx; exact calls_B (HCk.out _)))); (simp only [Act.put, List.setIfInBounds_toArray, List.set_cons_zero, List.set_cons_succ]; refine hK _ ?_; clear hK K))) | ((with_reducible refine quietL_skip (by with_unfolding_all rfl) ?_); simp only [Act.put, List.setIfInBounds_toArray, List.set_cons_zero, List.set_cons_succ]) | ((with_reducible refine quietL_want (by with_unfolding_all rfl) (fun K hK => ?_)); (apply Exists.intro; refine ⟨fun wx hx => ?_, ?_⟩; (· (have hcx := ifs_ex hx); simp [go_sem, *, ↓IntWalk.iteOmega] <;> (first | rfl | exact ⟨rfl, rfl⟩ | (have hbx := Ex.belowW hx; exact calls_B (HCk.out _)))); (simp only [Act.put, List.setIfInBounds_toArray, List.set_cons_zero, List.set_cons_succ]; refine hK _ ?_; clear hK K))))); refine quietL_nil ?_)
              (refine anyB_one (i := 6) (by kernel_rfl) rfl rfl ?_; intro w2 hb2 K hK; obtain ⟨hc2, hf2⟩ := ifs_of hb2; have hs2 := hb2.size; (try simp at hs2); go_wp2; refine ⟨xs_, ?_⟩)
              (refine anyB_end (by kernel_rfl) ?_; intro w3 hb3; obtain ⟨hc3, hf3⟩ := ifs_of hb3; have hs3 := hb3.size; (try simp at hs3); simp only [Calm]; go_wp2_with fail)
              (refine wp_region_calm [] [0, 1, 2, 3, 4, 5, 6, 7, 8, 9, 10, 11, 12, 13] 0 (by kernel_rfl) rfl (by kernel_rfl) (by kernel_rfl) (by kernel_rfl) ?_; simp only [pickB, List.filterMap_cons, List.filterMap_nil, List.getElem?_toArray, List.getElem?_cons_zero, List.getElem?_cons_succ]; (repeat (first | ((with_reducible refine quietL_plain rfl (fun K hK => ?_)); (apply Exists.intro; refine ⟨fun wx hx => ?_, ?_⟩; (· (have hcx := ifs_ex hx); simp [go_sem, *, ↓IntWalk.iteOmega] <;> (first | rfl | exact ⟨rfl, rfl⟩ | fail)); (simp only [Act.put, List.setIfInBounds_toArray, List.set_cons_zero, List.set_cons_succ]; refine hK _ ?_; clear hK K))) | ((with_reducible refine quietL_skip (by with_unfolding_all rfl) ?_); simp only [Act.put, List.setIfInBounds_toArray, List.set_cons_zero, List.set_cons_succ]) | ((with_reducible refine quietL_want (by with_unfolding_all rfl) (fun K hK => ?_)); (apply Exists.intro; refine ⟨fun wx hx => ?_, ?_⟩; (· (have hcx := ifs_ex hx); simp [go_sem, *, ↓IntWalk.iteOmega] <;> (first | rfl | exact ⟨rfl, rfl⟩ | fail)); (simp only [Act.put, List.setIfInBounds_toArray, List.set_cons_zero, List.set_cons_succ]; refine hK _ ?_; clear hK K))))); refine quietL_nil ?_)
              (refine anyB_end (by kernel_rfl) ?_; intro w4 hb4; obtain ⟨hc4, hf4⟩ := ifs_of hb4; have hs4 := hb4.size; (try simp at hs4); simp only [Calm]; go_wp2_with fail)
              go_roundw
              case rel => exact ⟨j + 1 + 1, s, by omega, by go_num, HN, Lib.hid (.inr ⟨by omega, hK.out⟩), BY.out.kept bl_, BG.out.kept bl_, bl_⟩
              case measure => simp [intOf]; omega
      · obtain rfl : n = k := by omega
        have HS0 : Hid (stsE n1 (-1) l = 0) := by
          show _ = _
          rw [hq.out, List.drop_of_length_le (by rw [HLL.out]; exact Nat.le_refl _)]
          rfl
        have HV := Lib.hid (HV2.out HS0.out)
        have HIn := Lib.hid (fun s (hs : s ∈ l) => stsE_zero HS0.out s hs)
        clear hq hlast HV1 HV2 HS0
        have HHI := Lib.hid (fun W (hW : Below w.heap.size w W) => HasInt_any B A n c l (y0 y) W (HR.out.below (hW.mono hB)) (by unfold maxLen; omega))
        generalize y0 y = z0 at *
        cases hh : hasI l z0 with
        | false =>
          rw [hh] at HHI
          have HQ : Hid (whenE (leakB y gk gs l || !false) 19 = 19) := by show _ = _; simp [whenE]
          go_wp2_with fail
          refine (HSt.out _ bl_).mono ?_
          (rintro e w2 ⟨rfl, hb2⟩; have hs2 := hb2.size; (try simp at hs2))
          obtain ⟨hc2, hf2⟩ := ifs_of hb2; have hs2 := hb2.size; (try simp at hs2)
          go_wp2_with fail
          refine (HHI.out _ bl_).mono ?_
          rintro e w3 ⟨rfl, rfl⟩
          go_wp2_with fail
          go_ret
          exact ⟨by rw [HV.out, hh, HQ.out]; rfl, bl_⟩
        | true =>
          rw [hh] at HHI
          have HVT : Hid (barrR y gk gs l = whenE (leakB y gk gs l) 19) := by show _ = _; rw [HV.out, hh]; simp
          clear HV hh
          go_wp2_with fail
          refine (HSt.out _ bl_).mono ?_
          (rintro e w2 ⟨rfl, hb2⟩; have hs2 := hb2.size; (try simp at hs2))
          obtain ⟨hc2, hf2⟩ := ifs_of hb2; have hs2 := hb2.size; (try simp at hs2)
          go_wp2_with fail
          refine (HHI.out _ bl_).mono ?_
          rintro e w3 ⟨rfl, rfl⟩
          go_wp2_with fail
          go_loopw [9] (fun i wr => ∃ k : Nat, k ≤ n ∧ i = .int .i64 k ∧ Hid ((l.take k).any (fun s => !closedB y gk gs s l) = false) ∧ Blk wr w.heap.size 26 #[.slice A0 n0 c0, .slice A1 n1 c1, .slice A2 n2 c2] ∧ Blk wr (w.heap.size + 1) 28 #[.string gk, .string gs] ∧ Below w.heap.size w wr) (fun i _ => n - (intOf i).toNat)
          case atStart => exact ⟨0, by omega, rfl, Lib.hid rfl, BY.out.kept bl_, BG.out.kept bl_, bl_⟩
          case round =>
            clear cY lY cG lG BY BG hb hsr hb2 hs2 hc2 hf2 HHI HSt
            obtain ⟨k, hkn, rfl, hq, bY, bG, hb⟩ := hrel
            have hsr := hb.size
            have cY := bY.cell
            have lY := bY.lt
            have cG := bG.cell
            have lG := bG.lt
            have BY := Lib.hid bY
            have BG := Lib.hid bG
            clear bY bG
            by_cases hlt : k < n
            · have hkl : k < l.length := by rw [HLL.out]; exact hlt
              obtain ⟨b, o, eA, hbb, hcs⟩ := HR.out.2 (by omega)
              have kb : ∀ i, wr.cell? ⟨b, i, none⟩ = w.cell? ⟨b, i, none⟩ := fun i => hb.cell (p := ⟨b, i, none⟩) (by simp; omega)
              have hbw : b < wr.heap.size := by omega
              have z0 := (kb _).trans (hcs k (.int .i64 l[k]) (by simp [hkl]))
              clear kb hcs
              subst eA
              have HT := Lib.hid (any_take (fun s => !closedB y gk gs s l) l k hkl)
              have HNo := Lib.hid (any_yes (p := fun s => !closedB y gk gs s l) hkl)
              have hsr2 := HIn.out _ (List.getElem_mem hkl)
              (try dsimp only at HT HNo)
              have HCB : Hid (∀ s, closedB y gk gs s l = (soundB (y.at s) && !holdsB gk gs (y.at s) && closedTo y s l y.w.length)) := fun _ => rfl
              have HLk : Hid (leakB y gk gs l = l.any (fun s => !closedB y gk gs s l)) := Lib.hid rfl
              generalize l[k] = s at *
              have HWs := Lib.hid (fun W hW => HWi.out W hW s hsr2)
              go_wp2_with fail
              (refine wp_region_calm [] [0, 1, 2, 3, 4] 3 (by kernel_rfl) rfl (by kernel_rfl) (by kernel_rfl) (by kernel_rfl) ?_; simp only [pickB, List.filterMap_cons, List.filterMap_nil, List.getElem?_toArray, List.getElem?_cons_zero, List.getElem?_cons_succ]; (repeat (first | ((with_reducible refine quietL_plain rfl (fun K hK => ?_)); (apply Exists.intro; refine ⟨fun wx hx => ?_, ?_⟩; (· (have hcx := ifs_ex hx); simp [go_sem, *, ↓IntWalk.iteOmega] <;> (first | rfl | exact ⟨rfl, rfl⟩ | fail)); (simp only [Act.put, List.setIfInBounds_toArray, List.set_cons_zero, List.set_cons_succ]; refine hK _ ?_; clear hK K))) | ((with_reducible refine quietL_skip (by with_unfolding_all rfl) ?_); simp only [Act.put, List.setIfInBounds_toArray, List.set_cons_zero, List.set_cons_succ]) | ((with_reducible refine quietL_want (by with_unfolding_all rfl) (fun K hK => ?_)); (apply Exists.intro; refine ⟨fun wx hx => ?_, ?_⟩; (· (have hcx := ifs_ex hx); simp [go_sem, *, ↓IntWalk.iteOmega] <;> (first | rfl | exact ⟨rfl, rfl⟩ | fail)); (simp only [Act.put, List.setIfInBounds_toArray, List.set_cons_zero, List.set_cons_succ]; refine hK _ ?_; clear hK K))))); refine quietL_nil ?_)
              apply anyB_floatU 1 6 5 10 _ (AlF wr.heap.size 26 #[.slice none 0 0, .slice none 0 0, .slice none 0 0])
              case hn => rfl
              case hof => rfl
              case hoi => rfl
              case hgf => rfl
              case hgi => rfl
              case hk => exact AlF.kept
              case hT => decide +kernel
              case h0 => decide +kernel
              case hF => decide +kernel
              case hl => rfl
              case ha => first | rfl | simp [Act.put]
              case hL => rfl
              case hfl =>
                intro u W hW K hK
                have hsW := hW.size
                have h := hK (.pointer (some ⟨W.heap.size, 0, none⟩)) (W.alloc (.cells #[.slice none 0 0, .slice none 0 0, .slice none 0 0] 26)) xs_ ⟨_, rfl, Blk.new _ _ _, hsW⟩ bl_
                clear hK
                simp only [Act.put, List.setIfInBounds_toArray, List.set_cons_zero, List.set_cons_succ] at h ⊢
                go_wp2
                exact h
              case hst =>
                intro p u W fuel hf hu hW K hK
                have hsW := hW.size
                simp only [Act.put, List.setIfInBounds_toArray, List.set_cons_zero, List.set_cons_succ]
                go_wp2_with fail
                refine (HWs.out _ bl_).mono ?_
                rintro e W1 ⟨D0, D1, D2, d0, d1, d2, rfl, hO, hb1⟩
                have hs1 := hb1.size
                go_wp2
                refine ⟨xs_, ?_⟩
                show anyB _ _ _ _ _ _ fuel #[true, true, true, true, true, true, p, false] _ _
                apply anyB_flw (c := 1) (f := 6) (L := fun p => #[true, true, true, true, true, true, p, false]) (F := AlG wr.heap.size W.heap.size W1.heap.size 26 #[.slice none 0 0, .slice none 0 0, .slice none 0 0]) (fuel := fuel) (u := u) (W := W1)
                case hF => decide +kernel
                case hof => rfl
                case hgf => rfl
                case hL => rfl
                case a => exact hf
                case a => exact fun h => (hu h).to hb1
                case a => exact Below.refl _ _
                case hfl =>
                  intro u W2 hW2 K hK
                  have hsW2 := hW2.size
                  have h := hK (.pointer (some ⟨W2.heap.size, 0, none⟩)) (W2.alloc (.cells #[.slice none 0 0, .slice none 0 0, .slice none 0 0] 26)) xs_ ⟨_, rfl, Blk.new _ _ _, by omega, .inr hsW2⟩ bl_
                  clear hK
                  go_wp2
                  exact h
                case hst =>
                  clear hu hf
                  intro u W2 hu2 hW2
                  obtain ⟨b5, rfl, B5, l5, d5⟩ := hu2
                  have hzr := YdR.of_row (X := [b5]) hO (fun x hx => by simp at hx; subst hx; omega)
                  rw [at_lenR] at hzr
                  have HZR := Lib.hid (hzr : YdR [b5] W1 (y.at s) D0 D1 D2 y.s.length y.w.length y.p.length)
                  have hsW2 := hW2.size
                  clear hO hzr
                  show anyB _ _ _ _ _ _ 1 #[true, true, true, true, true, true, true, false] _ _
                  refine anyB_one (i := 7) (by kernel_rfl) rfl rfl ?_
                  intro w4 hb4 K hK
                  have hs4 := hb4.size
                  have k5 := B5.kept hb4
                  have c5 := k5.cell
                  have f5 := k5.frozen
                  have l5' := k5.lt
                  have hbw4 := Lib.hid (bl_ : Below wr.heap.size wr w4)
                  go_wp2
                  refine ⟨xs_, ?_⟩
                  refine anyB_end (by kernel_rfl) ?_
                  intro w6 hb6
                  have hs6 : w4.heap.size ≤ w6.heap.size := by have := hb6.size; simpa [World.setCell] using this
                  have B5 := Lib.hid ((k5.set3 (.slice D0 y.s.length d0) (.slice D1 y.w.length d1) (.slice D2 y.p.length d2)).kept hb6)
                  have HBw := Lib.hid ((below_set3 hbw4.out l5 (.slice D0 y.s.length d0) (.slice D1 y.w.length d1) (.slice D2 y.p.length d2)).trans (hb6.mono (by have := hbw4.out.size; simp [World.setCell]; omega)))
                  have HZ6 := Lib.hid (HZR.out w6 xs_)
                  have hb := hb.trans (HBw.out.mono hsr)
                  have BY := Lib.hid (BY.out.kept HBw.out)
                  have BG := Lib.hid (BG.out.kept HBw.out)
                  simp only [Calm]
                  clear hb6 hb4 hbw4 k5 c5 f5 l5' HZR hW2 hb1 hW hs1 hsW2 hs4 cY lY cG lG hbw z0 d5 HWs
                  have hs6r := hb.size
                  have cY := BY.out.cell
                  have lY := BY.out.lt
                  have cG := BG.out.cell
                  have lG := BG.out.lt
                  have c5 := B5.out.cell
                  have l5 := B5.out.lt
                  have HSos := Lib.hid (fun W D0 D1 D2 d0 d1 d2 hz => HSo.out W D0 D1 D2 d0 d1 d2 s hz)
                  have HHos := Lib.hid (fun W D0 D1 D2 d0 d1 d2 hz => HHo.out W D0 D1 D2 d0 d1 d2 s hz)
                  cases hso : soundB (y.at s) with
                  | false =>
                    rw [hso] at HSos
                    go_wp2_with fail
                    refine (HSos.out _ _ _ _ _ _ _ HZ6.out).mono ?_
                    (rintro e w7 ⟨rfl, hb7⟩; have hs7 := hb7.size; (try simp at hs7))
                    go_wp2_with fail
                    go_ret
                    exact ⟨by rw [HVT.out, HLk.out, HNo.out (by rw [HCB.out, hso]; rfl)]; rfl, bl_⟩
                  | true =>
                    rw [hso] at HSos
                    cases hho : holdsB gk gs (y.at s) with
                    | true =>
                      rw [hho] at HHos
                      go_wp2_with fail
                      refine (HSos.out _ _ _ _ _ _ _ HZ6.out).mono ?_
                      (rintro e w7 ⟨rfl, hb7⟩; have hs7 := hb7.size; (try simp at hs7))
                      have HZ7 := Lib.hid ((HZ6.out.below hb7).more hb7.size)
                      have B57 := B5.out.kept hb7
                      have BG7 := BG.out.kept hb7
                      replace c5 := B57.cell
                      replace l5 := B57.lt
                      replace cG := BG7.cell
                      replace lG := BG7.lt
                      clear B57 BG7
                      go_wp2_with fail
                      refine (HHos.out _ _ _ _ _ _ _ HZ7.out).mono ?_
                      (rintro e w8 ⟨rfl, hb8⟩; have hs8 := hb8.size; (try simp at hs8))
                      go_wp2_with fail
                      go_ret
                      exact ⟨by rw [HVT.out, HLk.out, HNo.out (by rw [HCB.out, hso, hho]; rfl)]; rfl, bl_⟩
                    | false =>
                      rw [hho] at HHos
                      go_wp2_with fail
                      refine (HSos.out _ _ _ _ _ _ _ HZ6.out).mono ?_
                      (rintro e w7 ⟨rfl, hb7⟩; have hs7 := hb7.size; (try simp at hs7))
                      have HZ7 := Lib.hid ((HZ6.out.below hb7).more hb7.size)
                      have B57 := B5.out.kept hb7
                      have BG7 := BG.out.kept hb7
                      replace c5 := B57.cell
                      replace l5 := B57.lt
                      replace cG := BG7.cell
                      replace lG := BG7.lt
                      clear B57 BG7
                      go_wp2_with fail
                      refine (HHos.out _ _ _ _ _ _ _ HZ7.out).mono ?_
                      (rintro e w8 ⟨rfl, hb8⟩; have hs8 := hb8.size; (try simp at hs8))
                      have B5 := Lib.hid ((B5.out.kept hb7).kept hb8)
                      have BY := Lib.hid ((BY.out.kept hb7).kept hb8)
                      have BG := Lib.hid ((BG.out.kept hb7).kept hb8)
                      have HZ8 := Lib.hid ((HZ7.out.below hb8).more hb8.size)
                      have hb := (hb.trans (hb7.mono hs6r)).trans (hb8.mono (by omega))
                      clear cY lY cG lG c5 l5 hb7 hb8 HSos HHos HZ6 HZ7
                      have hs8r := hb.size
                      go_wp2_with fail
                      go_loopw [11] (fun i wx => ∃ j : Nat, j ≤ n1 ∧ i = .int .i64 j ∧ Hid (closedTo y s l j = true) ∧ Below w8.heap.size w8 wx) (fun i _ => n1 - (intOf i).toNat)
                      case atStart => exact ⟨0, by omega, rfl, Lib.hid rfl, Below.refl _ _⟩
                      case round =>
                        obtain ⟨j, hj, rfl, hq2, hbx⟩ := hrel
                        have hsx := hbx.size
                        have k5 := B5.out.kept hbx
                        have c5 := k5.cell
                        have l5 := k5.lt
                        have kY := BY.out.kept hbx
                        have cY := kY.cell
                        have lY := kY.lt
                        have HZx := Lib.hid ((HZ8.out.below hbx).more hbx.size)
                        have hbwx := hb.trans (hbx.mono hs8r)
                        have BYx := Lib.hid kY
                        have BGx := Lib.hid (BG.out.kept hbx)
                        clear k5 kY
                        by_cases hltj : j < n1
                        · have hjy : j < y.w.length := by rw [HL1.out]; exact hltj
                          have HS2 := Lib.hid (closedTo_succ y s l j)
                          have HWj := Lib.hid (fun W D0 D1 D2 d0 d1 d2 hz => HWh.out W D0 D1 D2 d0 d1 d2 s hz j hjy)
                          have HMj := Lib.hid (fun W D0 D1 D2 d0 d1 d2 hz => HMv.out W D0 D1 D2 d0 d1 d2 s hz j hjy)
                          have HSj := Lib.hid (fun W D0 D1 D2 d0 d1 d2 hz => HSm.out W D0 D1 D2 d0 d1 d2 s j hz)
                          rw [st_next] at HSj
                          have HHI := Lib.hid (fun W (hW : Below w.heap.size w W) => HasInt_any B _ n c l (nextS y s j) W (HR.out.below (hW.mono hB)) (by unfold maxLen; omega))
                          have HNx := Lib.hid (nmL_nil (whyN_le (y.at s) j))
                          have HCF := Lib.hid (fun (h : closedTo y s l (j + 1) = false) => closedTo_false (n := y.w.length) h hjy)
                          unfold freeS at HS2
                          generalize nextS y s j = ns at *
                          cases hf : (whyN (y.at s) j == 0) with
                          | false =>
                            rw [hf] at HNx
                            have hnn := HNx.out
                            have HF : Hid (closedTo y s l (j + 1) = true) := by show _ = _; rw [HS2.out, hq2.out, hf]; simp
                            generalize nmL (whyN (y.at s) j) = v at *
                            go_wp2_with fail
                            refine (HWj.out _ _ _ _ _ _ _ HZx.out).mono ?_
                            (rintro e w9 ⟨rfl, hb9⟩; have hs9 := hb9.size; (try simp at hs9))
                            go_wp2_with fail
                            go_roundw
                            case rel => exact ⟨j + 1, by omega, by go_num, HF, bl_⟩
                            case measure => simp [intOf]; omega
                          | true =>
                            rw [hf] at HNx
                            have hnn := HNx.out
                            generalize nmL (whyN (y.at s) j) = v at *
                            cases hh : hasI l ns with
                            | true =>
                              rw [hh] at HHI
                              have HF : Hid (closedTo y s l (j + 1) = true) := by show _ = _; rw [HS2.out, hq2.out, hh]; rfl
                              go_wp2_with fail
                              refine (HWj.out _ _ _ _ _ _ _ HZx.out).mono ?_
                              (rintro e w9 ⟨rfl, hb9⟩; have hs9 := hb9.size; (try simp at hs9))
                              have HZ9 := Lib.hid ((HZx.out.below hb9).more hb9.size)
                              have k59 := B5.out.kept (hbx.trans (hb9.mono hbx.size))
                              replace c5 := k59.cell
                              replace l5 := k59.lt
                              clear k59 cY lY
                              go_wp2_with fail
                              refine (HMj.out _ _ _ _ _ _ _ HZ9.out).mono ?_
                              rintro e wa ⟨E0, E1, E2, e0, e1, e2, rfl, hO, hba⟩
                              have hsa := hba.size
                              have hza := hO.yd
                              rw [mv_lenR] at hza
                              have HZa := Lib.hid (show YdAt wa wa.heap.size E0 E1 E2 y.s.length y.w.length y.p.length ((y.at s).mv j) from hza)
                              clear hO hza c5 l5
                              go_wp2_with fail
                              refine (HSj.out _ _ _ _ _ _ _ HZa.out).mono ?_
                              (rintro e wb ⟨rfl, hbb⟩; have hsb := hbb.size; (try simp at hsb))
                              have hwb := hbwx.trans (((hb9.trans (hba.mono hb9.size)).trans (hbb.mono (by omega))).mono (by omega))
                              have hxb := hbx.trans (((hb9.trans (hba.mono hb9.size)).trans (hbb.mono (by omega))).mono hbx.size)
                              go_wp2_with fail
                              refine (HHI.out _ hwb).mono ?_
                              rintro e wc ⟨rfl, rfl⟩
                              go_wp2_with fail
                              go_roundw
                              case rel => exact ⟨j + 1, by omega, by go_num, HF, hxb⟩
                              case measure => simp [intOf]; omega
                            | false =>
                              rw [hh] at HHI
                              have HF : Hid (closedTo y s l y.w.length = false) := by show _ = _; exact HCF.out (by rw [HS2.out, hh, hf]; simp)
                              go_wp2_with fail
                              refine (HWj.out _ _ _ _ _ _ _ HZx.out).mono ?_
                              (rintro e w9 ⟨rfl, hb9⟩; have hs9 := hb9.size; (try simp at hs9))
                              have HZ9 := Lib.hid ((HZx.out.below hb9).more hb9.size)
                              have k59 := B5.out.kept (hbx.trans (hb9.mono hbx.size))
                              replace c5 := k59.cell
                              replace l5 := k59.lt
                              clear k59 cY lY
                              go_wp2_with fail
                              refine (HMj.out _ _ _ _ _ _ _ HZ9.out).mono ?_
                              rintro e wa ⟨E0, E1, E2, e0, e1, e2, rfl, hO, hba⟩
                              have hsa := hba.size
                              have hza := hO.yd
                              rw [mv_lenR] at hza
                              have HZa := Lib.hid (show YdAt wa wa.heap.size E0 E1 E2 y.s.length y.w.length y.p.length ((y.at s).mv j) from hza)
                              clear hO hza c5 l5
                              go_wp2_with fail
                              refine (HSj.out _ _ _ _ _ _ _ HZa.out).mono ?_
                              (rintro e wb ⟨rfl, hbb⟩; have hsb := hbb.size; (try simp at hsb))
                              have hwb := hbwx.trans (((hb9.trans (hba.mono hb9.size)).trans (hbb.mono (by omega))).mono (by omega))
                              have hxb := hbx.trans (((hb9.trans (hba.mono hb9.size)).trans (hbb.mono (by omega))).mono hbx.size)
                              go_wp2_with fail
                              refine (HHI.out _ hwb).mono ?_
                              rintro e wc ⟨rfl, rfl⟩
                              go_wp2_with fail
                              go_ret
                              exact ⟨by rw [HVT.out, HLk.out, HNo.out (by rw [HCB.out, HF.out, Bool.and_false]; rfl)]; rfl, hwb⟩
                        · obtain rfl : n1 = j := by omega
                          have HF : Hid ((l.take (k + 1)).any (fun s => !closedB y gk gs s l) = false) := by
                            show _ = _
                            rw [HT.out, hq.out, HCB.out, hso, hho, HL1.out, hq2.out]
                            rfl
                          go_wp2_with fail
                          go_roundw
                          case rel => exact ⟨k + 1, by omega, by go_num, HF, BYx.out, BGx.out, hbwx⟩
                          case measure => simp [intOf]; omega
            · obtain rfl : n = k := by omega
              have HF : Hid (leakB y gk gs l = false) := by
                show _ = _
                have := hq.out
                rw [List.take_of_length_le (by rw [HLL.out]; exact Nat.le_refl _)] at this
                exact this
              go_wp2_with fail
              go_ret
              exact ⟨by rw [HVT.out, HF.out]; rfl, hb⟩
end Go.Proofs.YtphlojgmfkgeiaaGreatDoor
