/- Plans of replacement: the check of a plan that is one. -/
import Derived.Test.YtafnebfchhmgcaaGreatV17
import Derived.Laws.EntriesVeiled
namespace Go.Proofs.YtafnebfchhmgcaaGreat
open Go Go.RowKit Go.Sort Go.Shelf
set_option linter.unusedSimpArgs false
set_option linter.unusedVariables false
attribute [local go_sem] cell_if frozen_if grow_cell
set_option maxRecDepth 100000 in
set_option maxHeartbeats 4000000 in
theorem cp1_any (i k bo bm B : Nat) (Am Ao : Option Addr) (nm cm no co : Nat) (ms : List Vm) (os : List Ot) (w : World) (ho : Blk w bo 106 #[.slice Ao no co]) (hm : Blk w bm 87 #[.slice Am nm cm]) (hrm : Reads w B 4 Am nm (vms ms)) (hro : Reads w B 3 Ao no (ots os)) (hB : B ≤ w.heap.size)
    (hi : i < nm) (hk : k < no) (h8 : nm ≤ 8) (h6 : no ≤ 6) (hp : ∀ (h1 : i < ms.length) (h2 : k < os.length), permB os[k] ms[i] = true) :
    Calls Tryz.prog 151 #[.int .i64 (i : Int), .int .i64 (k : Int), .pointer (some ⟨bo, 0, none⟩), .pointer (some ⟨bm, 0, none⟩)] w fun e w' => e = .returned (.int .i64 0) ∧ Below w.heap.size w w' := by
  obtain ⟨hlm, ham⟩ := vm_at hrm
  obtain ⟨hlo, hao⟩ := ot_at hro
  have him : i < ms.length := by omega
  have hko : k < os.length := by omega
  obtain ⟨b1, o1, e1, hb1, y0, y1, y2, y3⟩ := ham i him
  obtain ⟨b2, o2, e2, hb2, z0, z1, z2⟩ := hao k hko
  have hp' := hp him hko
  generalize ms[i] = m at *
  generalize os[k] = y at *
  obtain ⟨yt, yh, yc⟩ := y
  obtain ⟨mn, mf, mb, mh⟩ := m
  dsimp only at z0 z1 z2 y0 y1 y2 y3
  have HPm := fun W => permits_any ⟨yt, yh, yc⟩ ⟨mn, mf, mb, mh⟩ W
  rw [hp'] at HPm
  have HPh := Lib.hid HPm
  have hb1w : b1 < w.heap.size := by omega
  have hb2w : b2 < w.heap.size := by omega
  have cO := ho.cell 0
  have lO := ho.lt
  have cM := hm.cell 0
  have lM := hm.lt
  simp at cO cM
  have hk0 : ¬ (k : Int) < 0 := by omega
  have hk1 : ¬ (no : Int) ≤ (k : Int) := by omega
  have hk2 : (k : Int) < (no : Int) := by omega
  have hi2 : (i : Int) < (nm : Int) := by omega
  have hi0 : (0 : Int) ≤ (i : Int) := by omega
  have hk3 : (0 : Int) ≤ (k : Int) := by omega
  subst e1
  subst e2
  clear ho hm hrm hro hlm ham hlo hao hp hp' HPm
  go_enter Tryz.func151, Tryz.ntmps151
  go_upto_region 3 with fail
  (refine wp_region_calm [] [0, 1, 2, 3, 4, 5, 6, 7, 8, 9, 10, 11] 0 (by kernel_rfl) rfl (by kernel_rfl) (by kernel_rfl) (by kernel_rfl) ?_; simp only [pickB, List.filterMap_cons, List.filterMap_nil, List.getElem?_toArray, List.getElem?_cons_zero, List.getElem?_cons_succ]; (repeat (first | ((first | (with_reducible refine quietL_plain rfl (fun K hK => ?_)) | (with_reducible refine quietL_want (by with_unfolding_all rfl) (fun K hK => ?_))); (apply Exists.intro; refine ⟨fun wx hx => ?_, ?_⟩; (· (have hcx := ifs_ex hx); simp [go_sem, *, ↓IntWalk.iteOmega] <;> (first | rfl | exact ⟨rfl, rfl⟩ | (first | (with_reducible exact calls_B (HPh.out _)) | (with_reducible exact calls_B (calls_below (vwhen_any _ _ _)))))); (simp only [Act.put, List.setIfInBounds_toArray, List.set_cons_zero, List.set_cons_succ]; refine hK _ ?_; clear hK K))) | ((with_reducible refine quietL_skip (by with_unfolding_all rfl) ?_); simp only [Act.put, List.setIfInBounds_toArray, List.set_cons_zero, List.set_cons_succ]))); refine quietL_nil ?_)
  (refine anyB_end (by kernel_rfl) ?_; intro w6 hb6; have hs6 := hb6.size; (try simp at hs6); simp only [Calm])
  go_wp2_with fail
  go_ret
  exact ⟨rfl, hb6⟩
set_option maxRecDepth 100000 in
set_option maxHeartbeats 4000000 in
theorem eachI_any (bo bm B Bp : Nat) (Am Ao Ap : Option Addr) (nm cm no co np cp : Nat) (ms : List Vm) (os : List Ot) (ks : List Int) (w : World) (ho : Blk w bo 106 #[.slice Ao no co]) (hm : Blk w bm 87 #[.slice Am nm cm]) (hrm : Reads w B 4 Am nm (vms ms)) (hro : Reads w B 3 Ao no (ots os)) (hB : B ≤ w.heap.size)
    (hr : Reads w Bp 1 Ap np (ks.map (.int .i64))) (hBp : Bp ≤ w.heap.size) (h8 : nm ≤ 8) (h6 : no ≤ 6) (hP : PaOk ms os ks) :
    Calls Tryz.prog 150 #[.slice Ap np cp, .func (.func 151) #[] #[.pointer (some ⟨bo, 0, none⟩), .pointer (some ⟨bm, 0, none⟩)]] w fun e w' => e = .returned (.int .i64 0) ∧ Below w.heap.size w w' := by
  obtain ⟨hl, ha⟩ := int_at hr
  have hlm := (vm_at hrm).1
  have hlo := (ot_at hro).1
  have HL := Lib.hid hl
  have HA := Lib.hid ha
  have HP := Lib.hid hP
  have HO := Lib.hid ho
  have HM := Lib.hid hm
  have HRm := Lib.hid hrm
  have HRo := Lib.hid hro
  have HLm := Lib.hid hlm
  have HLo := Lib.hid hlo
  have hle : np ≤ nm := by have := hP.le; omega
  clear hl ha hr ho hm hrm hro hP hlm hlo
  go_enter Tryz.func150, Tryz.ntmps150
  go_wp2_with fail
  go_loopw [10] (fun i wr => ∃ k : Nat, k ≤ np ∧ i = .int .i64 k ∧ Below w.heap.size w wr) (fun i _ => np - (intOf i).toNat)
  case atStart => exact ⟨0, by omega, rfl, Below.refl _ _⟩
  case round =>
    obtain ⟨k, hk, rfl, hb⟩ := hrel
    have HB2 := Lib.hid hb
    have hs := hb.size
    clear hb
    by_cases hlt : k < np
    · have hkl : k < ks.length := by rw [HL.out]; exact hlt
      obtain ⟨b, o, eA, hbb, z0⟩ := HA.out k hkl
      have kb : ∀ i, wr.cell? ⟨b, i, none⟩ = w.cell? ⟨b, i, none⟩ := fun i => HB2.out.cell (p := ⟨b, i, none⟩) (by simp; omega)
      rw [← kb] at z0
      clear kb
      have hbw : b < wr.heap.size := by omega
      have hrg := HP.out.rng _ (List.getElem_mem hkl)
      have hpm := HP.out.perm k hkl
      generalize ks[k] = kz at *
      obtain ⟨q, rfl⟩ := Int.eq_ofNat_of_zero_le hrg.1
      have hqn : q < no := by have := HLo.out; omega
      have HC := Lib.hid (cp1_any k q bo bm B Am Ao nm cm no co ms os wr (HO.out.kept HB2.out) (HM.out.kept HB2.out) (HRm.out.below (HB2.out.mono hB)) (HRo.out.below (HB2.out.mono hB)) (by omega) (by omega) hqn h8 h6 (fun h1 h2 => hpm h1 _ (by rw [Int.toNat_natCast]; exact List.getElem?_eq_getElem h2)))
      subst eA
      clear hpm hrg
      go_wp2_with fail
      refine HC.out.mono ?_
      rintro e w1 ⟨rfl, hb4⟩
      have HB4 := Lib.hid (HB2.out.trans (hb4.mono hs))
      clear hb4 HC
      go_wp2_with fail
      go_roundw
      case rel => exact ⟨k + 1, by omega, by go_num, HB4.out⟩
      case measure => simp [intOf]; omega
    · obtain rfl : k = np := by omega
      go_wp2_with fail
      go_ret
      exact ⟨rfl, HB2.out⟩
set_option maxRecDepth 100000 in
set_option maxHeartbeats 4000000 in
theorem checkPlan_any (B Bp : Nat) (Am Ao Ap : Option Addr) (nm cm no co cp : Nat) (ms : List Vm) (os : List Ot) (ks : List Int) (w : World) (hrm : Reads w B 4 Am nm (vms ms)) (hro : Reads w B 3 Ao no (ots os)) (hB : B ≤ w.heap.size) (hr : Reads w Bp 1 Ap nm (ks.map (.int .i64))) (hBp : Bp ≤ w.heap.size) (hV : VmsOk ms) (hO : OutOk os) (hP : PlOk ms os ks) :
    Calls Tryz.prog 105 #[.slice Am nm cm, .slice Ao no co, .slice Ap nm cp] w fun e w' => e = .returned (.int .i64 0) ∧ Below w.heap.size w w' := by
  have hlm := (vm_at hrm).1
  have hlo := (ot_at hro).1
  have h8 : nm ≤ 8 := by rw [← hlm]; exact hV.len
  have h6 : no ≤ 6 := by rw [← hlo]; exact hO.len
  have hb0 : Below w.heap.size w ((w.alloc (.cells #[.slice Am nm cm] 87)).alloc (.cells #[.slice Ao no co] 106)) := ((Below.refl _ _).alloc (Nat.le_refl _) _).alloc (by simp) _
  have HE := Lib.hid (eachI_any (w.heap.size + 1) w.heap.size B Bp Am Ao Ap nm cm no co nm cp ms os ks _ (by simpa using Blk.new (w.alloc (.cells #[.slice Am nm cm] 87)) 106 #[.slice Ao no co]) ((Blk.new w 87 #[.slice Am nm cm]).alloc _) (hrm.below (hb0.mono hB)) (hro.below (hb0.mono hB)) (by have := hb0.size; omega) (hr.below (hb0.mono hBp)) (by have := hb0.size; omega) h8 h6 hP.ok)
  have HF := Lib.hid (fun W (hW : Below w.heap.size w W) => fits_any B B Bp Am Ao Ap nm cm no co nm cp ms os ks W (hrm.below (hW.mono hB)) (hro.below (hW.mono hB)) (hr.below (hW.mono hBp)) (by have := hW.size; omega) (by have := hW.size; omega) (by have := hW.size; omega) h8 h6 (Nat.le_refl _) (by rw [← hlo]; exact hP.ok.rng) (fun m hm => by have := (hV.ok m hm).h; omega) hO.h)
  rw [hP.fit] at HF
  have HX := Lib.hid ((Blk.new w 87 #[.slice Am nm cm]).alloc (.cells #[.slice Ao no co] 106))
  have HY : Hid (Blk ((w.alloc (.cells #[.slice Am nm cm] 87)).alloc (.cells #[.slice Ao no co] 106)) (w.heap.size + 1) 106 #[.slice Ao no co]) := Lib.hid (by simpa using Blk.new (w.alloc (.cells #[.slice Am nm cm] 87)) 106 #[.slice Ao no co])
  have HB0 := Lib.hid hb0
  clear hrm hro hr hV hO hP hlm hlo hb0
  go_enter Tryz.func105, Tryz.ntmps105
  go_wp2_with fail
  refine HE.out.mono ?_
  rintro e w1 ⟨rfl, hb1⟩
  have HL1 := Lib.hid (HB0.out.trans (hb1.mono HB0.out.size))
  have bX := HX.out.kept hb1
  have bY := HY.out.kept hb1
  have cX := bX.cell 0
  have lX := bX.lt
  have cY := bY.cell 0
  have lY := bY.lt
  simp at cX cY
  have hs1 := HL1.out.size
  clear hb1 HE bX bY HX HY HB0
  go_wp2_with fail
  refine (HF.out _ HL1.out).mono ?_
  rintro e w2 ⟨rfl, hb2⟩
  have HL2 := Lib.hid (HL1.out.trans (hb2.mono hs1))
  clear hb2 cX lX cY lY
  go_wp2_with fail
  refine (vwhen_any _ _ _).mono ?_
  rintro e w3 ⟨rfl, rfl⟩
  go_wp2_with fail
  go_ret
  exact ⟨rfl, HL2.out⟩
end Go.Proofs.YtafnebfchhmgcaaGreat
