/- Whether the hours of all outages are enough. -/
import Derived.Test.YtafnebfchhmgcaaGreatV9
namespace Go.Proofs.YtafnebfchhmgcaaGreat
open Go Go.RowKit Go.Sort Go.Shelf
set_option linter.unusedSimpArgs false
set_option linter.unusedVariables false
attribute [local go_sem] cell_if frozen_if grow_cell
/-- The hours that are left after the first modules. -/
def leftS : List Int → List Vm → List Int → List Int
  | hs, m :: ms, k :: ks => leftS (hs.set k.toNat (hs.getD k.toNat 0 - m.h)) ms ks
  | hs, _, _ => hs
theorem leftS_snoc (m : Vm) (k : Int) : ∀ (ms : List Vm) (ks : List Int) (hs : List Int), ms.length = ks.length → leftS hs (ms ++ [m]) (ks ++ [k]) = (leftS hs ms ks).set k.toNat ((leftS hs ms ks).getD k.toNat 0 - m.h)
  | [], [], _, _ => rfl
  | x :: ms, y :: ks, hs, h => leftS_snoc m k ms ks _ (by simpa using h)
theorem leftS_take (hs : List Int) {ms : List Vm} {ks : List Int} {i : Nat} (h1 : i < ms.length) (h2 : i < ks.length) : leftS hs (ms.take (i + 1)) (ks.take (i + 1)) = (leftS hs (ms.take i) (ks.take i)).set (ks[i]).toNat ((leftS hs (ms.take i) (ks.take i)).getD (ks[i]).toNat 0 - (ms[i]).h) := by
  rw [List.take_succ_eq_append_getElem h1, List.take_succ_eq_append_getElem h2]
  exact leftS_snoc _ _ _ _ _ (by rw [List.length_take, List.length_take]; omega)
theorem leftS_len : ∀ (ms : List Vm) (ks : List Int) (hs : List Int), (leftS hs ms ks).length = hs.length
  | [], _, _ => by simp [leftS]
  | _ :: _, [], _ => by simp [leftS]
  | x :: ms, y :: ks, hs => (leftS_len ms ks _).trans (by simp)
theorem leftS_short : ∀ (ms : List Vm) (ks : List Int) (hs : List Int), leftS hs (ms.take ks.length) ks = leftS hs ms ks
  | [], _, _ => by simp
  | _ :: _, [], _ => by simp [leftS]
  | x :: ms, y :: ks, hs => leftS_short ms ks _
theorem leftS_bd (n : Int) : ∀ (ms : List Vm) (ks : List Int) (hs : List Int) (B : Int), (∀ m ∈ ms, 0 ≤ m.h ∧ m.h ≤ n) → 0 ≤ n → (∀ z ∈ hs, -B ≤ z ∧ z ≤ 100) → 0 ≤ B → ∀ z ∈ leftS hs ms ks, -(B + n * ks.length) ≤ z ∧ z ≤ 100
  | [], ks, hs, B, _, hn, h, hB, z, hz => by
    have := h z (by simpa [leftS] using hz)
    have h2 : 0 ≤ n * (ks.length : Int) := Int.mul_nonneg hn (by omega)
    omega
  | _ :: _, [], hs, B, _, hn, h, hB, z, hz => by
    have := h z (by simpa [leftS] using hz)
    simp
    omega
  | m :: ms, k :: ks, hs, B, hm, hn, h, hB, z, hz => by
    have hmm := hm m (by simp)
    have := leftS_bd n ms ks (hs.set k.toNat (hs.getD k.toNat 0 - m.h)) (B + n) (fun x hx => hm x (List.mem_cons_of_mem _ hx)) hn (fun y hy => by
      rcases List.mem_or_eq_of_mem_set hy with hy | rfl
      · have := h y hy
        omega
      · by_cases hk : k.toNat < hs.length
        · have h2 := h _ (List.getElem_mem hk)
          rw [List.getD_eq_getElem?_getD, List.getElem?_eq_getElem hk, Option.getD_some]
          omega
        · rw [List.getD_eq_getElem?_getD, List.getElem?_eq_none (by omega), Option.getD_none]
          omega) (by omega) z hz
    rw [List.length_cons]
    have e : n * ((ks.length + 1 : Nat) : Int) = n * (ks.length : Int) + n := by rw [Int.natCast_add, Int.mul_add]; simp
    omega
def fitB (os : List Ot) (ms : List Vm) (ks : List Int) : Bool := !(leftS (os.map Ot.h) ms ks).any fun z => decide (z < 0)
theorem wrap_int {z : Int} (h0 : -9223372036854775808 ≤ z) (h1 : z < 9223372036854775808) : IntKind.i64.wrap z = z := by
  unfold IntKind.wrap
  simp only [IntKind.bits, IntKind.signed]
  by_cases hz : 0 ≤ z
  · have e : z % 2 ^ 64 = z := by omega
    simp only [e]
    rw [if_neg]
    simp
    omega
  · have e : z % 2 ^ 64 = z + 2 ^ 64 := by omega
    simp only [e]
    rw [if_pos]
    · omega
    · simp
      omega
set_option maxRecDepth 100000 in
set_option maxHeartbeats 4000000 in
theorem fits_any (Bm Bo Bp : Nat) (Am Ao Ap : Option Addr) (nm cm no co np cp : Nat) (ms : List Vm) (os : List Ot) (ks : List Int) (w : World) (hm : Reads w Bm 4 Am nm (vms ms)) (ho : Reads w Bo 3 Ao no (ots os)) (hp : Reads w Bp 1 Ap np (ks.map (.int .i64))) (hBm : Bm ≤ w.heap.size) (hBo : Bo ≤ w.heap.size) (hBp : Bp ≤ w.heap.size)
    (h8 : nm ≤ 8) (h6 : no ≤ 6) (hle : np ≤ nm) (hk : ∀ k ∈ ks, 0 ≤ k ∧ k < (no : Int)) (hmh : ∀ m ∈ ms, 0 ≤ m.h ∧ m.h ≤ 100) (hoh : ∀ o ∈ os, 0 ≤ o.h ∧ o.h ≤ 100) :
    Calls Tryz.prog 153 #[.slice Am nm cm, .slice Ao no co, .slice Ap np cp] w fun e w' => e = .returned (.bool (fitB os ms ks)) ∧ Below w.heap.size w w' := by
  obtain ⟨hlm, ham⟩ := vm_at hm
  have hlo := (ot_at ho).1
  obtain ⟨hlp, hap⟩ := int_at hp
  have HLm := Lib.hid hlm
  have HLp := Lib.hid hlp
  have HAm := Lib.hid ham
  have HAp := Lib.hid hap
  have HK := Lib.hid hk
  have HM := Lib.hid (mapH_any Bo Ao no co os w ho hBo (by omega))
  have HBd := Lib.hid (fun i => leftS_bd 100 (ms.take i) (ks.take i) (os.map Ot.h) 0 (fun m h => hmh m (List.mem_of_mem_take h)) (by omega) (fun z hz => by obtain ⟨o, h1, rfl⟩ := List.mem_map.1 hz; have := hoh o h1; omega) (by omega))
  have HMh := Lib.hid hmh
  have HFin : Hid (fitB os ms ks = !(leftS (os.map Ot.h) (ms.take np) (ks.take np)).any fun z => decide (z < 0)) := Lib.hid (by unfold fitB; rw [← hlp, List.take_length, leftS_short])
  have HLl : Hid (∀ i, (leftS (os.map Ot.h) (ms.take i) (ks.take i)).length = no) := Lib.hid (fun i => by rw [leftS_len, List.length_map, hlo])
  have HSn := Lib.hid (fun i (h1 : i < ms.length) (h2 : i < ks.length) => leftS_take (os.map Ot.h) h1 h2)
  have HZ : Hid (leftS (os.map Ot.h) (ms.take 0) (ks.take 0) = os.map Ot.h) := Lib.hid (by simp [leftS])
  unfold MapRes at HM
  rw [List.length_map, hlo] at HM
  generalize (fun i => leftS (os.map Ot.h) (ms.take i) (ks.take i)) = LS at *
  clear hm ho hp hlm ham hlo hlp hap hk hmh hoh
  go_enter Tryz.func153, Tryz.ntmps153
  go_wp2_with fail
  refine HM.out.mono ?_
  rintro e W1 ⟨v, rfl, hown, hb⟩
  have HB := Lib.hid hb
  have hs1 := hb.size
  clear hb HM
  rcases hown.2 with ⟨rfl, hn0⟩ | ⟨g, cap, cur, rfl, hgw, hg, hcap, hcm, hcs, htk⟩
  · skip
    as_aux_lemma =>
      have hno : no = 0 := hn0
      have hnp : np = 0 := by
        rcases Nat.eq_zero_or_pos np with h | h
        · exact h
        · have := HK.out _ (List.getElem_mem (show 0 < ks.length by rw [HLp.out]; exact h))
          omega
      subst hnp
      subst hno
      have hnil : leftS (os.map Ot.h) (ms.take 0) (ks.take 0) = [] := List.eq_nil_of_length_eq_zero (HLl.out 0)
      have HF2 : Hid (fitB os ms ks = true) := Lib.hid (by rw [HFin.out, hnil]; rfl)
      clear hown hn0 hnil
      go_wp2_with fail
      go_loopw [14] (fun s14 wr => s14 = .int .i64 0 ∧ Below W1.heap.size W1 wr) (fun _ _ => 0)
      case atStart => exact ⟨rfl, Below.refl _ _⟩
      case round =>
        obtain ⟨rfl, hbr⟩ := hrel
        have HLo := Lib.hid (HB.out.trans (hbr.mono hs1))
        have HC := Lib.hid (ContainsFuncI_any 178 #[] 0 none 0 0 [] (fun z => decide (z < 0)) wr ⟨rfl, fun h => absurd h (Nat.lt_irrefl 0)⟩ (by omega) (by omega) (enters_of Tryz.func178 (by kernel_rfl) rfl) (fun W _ z hz => absurd hz (by simp)))
        clear hbr
        go_wp2_with fail
        refine HC.out.mono ?_
        rintro e w5 ⟨rfl, hb5⟩
        have HL5 := Lib.hid (HLo.out.trans (hb5.mono HLo.out.size))
        clear hb5
        go_wp2_with fail
        go_ret
        exact ⟨by rw [HF2.out]; rfl, HL5.out⟩
  · skip
    have HG : Hid (Blk W1 g 3 cur) := Lib.hid hg
    have HCs := Lib.hid hcs
    have HTk := Lib.hid htk
    clear hown hg hcs htk
    go_wp2_with fail
    go_loopw [14] (fun s14 wr => ∃ (i : Nat) (cu : Array Value), i ≤ np ∧ s14 = .int .i64 (i : Int) ∧ Blk wr g 3 cu ∧ cu.size = cap ∧ cu.toList.take no = (leftS (os.map Ot.h) (ms.take i) (ks.take i)).map (.int .i64) ∧ Ex [g] W1 wr) (fun s14 _ => np - (intOf s14).toNat)
    case atStart => exact ⟨0, cur, by omega, rfl, HG.out, by simpa using HCs.out, by rw [HZ.out, List.map_map]; have h9 := HTk.out; rw [Nat.mul_one] at h9; exact h9, Ex.refl _ _⟩
    case round =>
      as_aux_lemma =>
        obtain ⟨i, cu, hi, rfl, hbl, hsz, htk, he⟩ := hrel
        have HG2 := Lib.hid hbl
        have HS2 := Lib.hid hsz
        have HT2 := Lib.hid htk
        have HE2 := Lib.hid he
        have hse := he.size
        clear hbl hsz htk he
        by_cases hlt : i < np
        · skip
          as_aux_lemma =>
            have hil : i < ks.length := by rw [HLp.out]; exact hlt
            have him : i < ms.length := by rw [HLm.out]; omega
            have hdi : decide ((i : Int) < (np : Int)) = true := by simp; omega
            obtain ⟨bp, op, ep, hbp, y0⟩ := HAp.out i hil
            obtain ⟨bm, om, em, hbm, _, _, _, z3⟩ := HAm.out i him
            have kp : wr.cell? ⟨bp, op + i, none⟩ = w.cell? ⟨bp, op + i, none⟩ := (World.cell?_of_block (w := W1) (HE2.out.block bp (by omega) (by simp; omega))).trans (HB.out.cell (p := ⟨bp, op + i, none⟩) (by simp; omega))
            have km : wr.cell? ⟨bm, om + i * 4 + 3, none⟩ = w.cell? ⟨bm, om + i * 4 + 3, none⟩ := (World.cell?_of_block (w := W1) (HE2.out.block bm (by omega) (by simp; omega))).trans (HB.out.cell (p := ⟨bm, om + i * 4 + 3, none⟩) (by simp; omega))
            rw [← kp] at y0
            rw [← km] at z3
            have hbpw : bp < wr.heap.size := by omega
            have hbmw : bm < wr.heap.size := by omega
            have hbmg : bm ≠ g := by omega
            have hbpg : bp ≠ g := by omega
            have hkk := HK.out _ (List.getElem_mem hil)
            have hmh := HMh.out _ (List.getElem_mem him)
            have HSt := Lib.hid (HSn.out i him hil)
            have hll := HLl.out i
            have hbd := HBd.out i
            have HSm : Hid (((ks.take i).length : Int) ≤ 8) := Lib.hid (by rw [List.length_take]; omega)
            generalize leftS (os.map Ot.h) (ms.take i) (ks.take i) = L at *
            generalize ks[i] = kz at *
            generalize (ms[i]).h = mh at *
            obtain ⟨kn, rfl⟩ := Int.eq_ofNat_of_zero_le hkk.1
            have hkn : kn < no := by omega
            have hkL : kn < L.length := by omega
            have hgd : L.getD kn 0 = L[kn] := by rw [List.getD_eq_getElem?_getD, List.getElem?_eq_getElem hkL, Option.getD_some]
            have hlv := hbd L[kn] (List.getElem_mem hkL)
            have hcell : cu[kn]? = some (.int .i64 L[kn]) := by
              have h1 : (cu.toList.take no)[kn]? = some (.int .i64 L[kn]) := by rw [HT2.out, List.getElem?_map, List.getElem?_eq_getElem hkL]; rfl
              rw [List.getElem?_take, if_pos hkn] at h1
              simpa using h1
            have HNx : Hid ((cu.setIfInBounds kn (.int .i64 (L[kn] - mh))).toList.take no = (leftS (os.map Ot.h) (ms.take (i + 1)) (ks.take (i + 1))).map (.int .i64)) := Lib.hid (by
              rw [HSt.out, Array.toList_setIfInBounds, List.take_set, HT2.out, List.map_set]
              show _ = (L.map _).set (Int.toNat (kn : Int)) _
              rw [Int.toNat_natCast, hgd])
            have hwr : IntKind.i64.wrap (L[kn] - mh) = L[kn] - mh := wrap_int (by have := HSm.out; omega) (by omega)
            have HCell := Lib.hid hcell
            generalize L[kn] = lv at *
            have hk0 : (0 : Int) ≤ (kn : Int) := by omega
            have hk1 : (kn : Int) < (no : Int) := by omega
            have hi0 : (0 : Int) ≤ (i : Int) := by omega
            have hi1 : (i : Int) < (nm : Int) := by omega
            subst ep
            subst em
            clear kp km HSt hll hbd hcell hkL hgd hkk
            go_wp2_with fail
            (refine wp_region_calm [g] [0, 1, 2, 4, 5, 6, 7, 8] 4 (by kernel_rfl) rfl (by kernel_rfl) (by kernel_rfl) (by kernel_rfl) ?_; simp only [pickB, List.filterMap_cons, List.filterMap_nil, List.getElem?_toArray, List.getElem?_cons_zero, List.getElem?_cons_succ]; (repeat (first | ((first | (with_reducible refine quietL_plain rfl (fun K hK => ?_)) | (with_reducible refine quietL_want (by with_unfolding_all rfl) (fun K hK => ?_))); (apply Exists.intro; refine ⟨fun wx hx => ?_, ?_⟩; (· (have hcx := ifs_ex hx); simp [go_sem, *, ↓IntWalk.iteOmega] <;> (first | rfl | exact ⟨rfl, rfl⟩ | fail)); (simp only [Act.put, List.setIfInBounds_toArray, List.set_cons_zero, List.set_cons_succ]; refine hK _ ?_; clear hK K))) | ((with_reducible refine quietL_skip (by with_unfolding_all rfl) ?_); simp only [Act.put, List.setIfInBounds_toArray, List.set_cons_zero, List.set_cons_succ]))); refine quietL_nil ?_)
            refine anyB_one (i := 3) (by kernel_rfl) rfl rfl ?_
            intro w2 hb2 K hK
            have G2 := Lib.hid (HG2.out.kept hb2)
            have cx := (G2.out.cell kn).trans HCell.out
            have lx := G2.out.lt
            go_wp2
            have hx2 := Ex.of_below (X := [g]) hb2
            refine ⟨hx2, ?_⟩
            clear cx lx
            (refine anyB_quiet_at (by kernel_rfl) calm_panic xs_ 1 [9, 10] _ _ (by kernel_rfl) (by decide +kernel) ?_; simp only [pickB, List.filterMap_cons, List.filterMap_nil, List.getElem?_toArray, List.getElem?_cons_zero, List.getElem?_cons_succ]; (repeat (first | ((first | (with_reducible refine quietL_plain rfl (fun K hK => ?_)) | (with_reducible refine quietL_want (by with_unfolding_all rfl) (fun K hK => ?_))); (apply Exists.intro; refine ⟨fun wx hx => ?_, ?_⟩; (· (have hcx := ifs_ex hx); simp [go_sem, *, ↓IntWalk.iteOmega] <;> (first | rfl | exact ⟨rfl, rfl⟩ | fail)); (simp only [Act.put, List.setIfInBounds_toArray, List.set_cons_zero, List.set_cons_succ]; refine hK _ ?_; clear hK K))) | ((with_reducible refine quietL_skip (by with_unfolding_all rfl) ?_); simp only [Act.put, List.setIfInBounds_toArray, List.set_cons_zero, List.set_cons_succ]))); refine quietL_nil ?_)
            refine anyB_one (i := 11) (by kernel_rfl) rfl rfl ?_
            intro w3 hb3 K hK
            have G3 := Lib.hid (G2.out.kept hb3)
            have cx := (G3.out.cell kn).trans HCell.out
            have fx := G3.out.frozen
            have lx := G3.out.lt
            have G4 := Lib.hid (G3.out.set_ kn (.int .i64 (lv - mh)))
            have H4 := Lib.hid (Ex.set_in (p := ⟨g, kn, none⟩) (by simp) (hx2.grown hb3) (.int .i64 (lv - mh)))
            go_wp2
            refine ⟨H4.out, ?_⟩
            clear cx fx lx hb2 hb3 hx2
            refine anyB_end (by kernel_rfl) ?_
            intro w5 hb5
            simp only [Calm]
            have G5 := Lib.hid (G4.out.kept hb5)
            have HE5 := Lib.hid (H4.out.grown hb5)
            clear hb5
            go_wp2_with fail
            go_roundw
            case rel => exact ⟨i + 1, _, by omega, by go_num, G5.out, by simpa using HS2.out, HNx.out, HE2.out.then HE5.out⟩
            case measure => simp [intOf]; omega
        · skip
          as_aux_lemma =>
            obtain rfl : i = np := by omega
            have hlL := HLl.out i
            have HR : Hid (Reads wr (g + 1) 1 (some ⟨g, 0, none⟩) no ((leftS (os.map Ot.h) (ms.take i) (ks.take i)).map (.int .i64))) := Lib.hid (Reads.blk_at (pre := []) (post := cu.toList.drop no) HG2.out (by rw [← HT2.out]; simp) rfl (by rw [List.length_map, hlL, Nat.mul_one]))
            have HLo := Lib.hid (HB.out.trans ((HE2.out.lows hs1 (by simpa using hgw))))
            have hgl := HG2.out.lt
            generalize leftS (os.map Ot.h) (ms.take i) (ks.take i) = L at *
            have HC := Lib.hid (ContainsFuncI_any 178 #[] (g + 1) (some ⟨g, 0, none⟩) no cap L (fun z => decide (z < 0)) wr HR.out (by omega) (by omega) (enters_of Tryz.func178 (by kernel_rfl) rfl) (fun W _ z _ => calls_below (fit2_any z W)))
            clear hlL
            go_wp2_with fail
            refine HC.out.mono ?_
            rintro e w5 ⟨rfl, hb5⟩
            have HL5 := Lib.hid (HLo.out.trans (hb5.mono HLo.out.size))
            clear hb5
            go_wp2_with fail
            go_ret
            exact ⟨by rw [HFin.out]; rfl, HL5.out⟩
end Go.Proofs.YtafnebfchhmgcaaGreat
