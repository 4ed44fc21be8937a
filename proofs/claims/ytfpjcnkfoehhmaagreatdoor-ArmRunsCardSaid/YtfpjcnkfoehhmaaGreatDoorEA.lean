/- Reference of the arm: without, sorted, Changes. -/
import Derived.Test.YtfpjcnkfoehhmaaGreatDoorQg
import Derived.Test.YtfpjcnkfoehhmaaGreatDoorQf
import Derived.Test.YtfpjcnkfoehhmaaGreatDoorQe
namespace Go.Proofs.YtfpjcnkfoehhmaaGreatDoor
open Go.RowKit Go.Sort Go.Shelf
set_option linter.unusedSimpArgs false
set_option linter.unusedVariables false
attribute [local go_sem] cell_if frozen_if grow_cell
theorem wout_take {l o : List Int} {k : Nat} (hk : k < l.length) : wout (l.take (k + 1)) o = wout (l.take k) o ++ (if hasI o l[k] then [] else [l[k]]) := by
  unfold wout hasI
  rw [List.take_succ_eq_append_getElem hk, List.filter_append]
  congr 1
  rw [List.filter_cons]
  cases o.contains l[k] <;> simp
theorem wout_len_le (l o : List Int) : (wout l o).length ≤ l.length := List.length_filter_le _ _
set_option maxRecDepth 100000 in
set_option maxHeartbeats 1000000 in
theorem without_any (B1 B2 : Nat) (A1 A2 : Option Addr) (n1 c1 n2 c2 : Nat) (l o : List Int) (w : World) (h1 : Reads w B1 1 A1 n1 (l.map (.int .i64))) (h2 : Reads w B2 1 A2 n2 (o.map (.int .i64))) (hB1 : B1 ≤ w.heap.size) (hB2 : B2 ≤ w.heap.size) (hn1 : n1 ≤ 400) (hn2 : n2 ≤ 400) :
    Calls Tryz.prog 107 #[.slice A1 n1 c1, .slice A2 n2 c2] w (IdRes w (wout l o)) := by
  obtain ⟨hl, hat⟩ := int_at h1
  have HL := Lib.hid hl
  have HA := Lib.hid hat
  have HH := Lib.hid (fun W z (hW : Below w.heap.size w W) => HasInt_any B2 A2 n2 c2 o z W (h2.below (hW.mono hB2)) (by unfold maxLen; omega))
  clear hl hat h1 h2
  go_enter Tryz.func107, Tryz.ntmps107
  go_wp2_with fail
  go_loopw [5, 6] (fun v i wr => ∃ k : Nat, k ≤ n1 ∧ i = .int .i64 k ∧ wr.ownsRow w.heap.size 3 1 v (wout (l.take k) o).length ((wout (l.take k) o).map (.int .i64)) ∧ Below w.heap.size w wr) (fun _ i _ => n1 - (intOf i).toNat)
  case atStart => exact ⟨0, by omega, rfl, World.ownsRow_nil _ _ _ _, bl_⟩
  case round =>
    obtain ⟨k, hk, rfl, hO, hb⟩ := hrel
    have hsr := hb.size
    have HO := Lib.hid hO
    have HB := Lib.hid hb
    clear hO
    by_cases hlt : k < n1
    · have hkl : k < l.length := by rw [HL.out]; omega
      obtain ⟨b, ob, eA, hbb, z0⟩ := HA.out k hkl
      have hbw0 : b < w.heap.size := by omega
      rw [← hb.cell (p := ⟨b, ob + k, none⟩) hbw0] at z0
      have hbw : b < wr.heap.size := by omega
      have HS := Lib.hid (wout_take (o := o) hkl)
      have hlen := wout_len_le (l.take k) o
      rw [List.length_take] at hlen
      subst eA
      generalize wout (l.take k) o = L at *
      generalize l[k] = x at *
      clear hb
      go_wp2_with fail
      refine (HH.out wr x HB.out).mono ?_
      rintro e w1 ⟨rfl, rfl⟩
      cases hq : hasI o x with
      | false =>
        rw [hq] at HS
        go_wp2_with (at_builtin; refine wpList_app 29 3 1 8 elemInt rfl (.tmp 20) (.tmp 25) rfl w.heap.size _ L.length _ rfl HO.out 1 rfl rfl ?h1 (by decide) ?h3 (by omega) hsr ?_)
        case h1 => first | rfl | (intro u hu; simp at hu; subst hu; rfl)
        case h3 => unfold maxLen; omega
        intro g' cap' w' hown' hb' hkk hs'
        go_wp2_with fail
        go_roundw
        case rel =>
          refine ⟨k + 1, by omega, by go_num, ?_, HB.out.trans hb'⟩
          rw [HS.out, if_neg (by decide), List.length_append, List.map_append]
          exact hown'
        case measure => simp [intOf]; omega
      | true =>
        rw [hq] at HS
        go_wp2_with fail
        go_roundw
        case rel =>
          refine ⟨k + 1, by omega, by go_num, ?_, HB.out⟩
          rw [HS.out, if_pos (by trivial), List.append_nil]
          exact HO.out
        case measure => simp [intOf]; omega
    · obtain rfl : k = n1 := by omega
      have HO2 := HO.out
      rw [List.take_of_length_le (by rw [HL.out]; exact Nat.le_refl _)] at HO2
      have HO3 := Lib.hid HO2
      clear HO2
      go_wp2_with fail
      go_ret
      exact ⟨_, rfl, HO3.out, HB.out⟩
theorem flt_succ (l : List Int) (k : Nat) : (rng (k + 1)).filter (hasI l) = (rng k).filter (hasI l) ++ (if hasI l (k : Int) then [(k : Int)] else []) := by
  rw [rng_succ, List.filter_append]
  congr 1
  rw [List.filter_cons]
  cases hasI l (k : Int) <;> simp
set_option maxRecDepth 100000 in
set_option maxHeartbeats 1000000 in
theorem sorted_any (B : Nat) (A : Option Addr) (n c : Nat) (l : List Int) (w : World) (h : Reads w B 1 A n (l.map (.int .i64))) (hB : B ≤ w.heap.size) (hn : n ≤ 400) (hnd : l.Nodup) (hs : ∀ i ∈ l, 0 ≤ i ∧ i < 16) :
    Calls Tryz.prog 110 #[.slice A n c] w (IdRes w (sortI l)) := by
  have HH := Lib.hid (fun W z (hW : Below w.heap.size w W) => HasInt_any B A n c l z W (h.below (hW.mono hB)) (by unfold maxLen; omega))
  have HS := Lib.hid (sorted16 hnd hs)
  clear h hnd hs
  go_enter Tryz.func110, Tryz.ntmps110
  go_wp2_with fail
  go_loopw [3, 4] (fun v i wr => ∃ k : Nat, k ≤ 16 ∧ i = .int .i64 k ∧ wr.ownsRow w.heap.size 3 1 v ((rng k).filter (hasI l)).length (((rng k).filter (hasI l)).map (.int .i64)) ∧ Below w.heap.size w wr) (fun _ i _ => 16 - (intOf i).toNat)
  case atStart => exact ⟨0, by omega, rfl, World.ownsRow_nil _ _ _ _, bl_⟩
  case round =>
    obtain ⟨k, hk, rfl, hO, hb⟩ := hrel
    have hsr := hb.size
    have HO := Lib.hid hO
    have HB := Lib.hid hb
    clear hO hb
    by_cases hlt : k < 16
    · have HF := Lib.hid (flt_succ l k)
      have hlen := List.length_filter_le (hasI l) (rng k)
      rw [rng_len] at hlen
      generalize (rng k).filter (hasI l) = L at *
      go_wp2_with fail
      refine (HH.out wr (k : Int) HB.out).mono ?_
      rintro e w1 ⟨rfl, rfl⟩
      cases hq : hasI l (k : Int) with
      | true =>
        rw [hq] at HF
        go_wp2_with (at_builtin; refine wpList_app 29 3 1 8 elemInt rfl (.tmp 12) (.tmp 14) rfl w.heap.size _ L.length _ rfl HO.out 1 rfl rfl ?h1 (by decide) ?h3 (by omega) hsr ?_)
        case h1 => first | rfl | (intro u hu; simp at hu; subst hu; rfl)
        case h3 => unfold maxLen; omega
        intro g' cap' w' hown' hb' hkk hs'
        go_wp2_with fail
        go_roundw
        case rel =>
          refine ⟨k + 1, by omega, by go_num, ?_, HB.out.trans hb'⟩
          rw [HF.out, if_pos (by trivial), List.length_append, List.map_append]
          exact hown'
        case measure => simp [intOf]; omega
      | false =>
        rw [hq] at HF
        go_wp2_with fail
        go_roundw
        case rel =>
          refine ⟨k + 1, by omega, by go_num, ?_, HB.out⟩
          rw [HF.out, if_neg (by decide), List.append_nil]
          exact HO.out
        case measure => simp [intOf]; omega
    · obtain rfl : k = 16 := by omega
      have HO2 := HO.out
      rw [HS.out] at HO2
      have HO3 := Lib.hid HO2
      clear HO2
      go_wp2_with fail
      go_ret
      exact ⟨_, rfl, HO3.out, HB.out⟩
set_option maxRecDepth 100000 in
set_option maxHeartbeats 1000000 in
theorem rChanges_any (B B2 : Nat) (A A2 : Option Addr) (n c n2 c2 : Nat) (a : Ar) (set : List Int) (w : World) (hM : MsAt w B A n a.m) (hB : B ≤ w.heap.size) (hn : n ≤ 400) (h2 : Reads w B2 1 A2 n2 (set.map (.int .i64))) (hB2 : B2 ≤ w.heap.size) (hn2 : n2 ≤ 400) :
    Calls Tryz.prog 50 #[.agg #[.slice A n c, .int .i64 a.lo, .int .i64 a.hi, .int .i64 a.cur, .int .i64 a.lim], .slice A2 n2 c2] w fun e w' => e = .returned (.int .i64 (chgN (onL a) set : Int)) ∧ Below w.heap.size w w' := by
  have hl := (md_at hM).1
  have hol : (onL a).length ≤ n := by have := idxs_len (fun x : Md => x.on) a.m 0; rw [hl] at this; exact this
  have hsl : set.length = n2 := by simpa using h2.1
  have HOn := Lib.hid (fun W (hW : Below w.heap.size w W) => rOn_any B A n c a W (hM.below (hW.mono hB)) (by have := hW.size; omega) hn)
  have HW1 := Lib.hid (fun W A1 c1 (hW : Below w.heap.size w W) (h1 : Reads W W.heap.size 1 A1 (onL a).length ((onL a).map (.int .i64))) => without_any W.heap.size B2 A1 A2 (onL a).length c1 n2 c2 (onL a) set W h1 (h2.below (hW.mono hB2)) (Nat.le_refl _) (by have := hW.size; omega) (by omega) (by omega))
  have HW2 := Lib.hid (fun W A1 c1 (hW : Below w.heap.size w W) (h1 : Reads W W.heap.size 1 A1 (onL a).length ((onL a).map (.int .i64))) => without_any B2 W.heap.size A2 A1 n2 c2 (onL a).length c1 set (onL a) W (h2.below (hW.mono hB2)) h1 (by have := hW.size; omega) (Nat.le_refl _) (by omega) (by omega))
  have hOn : onL a = idxs (fun x => x.on) 0 a.m := rfl
  rw [← hOn] at HOn
  have l1 := wout_len_le (onL a) set
  have l2 := wout_len_le set (onL a)
  have HV : Hid (chgN (onL a) set = (wout (onL a) set).length + (wout set (onL a)).length) := Lib.hid rfl
  rw [HV.out]
  unfold IdRes at HOn HW1 HW2
  clear hM h2 hOn
  generalize (onL a) = s0 at *
  generalize wout s0 set = x1 at *
  generalize wout set s0 = x2 at *
  have hwr : IntKind.i64.wrap ((x1.length : Int) + (x2.length : Int)) = (x1.length : Int) + (x2.length : Int) := by rw [IntKind.wrap_i64]; omega
  go_enter Tryz.func50, Tryz.ntmps50
  go_wp2_with fail
  refine wp_world ?_
  intro W0 hW0
  have hb0 : Below w.heap.size w W0 := by rw [hW0]; exact bl_
  have bA0 : Blk W0 w.heap.size 26 #[.slice A n c, .int .i64 a.lo, .int .i64 a.hi, .int .i64 a.cur, .int .i64 a.lim] := by rw [hW0]; exact bk_
  have cA0 := bA0.cell
  have lA0 := bA0.lt
  have HB0 := Lib.hid hb0
  have hs0 := hb0.size
  clear hW0 hb0
  (refine wp_region_calm [] [0, 2, 5, 6] 8 (by kernel_rfl) rfl (by kernel_rfl) (by kernel_rfl) (by kernel_rfl) ?_; simp only [pickB, List.filterMap_cons, List.filterMap_nil, List.getElem?_toArray, List.getElem?_cons_zero, List.getElem?_cons_succ]; (repeat (first | ((first | (with_reducible refine quietL_plain rfl (fun K hK => ?_)) | (with_reducible refine quietL_want (by with_unfolding_all rfl) (fun K hK => ?_))); (apply Exists.intro; refine ⟨fun wx hx => ?_, ?_⟩; (· (have hcx := ifs_ex hx); simp [go_sem, *, ↓IntWalk.iteOmega] <;> (first | rfl | exact ⟨rfl, rfl⟩ | skip)); (simp only [Act.put, List.setIfInBounds_toArray, List.set_cons_zero, List.set_cons_succ]; refine hK _ ?_; clear hK K))) | ((with_reducible refine quietL_skip (by with_unfolding_all rfl) ?_); simp only [Act.put, List.setIfInBounds_toArray, List.set_cons_zero, List.set_cons_succ]))); refine quietL_nil ?_)
  (refine anyB_one (i := 1) (by kernel_rfl) rfl rfl ?_; intro w1 hb1 K hK; have hs1 := hb1.size; (try simp at hs1); go_wp2_with fail)
  refine (HOn.out _ (HB0.out.trans (hb1.mono hs0))).mono ?_
  rintro e w2 ⟨v2, rfl, hr2, hb2⟩
  obtain ⟨A2', c2', rfl, _, _, hrd2⟩ := own_form hr2
  have HB2 := Lib.hid ((HB0.out.trans (hb1.mono hs0)).trans (hb2.mono (by omega)))
  have HR2 := Lib.hid hrd2
  have hs2 := hb2.size
  clear hr2 hrd2
  (go_wp2; refine ⟨xs_, ?_⟩)
  (refine anyB_one (i := 3) (by kernel_rfl) rfl rfl ?_; intro w3 hb3 K hK; have hs3 := hb3.size; (try simp at hs3); go_wp2_with fail)
  refine (HW1.out _ _ _ (HB2.out.trans (hb3.mono (by omega))) ((HR2.out.below hb3).more hb3.size)).mono ?_
  rintro e w4 ⟨v4, rfl, hr4, hb4⟩
  obtain ⟨A4, c4, rfl, _, _, _⟩ := own_form hr4
  have HB4 := Lib.hid ((HB2.out.trans (hb3.mono (by omega))).trans (hb4.mono (by omega)))
  have hs4 := hb4.size
  clear hr4
  (go_wp2; refine ⟨xs_, ?_⟩)
  (refine anyB_quiet_at (by kernel_rfl) calm_panic xs_ 5 [4] _ _ (by kernel_rfl) (by decide +kernel) ?_; simp only [pickB, List.filterMap_cons, List.filterMap_nil, List.getElem?_toArray, List.getElem?_cons_zero, List.getElem?_cons_succ]; (repeat (first | ((first | (with_reducible refine quietL_plain rfl (fun K hK => ?_)) | (with_reducible refine quietL_want (by with_unfolding_all rfl) (fun K hK => ?_))); (apply Exists.intro; refine ⟨fun wx hx => ?_, ?_⟩; (· (have hcx := ifs_ex hx); simp [go_sem, *, ↓IntWalk.iteOmega] <;> (first | rfl | exact ⟨rfl, rfl⟩ | fail)); (simp only [Act.put, List.setIfInBounds_toArray, List.set_cons_zero, List.set_cons_succ]; refine hK _ ?_; clear hK K))) | ((with_reducible refine quietL_skip (by with_unfolding_all rfl) ?_); simp only [Act.put, List.setIfInBounds_toArray, List.set_cons_zero, List.set_cons_succ]))); refine quietL_nil ?_)
  (refine anyB_one (i := 7) (by kernel_rfl) rfl rfl ?_; intro w5 hb5 K hK; have hs5 := hb5.size; (try simp at hs5); go_wp2_with fail)
  refine (HOn.out _ (HB4.out.trans (hb5.mono (by omega)))).mono ?_
  rintro e w6 ⟨v6, rfl, hr6, hb6⟩
  obtain ⟨A6, c6, rfl, _, _, hrd6⟩ := own_form hr6
  have HB6 := Lib.hid ((HB4.out.trans (hb5.mono (by omega))).trans (hb6.mono (by omega)))
  have HR6 := Lib.hid hrd6
  have hs6 := hb6.size
  clear hr6 hrd6
  (go_wp2; refine ⟨xs_, ?_⟩)
  (refine anyB_one (i := 8) (by kernel_rfl) rfl rfl ?_; intro w7 hb7 K hK; have hs7 := hb7.size; (try simp at hs7); go_wp2_with fail)
  refine (HW2.out _ _ _ (HB6.out.trans (hb7.mono (by omega))) ((HR6.out.below hb7).more hb7.size)).mono ?_
  rintro e w8 ⟨v8, rfl, hr8, hb8⟩
  obtain ⟨A8, c8, rfl, _, _, _⟩ := own_form hr8
  have HB8 := Lib.hid ((HB6.out.trans (hb7.mono (by omega))).trans (hb8.mono (by omega)))
  have hs8 := hb8.size
  clear hr8
  (go_wp2; refine ⟨xs_, ?_⟩)
  (refine anyB_quiet_at (by kernel_rfl) calm_panic xs_ 1 [9, 10] _ _ (by kernel_rfl) (by decide +kernel) ?_; simp only [pickB, List.filterMap_cons, List.filterMap_nil, List.getElem?_toArray, List.getElem?_cons_zero, List.getElem?_cons_succ]; (repeat (first | ((first | (with_reducible refine quietL_plain rfl (fun K hK => ?_)) | (with_reducible refine quietL_want (by with_unfolding_all rfl) (fun K hK => ?_))); (apply Exists.intro; refine ⟨fun wx hx => ?_, ?_⟩; (· (have hcx := ifs_ex hx); simp [go_sem, *, ↓IntWalk.iteOmega] <;> (first | rfl | exact ⟨rfl, rfl⟩ | fail)); (simp only [Act.put, List.setIfInBounds_toArray, List.set_cons_zero, List.set_cons_succ]; refine hK _ ?_; clear hK K))) | ((with_reducible refine quietL_skip (by with_unfolding_all rfl) ?_); simp only [Act.put, List.setIfInBounds_toArray, List.set_cons_zero, List.set_cons_succ]))); refine quietL_nil ?_)
  (refine anyB_one (i := 11) (by kernel_rfl) rfl rfl ?_; intro w9 hb9 K hK; have hs9 := hb9.size; (try simp at hs9); go_wp2; refine ⟨xs_, ?_⟩)
  (refine anyB_end (by kernel_rfl) ?_; intro w10 hb10; have hs10 := hb10.size; (try simp at hs10); simp only [Calm])
  have hB := HB8.out.trans ((hb9.trans (hb10.mono hb9.size)).mono (by omega))
  have HB := Lib.hid hB
  clear hB
  go_wp2_with fail
  go_ret
  exact ⟨by first | rfl | (congr 2; simp; done) | go_num, HB.out⟩
end Go.Proofs.YtfpjcnkfoehhmaaGreatDoor
