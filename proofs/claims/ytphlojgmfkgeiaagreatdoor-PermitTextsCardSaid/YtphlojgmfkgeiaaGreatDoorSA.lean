/- Reference: two yards that are the same. -/
import Derived.Test.YtphlojgmfkgeiaaGreatDoorKk
import Derived.Test.YtphlojgmfkgeiaaGreatDoorKe
namespace Go.Proofs.YtphlojgmfkgeiaaGreatDoor
open Go.RowKit Go.Sort Go.Shelf
set_option linter.unusedSimpArgs false
set_option linter.unusedVariables false
attribute [local go_sem] cell_if frozen_if grow_cell
set_option maxRecDepth 100000 in
set_option maxHeartbeats 4000000 in
theorem Same_any (B : Nat) (A0 A1 A2 : Option Addr) (n0 n1 n2 c0 c1 c2 : Nat) (D0 D1 D2 : Option Addr) (m0 m1 m2 d0 d1 d2 : Nat) (y : Yd) (w : World) (hY : YdAt w B A0 A1 A2 n0 n1 n2 y) (hZ : YdAt w B D0 D1 D2 m0 m1 m2 y) (hB : B ≤ w.heap.size) (h0 : n0 ≤ 1000) (h1 : n1 ≤ 1000) (h2 : n2 ≤ 1000) :
    Calls Tryz.prog 50 #[.agg #[.slice A0 n0 c0, .slice A1 n1 c1, .slice A2 n2 c2], .agg #[.slice D0 m0 d0, .slice D1 m1 d1, .slice D2 m2 d2]] w fun e w' => e = .returned (.bool true) ∧ Below w.heap.size w w' := by
  obtain ⟨hl0, ha0⟩ := sec_at hY.hs
  obtain ⟨hl1, ha1⟩ := sw_at hY.hw
  obtain ⟨hl2, ha2⟩ := pm_at hY.hp
  obtain ⟨gl0, ga0⟩ := sec_at hZ.hs
  obtain ⟨gl1, ga1⟩ := sw_at hZ.hw
  obtain ⟨gl2, ga2⟩ := pm_at hZ.hp
  obtain rfl : n0 = m0 := by omega
  obtain rfl : n1 = m1 := by omega
  obtain rfl : n2 = m2 := by omega
  have HL0 := Lib.hid hl0
  have HL1 := Lib.hid hl1
  have HL2 := Lib.hid hl2
  have HA0 := Lib.hid ha0
  have HA1 := Lib.hid ha1
  have HA2 := Lib.hid ha2
  have HA0' := Lib.hid ga0
  have HA1' := Lib.hid ga1
  have HA2' := Lib.hid ga2
  clear hY hZ hl0 hl1 hl2 ha0 ha1 ha2 gl0 gl1 gl2 ga0 ga1 ga2
  go_enter Tryz.func50, Tryz.ntmps50
  go_wp2_with fail
  go_loopw [5] (fun i wr => ∃ k : Nat, k ≤ n0 ∧ i = .int .i64 k ∧ Blk wr w.heap.size 26 #[.slice A0 n0 c0, .slice A1 n1 c1, .slice A2 n2 c2] ∧ Blk wr (w.heap.size + 1) 26 #[.slice D0 n0 d0, .slice D1 n1 d1, .slice D2 n2 d2] ∧ Below w.heap.size w wr) (fun i _ => n0 - (intOf i).toNat)
  case atStart => exact ⟨0, by omega, rfl, bk_, bk_, bl_⟩
  case round =>
    obtain ⟨k, hk, rfl, bY, bZ, hb⟩ := hrel
    have hsr := hb.size
    have cY := bY.cell
    have lY := bY.lt
    have cZ := bZ.cell
    have lZ := bZ.lt
    have BY := Lib.hid bY
    have BZ := Lib.hid bZ
    clear bY bZ
    by_cases hlt : k < n0
    · have hkl : k < y.s.length := by rw [HL0.out]; exact hlt
      obtain ⟨b, o, eA, hbb, z0, z1⟩ := HA0.out k hkl
      obtain ⟨b', o', eA', hbb', p0, p1⟩ := HA0'.out k hkl
      have kb : ∀ b i, b < B → wr.cell? ⟨b, i, none⟩ = w.cell? ⟨b, i, none⟩ := fun b i h => hb.cell (p := ⟨b, i, none⟩) (by simp; omega)
      rw [← kb _ _ hbb] at z0 z1
      rw [← kb _ _ hbb'] at p0 p1
      clear kb
      subst eA
      subst eA'
      have hbw : b < wr.heap.size := by omega
      have hbw' : b' < wr.heap.size := by omega
      generalize y.s[k] = x at *
      obtain ⟨xn, xs⟩ := x
      dsimp only at z0 z1 p0 p1
      go_wp2_with fail
      (refine wp_region_calm [] [0, 1, 2, 3, 4, 5, 6, 7, 8, 9, 10] 0 (by kernel_rfl) rfl (by kernel_rfl) (by kernel_rfl) (by kernel_rfl) ?_; simp only [pickB, List.filterMap_cons, List.filterMap_nil, List.getElem?_toArray, List.getElem?_cons_zero, List.getElem?_cons_succ]; (repeat (first | ((first | (with_reducible refine quietL_plain rfl (fun K hK => ?_)) | (with_reducible refine quietL_want (by with_unfolding_all rfl) (fun K hK => ?_))); (apply Exists.intro; refine ⟨fun wx hx => ?_, ?_⟩; (· (have hcx := ifs_ex hx); simp [go_sem, *, ↓IntWalk.iteOmega] <;> (first | rfl | exact ⟨rfl, rfl⟩ | fail)); (simp only [Act.put, List.setIfInBounds_toArray, List.set_cons_zero, List.set_cons_succ]; refine hK _ ?_; clear hK K))) | ((with_reducible refine quietL_skip (by with_unfolding_all rfl) ?_); simp only [Act.put, List.setIfInBounds_toArray, List.set_cons_zero, List.set_cons_succ]))); refine quietL_nil ?_)
      (refine anyB_end (by kernel_rfl) ?_; intro w5 hb5; obtain ⟨hc5, hf5⟩ := ifs_of hb5; have hs5 := hb5.size; (try simp at hs5); simp only [Calm]; go_wp2_with fail)
      go_roundw
      case rel => exact ⟨k + 1, by omega, by go_num, BY.out.kept bl_, BZ.out.kept bl_, bl_⟩
      case measure => simp [intOf]; omega
    · obtain rfl : n0 = k := by omega
      go_wp2_with fail
      go_loopw [6] (fun i wr => ∃ k : Nat, k ≤ n1 ∧ i = .int .i64 k ∧ Blk wr w.heap.size 26 #[.slice A0 n0 c0, .slice A1 n1 c1, .slice A2 n2 c2] ∧ Blk wr (w.heap.size + 1) 26 #[.slice D0 n0 d0, .slice D1 n1 d1, .slice D2 n2 d2] ∧ Below w.heap.size w wr) (fun i _ => n1 - (intOf i).toNat)
      case atStart => exact ⟨0, by omega, rfl, BY.out, BZ.out, hb⟩
      case round =>
        clear cY lY cZ lZ BY BZ hb hsr
        obtain ⟨k, hk, rfl, bY, bZ, hb⟩ := hrel
        have hsr := hb.size
        have cY := bY.cell
        have lY := bY.lt
        have cZ := bZ.cell
        have lZ := bZ.lt
        have BY := Lib.hid bY
        have BZ := Lib.hid bZ
        clear bY bZ
        by_cases hlt : k < n1
        · have hkl : k < y.w.length := by rw [HL1.out]; exact hlt
          obtain ⟨b, o, eA, hbb, z0, z1, z2, z3, z4⟩ := HA1.out k hkl
          obtain ⟨b', o', eA', hbb', p0, p1, p2, p3, p4⟩ := HA1'.out k hkl
          have kb : ∀ b i, b < B → wr.cell? ⟨b, i, none⟩ = w.cell? ⟨b, i, none⟩ := fun b i h => hb.cell (p := ⟨b, i, none⟩) (by simp; omega)
          rw [← kb _ _ hbb] at z0 z1 z2 z3 z4
          rw [← kb _ _ hbb'] at p0 p1 p2 p3 p4
          clear kb
          subst eA
          subst eA'
          have hbw : b < wr.heap.size := by omega
          have hbw' : b' < wr.heap.size := by omega
          generalize y.w[k] = x at *
          obtain ⟨xn, xk, xa, xb, xc⟩ := x
          dsimp only at z0 z1 z2 z3 z4 p0 p1 p2 p3 p4
          go_wp2_with fail
          (refine wp_region_calm [] [0, 1, 2, 3, 4, 5, 6, 7, 8, 9, 10] 0 (by kernel_rfl) rfl (by kernel_rfl) (by kernel_rfl) (by kernel_rfl) ?_; simp only [pickB, List.filterMap_cons, List.filterMap_nil, List.getElem?_toArray, List.getElem?_cons_zero, List.getElem?_cons_succ]; (repeat (first | ((first | (with_reducible refine quietL_plain rfl (fun K hK => ?_)) | (with_reducible refine quietL_want (by with_unfolding_all rfl) (fun K hK => ?_))); (apply Exists.intro; refine ⟨fun wx hx => ?_, ?_⟩; (· (have hcx := ifs_ex hx); simp [go_sem, *, ↓IntWalk.iteOmega] <;> (first | rfl | exact ⟨rfl, rfl⟩ | fail)); (simp only [Act.put, List.setIfInBounds_toArray, List.set_cons_zero, List.set_cons_succ]; refine hK _ ?_; clear hK K))) | ((with_reducible refine quietL_skip (by with_unfolding_all rfl) ?_); simp only [Act.put, List.setIfInBounds_toArray, List.set_cons_zero, List.set_cons_succ]))); refine quietL_nil ?_)
          (refine anyB_end (by kernel_rfl) ?_; intro w5 hb5; obtain ⟨hc5, hf5⟩ := ifs_of hb5; have hs5 := hb5.size; (try simp at hs5); simp only [Calm]; go_wp2_with fail)
          go_roundw
          case rel => exact ⟨k + 1, by omega, by go_num, BY.out.kept bl_, BZ.out.kept bl_, bl_⟩
          case measure => simp [intOf]; omega
        · obtain rfl : n1 = k := by omega
          go_wp2_with fail
          go_loopw [7] (fun i wr => ∃ k : Nat, k ≤ n2 ∧ i = .int .i64 k ∧ Blk wr w.heap.size 26 #[.slice A0 n0 c0, .slice A1 n1 c1, .slice A2 n2 c2] ∧ Blk wr (w.heap.size + 1) 26 #[.slice D0 n0 d0, .slice D1 n1 d1, .slice D2 n2 d2] ∧ Below w.heap.size w wr) (fun i _ => n2 - (intOf i).toNat)
          case atStart => exact ⟨0, by omega, rfl, BY.out, BZ.out, hb⟩
          case round =>
            clear cY lY cZ lZ BY BZ hb hsr
            obtain ⟨k, hk, rfl, bY, bZ, hb⟩ := hrel
            have hsr := hb.size
            have cY := bY.cell
            have lY := bY.lt
            have cZ := bZ.cell
            have lZ := bZ.lt
            have BY := Lib.hid bY
            have BZ := Lib.hid bZ
            clear bY bZ
            by_cases hlt : k < n2
            · have hkl : k < y.p.length := by rw [HL2.out]; exact hlt
              obtain ⟨b, o, eA, hbb, z0, z1⟩ := HA2.out k hkl
              obtain ⟨b', o', eA', hbb', p0, p1⟩ := HA2'.out k hkl
              have kb : ∀ b i, b < B → wr.cell? ⟨b, i, none⟩ = w.cell? ⟨b, i, none⟩ := fun b i h => hb.cell (p := ⟨b, i, none⟩) (by simp; omega)
              rw [← kb _ _ hbb] at z0 z1
              rw [← kb _ _ hbb'] at p0 p1
              clear kb
              subst eA
              subst eA'
              have hbw : b < wr.heap.size := by omega
              have hbw' : b' < wr.heap.size := by omega
              generalize y.p[k] = x at *
              obtain ⟨xn, xs⟩ := x
              dsimp only at z0 z1 p0 p1
              go_wp2_with fail
              (refine wp_region_calm [] [0, 1, 2, 3, 4, 5, 6, 7, 8, 9, 10] 0 (by kernel_rfl) rfl (by kernel_rfl) (by kernel_rfl) (by kernel_rfl) ?_; simp only [pickB, List.filterMap_cons, List.filterMap_nil, List.getElem?_toArray, List.getElem?_cons_zero, List.getElem?_cons_succ]; (repeat (first | ((first | (with_reducible refine quietL_plain rfl (fun K hK => ?_)) | (with_reducible refine quietL_want (by with_unfolding_all rfl) (fun K hK => ?_))); (apply Exists.intro; refine ⟨fun wx hx => ?_, ?_⟩; (· (have hcx := ifs_ex hx); simp [go_sem, *, ↓IntWalk.iteOmega] <;> (first | rfl | exact ⟨rfl, rfl⟩ | fail)); (simp only [Act.put, List.setIfInBounds_toArray, List.set_cons_zero, List.set_cons_succ]; refine hK _ ?_; clear hK K))) | ((with_reducible refine quietL_skip (by with_unfolding_all rfl) ?_); simp only [Act.put, List.setIfInBounds_toArray, List.set_cons_zero, List.set_cons_succ]))); refine quietL_nil ?_)
              (refine anyB_end (by kernel_rfl) ?_; intro w5 hb5; obtain ⟨hc5, hf5⟩ := ifs_of hb5; have hs5 := hb5.size; (try simp at hs5); simp only [Calm]; go_wp2_with fail)
              go_roundw
              case rel => exact ⟨k + 1, by omega, by go_num, BY.out.kept bl_, BZ.out.kept bl_, bl_⟩
              case measure => simp [intOf]; omega
            · obtain rfl : n2 = k := by omega
              go_wp2_with fail
              go_ret
              exact ⟨by first | rfl | (simp; done), bl_⟩
end Go.Proofs.YtphlojgmfkgeiaaGreatDoor
