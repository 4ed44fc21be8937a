/- The shackle's arms by value, their pulses, trains that are the same. -/
import Derived.Test.YtafnebfchhmgcaaGreatV2
import Derived.Test.YtafnebfchhmgcaaGreatQe
namespace Go.Proofs.YtafnebfchhmgcaaGreat
open Go Go.RowKit Go.Sort Go.Shelf
set_option linter.unusedSimpArgs false
set_option linter.unusedVariables false
attribute [local go_sem] cell_if frozen_if grow_cell
set_option maxRecDepth 100000 in
set_option maxHeartbeats 4000000 in
theorem shackleModules_any (B : Nat) (A : Option Addr) (n c : Nat) (a : Ar) (w : World) (hM : MsAt w B A n a.m) (hB : B ≤ w.heap.size) (hn : n ≤ 1000) :
    Calls Tryz.prog 32 #[.agg #[.slice A n c, .int .i64 a.lo, .int .i64 a.hi, .int .i64 a.cur, .int .i64 a.lim]] w (OnRes 115 w a) := by
  obtain ⟨hl, hat⟩ := md_at hM
  have HL := Lib.hid hl
  have HA := Lib.hid hat
  clear hl hat hM
  go_enter Tryz.func32, Tryz.ntmps32
  go_wp2_with fail
  go_loopw [16] (fun i wr => ∃ (k : Nat) (v : Value), k ≤ n ∧ i = .int .i64 k ∧ OnI 26 36 115 w A n c a k v wr) (fun i _ => n - (intOf i).toNat)
  case atStart => exact ⟨0, .slice none 0 0, by omega, rfl, bk_, bk_, bk_, World.ownsRow_nil _ _ _ _, bl_, by simp⟩
  case round =>
    obtain ⟨k, v, hk, rfl, hI⟩ := hrel
    have HI := Lib.hid hI
    have hsz := hI.low.size
    have hle := hI.le
    have c3 := hI.b3.cell
    have f3 := hI.b3.frozen
    have l3 := hI.b3.lt
    clear hI
    by_cases hlt : k < n
    · have hkl : k < a.m.length := by rw [HL.out]; exact hlt
      obtain ⟨b, o, eA, hbb, z0, z1, z2, z3⟩ := HA.out k hkl
      have kb : ∀ i, wr.cell? ⟨b, i, none⟩ = w.cell? ⟨b, i, none⟩ := fun i => HI.out.low.cell (p := ⟨b, i, none⟩) (by simp; omega)
      rw [← kb] at z0 z1 z2 z3
      clear kb
      have hbw : b < wr.heap.size := by omega
      have HS : Hid (mds (a.m.take (k + 1)) = mds (a.m.take k) ++ a.m[k].cells) := by
        unfold mds
        rw [List.take_succ_eq_append_getElem hkl, List.flatMap_append]
        exact Lib.hid (by simp)
      subst eA
      generalize a.m[k] = x at *
      obtain ⟨xn, xq, xo, xb⟩ := x
      dsimp only at z0 z1 z2 z3 HS
      have hb1 : Below wr.heap.size wr (wr.alloc (.cells #[.string xn, .int .i64 xq, .bool xo, .bool xb] 48)) := bl_
      have HI2 := Lib.hid (HI.out.kept hb1)
      go_wp2_with (at_builtin; refine wpList_app 34 115 4 32 elemMd rfl (.tmp 21) (.tmp 23) rfl (w.heap.size + 1 + 1 + 1) v k (mds (a.m.take k)) rfl HI2.out.r 1 (by show Value.slice (some ⟨wr.heap.size + 1, 0, none⟩) 1 1 = _; simp) rfl (by intro u hu; simp at hu; rcases hu with rfl | rfl | rfl | rfl <;> rfl) (by decide) ?h3 ?h4 ?h5 ?_)
      case h3 => unfold maxLen; omega
      case h4 => omega
      case h5 => simp; omega
      intro g' cap' w' hown' hb' hk' hs'
      have hne : ∀ k' t' c', t' ≠ 115 → Blk (wr.alloc (.cells #[.string xn, .int .i64 xq, .bool xo, .bool xb] 48)) k' t' c' → Blk w' k' t' c' := fun k' t' c' ht hk => hk' k' t' c' hk (fun e => own_ne HI2.out.r hk ht e)
      have q1 := hne _ _ _ (by decide) HI2.out.b1
      have q2 := hne _ _ _ (by decide) HI2.out.b2
      have q3 := hne _ _ _ (by decide) HI2.out.b3
      have c3' := q3.cell
      have f3' := q3.frozen
      have l3' := q3.lt
      have HO := Lib.hid hown'
      have hle2 := HI2.out.le
      have hsz' := hb'.size
      have HLw := Lib.hid (HI2.out.low.trans (hb'.mono (by omega)))
      have Q1 := Lib.hid q1
      have Q2 := Lib.hid q2
      have Q3 := Lib.hid q3
      clear hown' hk' hne q1 q2 q3 hb'
      go_wp2
      go_roundw
      case rel =>
        refine ⟨k + 1, _, by omega, by go_num, Q1.out.far (p := ⟨w.heap.size + 1 + 1, 0, none⟩) (show w.heap.size ≠ w.heap.size + 1 + 1 by omega) _, Q2.out.far (p := ⟨w.heap.size + 1 + 1, 0, none⟩) (show w.heap.size + 1 ≠ w.heap.size + 1 + 1 by omega) _, Q3.out.set_ 0 _, ?_, HLw.out.setCell (p := ⟨w.heap.size + 1 + 1, 0, none⟩) (by show w.heap.size ≤ w.heap.size + 1 + 1; omega) _, ?_⟩
        · rw [HS.out]
          exact row_set HO.out Q3.out (by decide)
        · have e5 : ∀ (V : World) (p : Addr) (u : Value), (V.setCell p u).heap.size = V.heap.size := fun V p u => by simp [World.setCell]
          rw [e5]
          omega
      case measure => simp [intOf]; omega
    · obtain rfl : k = n := by omega
      have HR := HI.out.r
      rw [List.take_of_length_le (by rw [HL.out]; exact Nat.le_refl _)] at HR
      obtain ⟨A2, cap2, rfl, hcap, _, _⟩ := own_form HR
      have c2 := HI.out.b2.cell
      have f2 := HI.out.b2.frozen
      have l2 := HI.out.b2.lt
      have k0 := HI.out.b2
      have k1 := k0.set_ 0 (.slice A2 k cap2)
      have k2 := k1.set_ 1 (.int .i64 a.lo)
      have k3 := k2.set_ 2 (.int .i64 a.hi)
      have k4 := k3.set_ 3 (.int .i64 a.cur)
      have k5 := k4.set_ 4 (.int .i64 a.lim)
      have r1 := row_set (i := 0) (u := .slice A2 k cap2) HR k0 (by decide)
      have r2 := row_set (i := 1) (u := .int .i64 a.lo) r1 k1 (by decide)
      have r3 := row_set (i := 2) (u := .int .i64 a.hi) r2 k2 (by decide)
      have r4 := row_set (i := 3) (u := .int .i64 a.cur) r3 k3 (by decide)
      have r5 := row_set (i := 4) (u := .int .i64 a.lim) r4 k4 (by decide)
      have hlw : w.heap.size ≤ w.heap.size + 1 := by omega
      have m1 := HI.out.low.setCell (p := ⟨w.heap.size + 1, 0, none⟩) hlw (.slice A2 k cap2)
      have m2 := m1.setCell (p := ⟨w.heap.size + 1, 1, none⟩) hlw (.int .i64 a.lo)
      have m3 := m2.setCell (p := ⟨w.heap.size + 1, 2, none⟩) hlw (.int .i64 a.hi)
      have m4 := m3.setCell (p := ⟨w.heap.size + 1, 3, none⟩) hlw (.int .i64 a.cur)
      have m5 := m4.setCell (p := ⟨w.heap.size + 1, 4, none⟩) hlw (.int .i64 a.lim)
      have K5 := Lib.hid k5
      have R5 := Lib.hid r5
      have M5 := Lib.hid m5
      clear k0 k1 k2 k3 k4 k5 r1 r2 r3 r4 r5 m1 m2 m3 m4 m5 HR
      go_wp2_with fail
      have ck := K5.out.cell
      refine bodyPost_ret (v := .agg #[.slice A2 k cap2, .int .i64 a.lo, .int .i64 a.hi, .int .i64 a.cur, .int .i64 a.lim]) (by simp [results, Tryz.results32, go_sem, ck]) rfl ⟨_, A2, cap2, rfl, by rw [HL.out], ?_, by rw [HL.out]; exact hcap, M5.out⟩
      rw [HL.out]
      exact row_base R5.out (by omega)
set_option maxRecDepth 100000 in
set_option maxHeartbeats 4000000 in
theorem shackleOn_any (B : Nat) (A : Option Addr) (n c : Nat) (a : Ar) (w : World) (hM : MsAt w B A n a.m) (hB : B ≤ w.heap.size) (hn : n ≤ 12) :
    Calls Tryz.prog 39 #[.agg #[.slice A n c, .int .i64 a.lo, .int .i64 a.hi, .int .i64 a.cur, .int .i64 a.lim]] w fun e w' => e = .returned (.int .i64 (bitN (onL a) : Nat)) ∧ Below w.heap.size w w' := by
  obtain ⟨hl, hat⟩ := md_at hM
  have HL := Lib.hid hl
  have HA := Lib.hid hat
  have HOn : Hid (onL a = idxs (fun x => x.on) 0 a.m) := Lib.hid rfl
  clear hl hat hM
  go_enter Tryz.func39, Tryz.ntmps39
  go_wp2_with fail
  go_loopw [3, 9] (fun s3 i wr => ∃ (k : Nat) (v : Value), k ≤ n ∧ i = .int .i64 (k : Int) ∧ s3 = v ∧ wr.ownsRow (w.heap.size + 1) 3 1 v (idxs (fun x => x.on) 0 (a.m.take k)).length ((idxs (fun x => x.on) 0 (a.m.take k)).map (.int .i64)) ∧ Below w.heap.size w wr ∧ w.heap.size + 1 ≤ wr.heap.size) (fun _ i _ => n - (intOf i).toNat)
  case atStart => exact ⟨0, _, by omega, rfl, rfl, World.ownsRow_nil _ _ _ _, bl_, by simp⟩
  case round =>
    obtain ⟨k, v, hk, rfl, rfl, hO, hb, hsz⟩ := hrel
    have HO := Lib.hid hO
    have HB := Lib.hid hb
    have hs := hb.size
    clear hO hb
    by_cases hlt : k < n
    · have hkl : k < a.m.length := by rw [HL.out]; exact hlt
      obtain ⟨b, o, eA, hbb, z0, z1, z2, z3⟩ := HA.out k hkl
      have kb : ∀ i, wr.cell? ⟨b, i, none⟩ = w.cell? ⟨b, i, none⟩ := fun i => HB.out.cell (p := ⟨b, i, none⟩) (by simp; omega)
      rw [← kb] at z0 z1 z2 z3
      clear kb
      have hbw : b < wr.heap.size := by omega
      have HT := Lib.hid (idxs_take (fun x => x.on) hkl)
      have hlen : (idxs (fun x => x.on) 0 (a.m.take k)).length ≤ k := by
        have := idxs_len (fun x => x.on) (a.m.take k) 0
        rw [List.length_take] at this
        omega
      generalize a.m[k] = x at *
      generalize idxs (fun x => x.on) 0 (a.m.take k) = L at *
      obtain ⟨xn, xq, xo, xb⟩ := x
      dsimp only at z0 z1 z2 z3 HT
      subst eA
      have hb1 : Below wr.heap.size wr (wr.alloc (.cells #[.string xn, .int .i64 xq, .bool xo, .bool xb] 115)) := (Below.refl _ _).alloc (Nat.le_refl _) _
      have HO2 := Lib.hid (own_kept HO.out hb1)
      have HB2 := Lib.hid (HB.out.trans (hb1.mono hs))
      clear hb1
      cases xo with
      | true =>
        go_wp2_with (at_builtin; refine wpList_app 73 3 1 8 elemInt rfl (.tmp 16) (.tmp 18) rfl (w.heap.size + 1) _ L.length _ rfl HO2.out 1 (by show Value.slice (some ⟨wr.heap.size + 1, 0, none⟩) 1 1 = _; simp) rfl ?h1 (by decide) ?h3 ?h4 (by simp; omega) ?_)
        case h1 => first | rfl | (intro u hu; simp at hu; subst hu; rfl)
        case h3 => unfold maxLen; omega
        case h4 => omega
        intro g' cap' w' hown' hb' _ hs'
        have HO3 := Lib.hid hown'
        have HB3 := Lib.hid (HB2.out.trans (hb'.mono (by omega)))
        have hs3 := hb'.size
        simp at hs3
        clear hown' hb'
        go_wp2
        go_roundw
        case rel => exact ⟨k + 1, _, by omega, by go_num, rfl, by rw [HT.out]; simpa using HO3.out, HB3.out, by omega⟩
        case measure => simp [intOf]; omega
      | false =>
        go_wp2_with fail
        go_roundw
        case rel => exact ⟨k + 1, _, by omega, by go_num, rfl, by rw [HT.out]; simpa using HO2.out, HB2.out, by simp; omega⟩
        case measure => simp [intOf]; omega
    · obtain rfl : k = n := by omega
      have h6 := HO.out
      rw [List.take_of_length_le (by rw [HL.out]; exact Nat.le_refl _), ← HOn.out] at h6
      obtain ⟨A6, c6, rfl, _, _, hr6⟩ := own_form h6
      have HR := Lib.hid hr6
      have HI : Hid (∀ i ∈ onL a, 0 ≤ i ∧ i < 12) := Lib.hid (fun i hi => by
        rw [HOn.out] at hi
        obtain ⟨j, hj, e, _⟩ := mem_idxs.1 hi
        have := HL.out
        omega)
      have hlen : (onL a).length ≤ 12 := by
        have := idxs_len (fun x => x.on) a.m 0
        have := HL.out
        rw [HOn.out]
        omega
      clear h6 hr6
      go_wp2_with fail
      refine (bits_any wr.heap.size A6 _ c6 (onL a) wr HR.out (by omega) HI.out).mono ?_
      rintro e w5 ⟨rfl, rfl⟩
      go_wp2_with fail
      go_ret
      exact ⟨rfl, HB.out⟩
set_option maxRecDepth 100000 in
set_option maxHeartbeats 4000000 in
theorem shackleSame_yes (B : Nat) (A A' : Option Addr) (n c c' : Nat) (l : List Od) (w : World) (h1 : Reads w B 2 A n (ods l)) (h2 : Reads w B 2 A' n (ods l)) (hB : B ≤ w.heap.size) (hn : n ≤ 1000) :
    Calls Tryz.prog 42 #[.slice A n c, .slice A' n c'] w fun e w' => e = .returned (.bool true) ∧ Below w.heap.size w w' := by
  obtain ⟨hl, ha⟩ := od_at h1
  obtain ⟨_, ha'⟩ := od_at h2
  have HL := Lib.hid hl
  have HA := Lib.hid ha
  have HA' := Lib.hid ha'
  have hnn : (n != n) = false := by simp
  clear hl ha ha' h1 h2
  go_enter Tryz.func42, Tryz.ntmps42
  go_wp2_with fail
  go_loopw [13] (fun i wr => ∃ k : Nat, k ≤ n ∧ i = .int .i64 (k : Int) ∧ Below w.heap.size w wr) (fun i _ => n - (intOf i).toNat)
  case atStart => exact ⟨0, by omega, rfl, Below.refl _ _⟩
  case round =>
    obtain ⟨k, hk, rfl, hb⟩ := hrel
    have HB := Lib.hid hb
    clear hb
    by_cases hlt : k < n
    · have hkl : k < l.length := by rw [HL.out]; exact hlt
      have hkI : (k : Int) < (n : Int) := by omega
      obtain ⟨b, o, eA, hbb, z0, z1⟩ := HA.out k hkl
      obtain ⟨b', o', eA', hbb', y0, y1⟩ := HA'.out k hkl
      have kb : ∀ i, wr.cell? ⟨b, i, none⟩ = w.cell? ⟨b, i, none⟩ := fun i => HB.out.cell (p := ⟨b, i, none⟩) (by simp; omega)
      have kb' : ∀ i, wr.cell? ⟨b', i, none⟩ = w.cell? ⟨b', i, none⟩ := fun i => HB.out.cell (p := ⟨b', i, none⟩) (by simp; omega)
      rw [← kb] at z0 z1
      rw [← kb'] at y0 y1
      have hbw : b < wr.heap.size := by have := HB.out.size; omega
      have hbw' : b' < wr.heap.size := by have := HB.out.size; omega
      clear kb kb'
      generalize l[k] = x at *
      obtain ⟨t, p⟩ := x
      dsimp only at z0 z1 y0 y1
      subst eA
      subst eA'
      go_upto_region 6 with fail
      go_cut [24] (fun s24 wx => s24 = .bool false ∧ Below wr.heap.size wr wx)
      case first =>
        go_wp2_with fail
        (refine wp_region_calm [] [0, 1, 2, 3, 4, 5, 6, 7, 8] 0 (by kernel_rfl) rfl (by kernel_rfl) (by kernel_rfl) (by kernel_rfl) ?_; simp only [pickB, List.filterMap_cons, List.filterMap_nil, List.getElem?_toArray, List.getElem?_cons_zero, List.getElem?_cons_succ]; (repeat (first | ((first | (with_reducible refine quietL_plain rfl (fun K hK => ?_)) | (with_reducible refine quietL_want (by with_unfolding_all rfl) (fun K hK => ?_))); (apply Exists.intro; refine ⟨fun wx hx => ?_, ?_⟩; (· (have hcx := ifs_ex hx); simp [go_sem, *, ↓IntWalk.iteOmega] <;> (first | rfl | exact ⟨rfl, rfl⟩ | fail)); (simp only [Act.put, List.setIfInBounds_toArray, List.set_cons_zero, List.set_cons_succ]; refine hK _ ?_; clear hK K))) | ((with_reducible refine quietL_skip (by with_unfolding_all rfl) ?_); simp only [Act.put, List.setIfInBounds_toArray, List.set_cons_zero, List.set_cons_succ]))); refine quietL_nil ?_)
        (refine anyB_end (by kernel_rfl) ?_; intro w5 hb5; have hs5 := hb5.size; (try simp at hs5); simp only [Calm])
        have HB5 := Lib.hid hb5
        go_wp2_with fail
        go_meet
        case rel => exact ⟨rfl, HB5.out⟩
      rename World => W2
      obtain ⟨rfl, hb⟩ := hcut
      have HB2 := Lib.hid (HB.out.trans (hb.mono HB.out.size))
      clear hb
      go_wp2_with fail
      go_roundw
      case rel => exact ⟨k + 1, by omega, by go_num, HB2.out⟩
      case measure => simp [intOf]; omega
    · obtain rfl : k = n := by omega
      go_wp2_with fail
      go_ret
      exact ⟨rfl, HB.out⟩
end Go.Proofs.YtafnebfchhmgcaaGreat
