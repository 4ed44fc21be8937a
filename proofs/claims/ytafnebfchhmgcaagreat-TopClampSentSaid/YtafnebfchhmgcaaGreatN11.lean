/- The law's own copy of an arm. -/
import Derived.Test.YtafnebfchhmgcaaGreatN10
namespace Go.Proofs.YtafnebfchhmgcaaGreat
open Go.RowKit Go.Sort Go.Shelf
set_option linter.unusedSimpArgs false
set_option linter.unusedVariables false
attribute [local go_sem] cell_if frozen_if grow_cell
set_option maxRecDepth 100000 in
set_option maxHeartbeats 4000000 in
theorem clampArm_any (B : Nat) (A : Option Addr) (n c : Nat) (a : Ar) (w : World) (hM : MsAt w B A n a.m) (hB : B ≤ w.heap.size) (hn : n ≤ 1000) :
    Calls Tryz.prog 9 #[.agg #[.slice A n c, .int .i64 a.lo, .int .i64 a.hi, .int .i64 a.cur, .int .i64 a.lim]] w (OnRes 115 w a) := by
  obtain ⟨hl, hat⟩ := md_at hM
  have HL := Lib.hid hl
  have HA := Lib.hid hat
  clear hl hat hM
  go_enter Tryz.func9, Tryz.ntmps9
  go_wp2_with fail
  go_loopw [16] (fun i wr => ∃ (k : Nat) (v : Value), k ≤ n ∧ i = .int .i64 k ∧ OnI 26 36 115 w A n c a k v wr) (fun i _ => n - (intOf i).toNat)
  case atStart => exact ⟨0, .slice none 0 0, by omega, rfl, bk_, bk_, bk_, World.ownsRow_nil _ _ _ _, bl_, by simp⟩
  case round =>
    obtain ⟨k, v, hk, rfl, hI⟩ := hrel
    have HI := Lib.hid hI
    have hsz := hI.low.size
    have hle := hI.le
    have c3 := hI.b3.cell
    have f3 := hI.b3.frozen
    have l3 := hI.b3.lt
    clear hI
    by_cases hlt : k < n
    · have hkl : k < a.m.length := by rw [HL.out]; exact hlt
      obtain ⟨b, o, eA, hbb, z0, z1, z2, z3⟩ := HA.out k hkl
      have kb : ∀ i, wr.cell? ⟨b, i, none⟩ = w.cell? ⟨b, i, none⟩ := fun i => HI.out.low.cell (p := ⟨b, i, none⟩) (by simp; omega)
      rw [← kb] at z0 z1 z2 z3
      clear kb
      have hbw : b < wr.heap.size := by omega
      have HS : Hid (mds (a.m.take (k + 1)) = mds (a.m.take k) ++ a.m[k].cells) := by
        unfold mds
        rw [List.take_succ_eq_append_getElem hkl, List.flatMap_append]
        exact Lib.hid (by simp)
      subst eA
      generalize a.m[k] = x at *
      obtain ⟨xn, xq, xo, xb⟩ := x
      dsimp only at z0 z1 z2 z3 HS
      have hb1 : Below wr.heap.size wr (wr.alloc (.cells #[.string xn, .int .i64 xq, .bool xo, .bool xb] 48)) := bl_
      have HI2 := Lib.hid (HI.out.kept hb1)
      go_wp2_with (at_builtin; refine wpList_app 34 115 4 32 elemMd rfl (.tmp 21) (.tmp 23) rfl (w.heap.size + 1 + 1 + 1) v k (mds (a.m.take k)) rfl HI2.out.r 1 (by show Value.slice (some ⟨wr.heap.size + 1, 0, none⟩) 1 1 = _; simp) rfl (by intro u hu; simp at hu; rcases hu with rfl | rfl | rfl | rfl <;> rfl) (by decide) ?h3 ?h4 ?h5 ?_)
      case h3 => unfold maxLen; omega
      case h4 => omega
      case h5 => simp; omega
      intro g' cap' w' hown' hb' hk' hs'
      have hne : ∀ k' t' c', t' ≠ 115 → Blk (wr.alloc (.cells #[.string xn, .int .i64 xq, .bool xo, .bool xb] 48)) k' t' c' → Blk w' k' t' c' := fun k' t' c' ht hk => hk' k' t' c' hk (fun e => own_ne HI2.out.r hk ht e)
      have q1 := hne _ _ _ (by decide) HI2.out.b1
      have q2 := hne _ _ _ (by decide) HI2.out.b2
      have q3 := hne _ _ _ (by decide) HI2.out.b3
      have c3' := q3.cell
      have f3' := q3.frozen
      have l3' := q3.lt
      have HO := Lib.hid hown'
      have hle2 := HI2.out.le
      have hsz' := hb'.size
      have HLw := Lib.hid (HI2.out.low.trans (hb'.mono (by omega)))
      have Q1 := Lib.hid q1
      have Q2 := Lib.hid q2
      have Q3 := Lib.hid q3
      clear hown' hk' hne q1 q2 q3 hb'
      go_wp2
      go_roundw
      case rel =>
        refine ⟨k + 1, _, by omega, by go_num, Q1.out.far (p := ⟨w.heap.size + 1 + 1, 0, none⟩) (show w.heap.size ≠ w.heap.size + 1 + 1 by omega) _, Q2.out.far (p := ⟨w.heap.size + 1 + 1, 0, none⟩) (show w.heap.size + 1 ≠ w.heap.size + 1 + 1 by omega) _, Q3.out.set_ 0 _, ?_, HLw.out.setCell (p := ⟨w.heap.size + 1 + 1, 0, none⟩) (by show w.heap.size ≤ w.heap.size + 1 + 1; omega) _, ?_⟩
        · rw [HS.out]
          exact row_set HO.out Q3.out (by decide)
        · have e5 : ∀ (V : World) (p : Addr) (u : Value), (V.setCell p u).heap.size = V.heap.size := fun V p u => by simp [World.setCell]
          rw [e5]
          omega
      case measure => simp [intOf]; omega
    · obtain rfl : k = n := by omega
      have HR := HI.out.r
      rw [List.take_of_length_le (by rw [HL.out]; exact Nat.le_refl _)] at HR
      obtain ⟨A2, cap2, rfl, hcap, _, _⟩ := own_form HR
      have c2 := HI.out.b2.cell
      have f2 := HI.out.b2.frozen
      have l2 := HI.out.b2.lt
      have k0 := HI.out.b2
      have k1 := k0.set_ 0 (.slice A2 k cap2)
      have k2 := k1.set_ 1 (.int .i64 a.lo)
      have k3 := k2.set_ 2 (.int .i64 a.hi)
      have k4 := k3.set_ 3 (.int .i64 a.cur)
      have k5 := k4.set_ 4 (.int .i64 a.lim)
      have r1 := row_set (i := 0) (u := .slice A2 k cap2) HR k0 (by decide)
      have r2 := row_set (i := 1) (u := .int .i64 a.lo) r1 k1 (by decide)
      have r3 := row_set (i := 2) (u := .int .i64 a.hi) r2 k2 (by decide)
      have r4 := row_set (i := 3) (u := .int .i64 a.cur) r3 k3 (by decide)
      have r5 := row_set (i := 4) (u := .int .i64 a.lim) r4 k4 (by decide)
      have hlw : w.heap.size ≤ w.heap.size + 1 := by omega
      have m1 := HI.out.low.setCell (p := ⟨w.heap.size + 1, 0, none⟩) hlw (.slice A2 k cap2)
      have m2 := m1.setCell (p := ⟨w.heap.size + 1, 1, none⟩) hlw (.int .i64 a.lo)
      have m3 := m2.setCell (p := ⟨w.heap.size + 1, 2, none⟩) hlw (.int .i64 a.hi)
      have m4 := m3.setCell (p := ⟨w.heap.size + 1, 3, none⟩) hlw (.int .i64 a.cur)
      have m5 := m4.setCell (p := ⟨w.heap.size + 1, 4, none⟩) hlw (.int .i64 a.lim)
      have K5 := Lib.hid k5
      have R5 := Lib.hid r5
      have M5 := Lib.hid m5
      clear k0 k1 k2 k3 k4 k5 r1 r2 r3 r4 r5 m1 m2 m3 m4 m5 HR
      go_wp2_with fail
      have ck := K5.out.cell
      refine bodyPost_ret (v := .agg #[.slice A2 k cap2, .int .i64 a.lo, .int .i64 a.hi, .int .i64 a.cur, .int .i64 a.lim]) (by simp [results, Tryz.results9, go_sem, ck]) rfl ⟨_, A2, cap2, rfl, by rw [HL.out], ?_, by rw [HL.out]; exact hcap, M5.out⟩
      rw [HL.out]
      exact row_base R5.out (by omega)
end Go.Proofs.YtafnebfchhmgcaaGreat
