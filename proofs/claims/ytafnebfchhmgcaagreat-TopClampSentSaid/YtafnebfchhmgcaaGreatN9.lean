/- The reference's comparison and check of samples. -/
import Derived.Test.YtafnebfchhmgcaaGreatN7
namespace Go.Proofs.YtafnebfchhmgcaaGreat
open Go Go.RowKit Go.Sort Go.Shelf
set_option linter.unusedSimpArgs false
set_option linter.unusedVariables false
attribute [local go_sem] cell_if frozen_if grow_cell
set_option maxRecDepth 100000 in
theorem CheckSamples_any (B : Nat) (A : Option Addr) (n c : Nat) (l : List Nat) (w : World) (hr : Reads w B 1 A n (l.map (Value.float .f32))) (hB : B ≤ w.heap.size) (hn : n ≤ 1000) :
    Calls Tryz.prog 67 #[.slice A n c] w fun e w' => e = .returned (.int .i64 (firstE (l.map sampE))) ∧ Below w.heap.size w w' := by
  obtain ⟨hl, ha⟩ := enc_at hr
  have HL := Lib.hid hl
  have HA := Lib.hid ha
  clear hl ha hr
  go_enter Tryz.func67, Tryz.ntmps67
  go_wp2_with fail
  go_loopw [3, 4] (fun i _ wr => ∃ k : Nat, k ≤ n ∧ i = .int .i64 (k : Int) ∧ Hid (firstE (l.map sampE) = firstE ((l.drop k).map sampE)) ∧ Below w.heap.size w wr) (fun i _ _ => n - (intOf i).toNat)
  case atStart => exact ⟨0, Nat.zero_le _, rfl, Lib.hid rfl, bl_⟩
  case round =>
    obtain ⟨k, hk, rfl, hf, hb⟩ := hrel
    have hs := hb.size
    have HB := Lib.hid hb
    by_cases hlt : k < n
    · have hkl : k < l.length := by rw [HL.out]; exact hlt
      obtain ⟨b, o, eA, hbb, z0⟩ := HA.out k hkl
      have kb : ∀ i, wr.cell? ⟨b, i, none⟩ = w.cell? ⟨b, i, none⟩ := fun i => hb.cell (p := ⟨b, i, none⟩) (by simp; omega)
      rw [← kb] at z0
      have hbw : b < wr.heap.size := by omega
      subst eA
      have hd : l.drop k = l[k] :: l.drop (k + 1) := List.drop_eq_getElem_cons hkl
      have HF : Hid (firstE (l.map sampE) = or0 (sampE l[k]) (firstE ((l.drop (k + 1)).map sampE))) := Lib.hid (by rw [hf.out, hd, List.map_cons, firstE_cons])
      have HC := Lib.hid (rCheckSample_any l[k] wr)
      obtain ⟨e, he⟩ : ∃ e, sampE l[k] = e := ⟨_, rfl⟩
      rw [he] at HF HC
      generalize l[k] = x at *
      clear kb hd hf he hb
      by_cases h0 : e = 0
      · subst h0
        have HF2 : Hid (firstE (l.map sampE) = firstE ((l.drop (k + 1)).map sampE)) := HF
        clear HF
        go_wp2_with fail
        refine HC.out.mono ?_
        rintro e w1 ⟨rfl, hb1⟩
        have HB1 := Lib.hid (HB.out.trans (hb1.mono hs))
        clear hb1 HC
        go_wp2_with fail
        go_roundw
        case rel => exact ⟨k + 1, by omega, by go_num, HF2, HB1.out⟩
        case measure => simp [intOf]; omega
      · have hne : (e != 0) = true := by simpa using h0
        have HF2 : Hid (firstE (l.map sampE) = e) := Lib.hid (by rw [HF.out]; unfold or0; rw [if_neg h0])
        clear HF h0
        go_wp2_with fail
        refine HC.out.mono ?_
        rintro e' w1 ⟨rfl, hb1⟩
        have HB1 := Lib.hid (HB.out.trans (hb1.mono hs))
        clear hb1 HC
        go_wp2_with fail
        go_ret
        exact ⟨by rw [HF2.out]; rfl, HB1.out⟩
    · obtain rfl : k = n := by omega
      have hd : l.drop k = [] := List.drop_eq_nil_of_le (by rw [HL.out]; exact Nat.le_refl _)
      have HF2 : Hid (firstE (l.map sampE) = 0) := Lib.hid (by rw [hf.out, hd]; rfl)
      clear hd hf hb
      go_wp2_with fail
      go_ret
      exact ⟨by rw [HF2.out]; rfl, HB.out⟩
theorem CheckList_any (B : Nat) (A : Option Addr) (n c : Nat) (l : List Nat) (w : World) (hr : Reads w B 1 A n (l.map (Value.float .f32))) (hB : B ≤ w.heap.size) (hn : n ≤ 1000) :
    Calls Tryz.prog 17 #[.slice A n c] w fun e w' => e = .returned (.int .i64 (firstE (l.map sampE))) ∧ Below w.heap.size w w' := by
  have HC := Lib.hid (CheckSamples_any B A n c l w hr hB hn)
  have h1 : ¬ (1024 : Int) < (n : Int) := by omega
  clear hr
  go_enter Tryz.func17, Tryz.ntmps17
  go_wp2_with fail
  refine HC.out.mono ?_
  rintro e w1 ⟨rfl, hb1⟩
  go_wp2_with fail
  go_ret
  exact ⟨rfl, hb1⟩
theorem order_self {x : Nat} (h : sampE x = 0) : (FloatKind.f32.format.order x x != some .eq) = false := by
  rcases single_read x with ⟨s, m, i, hf⟩ | ⟨s, hx⟩ | ⟨s, t, hx⟩
  · have e : (FloatKind.f32.format.order x x == some .eq) = true := by
      show ((Ieee.single.read x).order (Ieee.single.read x) == some .eq) = true
      rw [hf.rd, order_val (by have := hf.lo; omega) (by have := hf.lo; omega), cmp_eq]
      simp
    simp only [bne, e]
    rfl
  · unfold sampE at h
    rw [hx] at h
    cases h
  · unfold sampE at h
    rw [hx] at h
    cases h
set_option maxRecDepth 100000 in
set_option maxHeartbeats 2000000 in
theorem SameSamples_yes (B : Nat) (A A' : Option Addr) (n c c' : Nat) (l : List Nat) (w : World) (hr : Reads w B 1 A n (l.map (Value.float .f32))) (hr' : Reads w B 1 A' n (l.map (Value.float .f32))) (hB : B ≤ w.heap.size) (hn : n ≤ 1000) (hs : ∀ x ∈ l, sampE x = 0) :
    Calls Tryz.prog 16 #[.slice A n c, .slice A' n c'] w fun e w' => e = .returned (.bool true) ∧ Below w.heap.size w w' := by
  obtain ⟨hl, ha⟩ := enc_at hr
  obtain ⟨_, ha'⟩ := enc_at hr'
  have HL := Lib.hid hl
  have HA := Lib.hid ha
  have HA' := Lib.hid ha'
  have HS := Lib.hid hs
  clear hl ha ha' hr hr' hs
  go_enter Tryz.func16, Tryz.ntmps16
  go_wp2_with fail
  go_loopw [5] (fun i wr => ∃ k : Nat, k ≤ n ∧ i = .int .i64 k ∧ Below w.heap.size w wr) (fun i _ => n - (intOf i).toNat)
  case atStart => exact ⟨0, by omega, rfl, bl_⟩
  case round =>
    obtain ⟨k, hk, rfl, hb⟩ := hrel
    have hsz := hb.size
    by_cases hlt : k < n
    · have hkl : k < l.length := by rw [HL.out]; exact hlt
      obtain ⟨b, o, eA, hbb, z0⟩ := HA.out k hkl
      obtain ⟨b', o', eA', hbb', z0'⟩ := HA'.out k hkl
      have kb : ∀ i, wr.cell? ⟨b, i, none⟩ = w.cell? ⟨b, i, none⟩ := fun i => hb.cell (p := ⟨b, i, none⟩) (by simp; omega)
      have kb' : ∀ i, wr.cell? ⟨b', i, none⟩ = w.cell? ⟨b', i, none⟩ := fun i => hb.cell (p := ⟨b', i, none⟩) (by simp; omega)
      rw [← kb] at z0
      rw [← kb'] at z0'
      clear kb kb'
      subst eA
      subst eA'
      have ho := order_self (HS.out _ (List.getElem_mem hkl))
      have hbw : b < wr.heap.size := by omega
      have hbw' : b' < wr.heap.size := by omega
      generalize l[k] = x at *
      go_wp2_with fail
      (refine wp_region_all_below (by kernel_rfl) (by kernel_rfl) ?_; (repeat (go_big_quiet_step (fail))); refine wpQuiet_nil ?_)
      intro w5 hb5
      go_wp2_with fail
      go_roundw
      case rel => exact ⟨k + 1, by omega, by go_num, hb.trans (hb5.mono (by omega))⟩
      case measure => simp [intOf]; omega
    · obtain rfl : k = n := by omega
      go_wp2_with fail
      go_ret
      exact ⟨rfl, hb⟩
end Go.Proofs.YtafnebfchhmgcaaGreat
