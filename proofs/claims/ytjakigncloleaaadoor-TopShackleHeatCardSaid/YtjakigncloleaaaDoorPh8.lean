/- Contracts of phasor: Framed, at six numbers. -/
import Derived.Test.YtjakigncloleaaaDoorPh7
namespace Go.Proofs.YtjakigncloleaaaDoor
open Go.RowKit Go.Sort
attribute [local go_sem] cell_if frozen_if grow_cell
def frT (s : Int) (k : Nat) : Int := wrap64 (-(s.tmod 6) * ((k : Int) % 6))
def frE (x : Nat → Int × Int) (s : Int) (k : Nat) : Int × Int := tr (six (frT s k)) (x k)
def frV (x : Nat → Int × Int) (s : Int) (j k : Nat) : Int × Int := if k < j then frE x s k else (0, 0)
theorem frV_succ (x : Nat → Int × Int) (s : Int) (k : Nat) : ∀ j, j < 6 → frV x s (k + 1) j = if j = k then frV x s (k + 1) k else frV x s k j := by
  intro j hj
  unfold frV
  by_cases h : j = k
  · rw [if_pos h, h]
  · rw [if_neg h]
    by_cases h2 : j < k
    · rw [if_pos h2, if_pos (by omega)]
    · rw [if_neg h2, if_neg (by omega)]
def FrPost (x : Nat → Int × Int) (s : Int) (w : World) (e : Ending) (w' : World) : Prop :=
  ∃ g, e = .returned (.tuple #[.slice (some ⟨g, 0, none⟩) 6 6, .int .i64 0]) ∧ Blk w' g 25 #[.int .i64 (frV x s 6 0).1, .int .i64 (frV x s 6 0).2, .int .i64 (frV x s 6 1).1, .int .i64 (frV x s 6 1).2, .int .i64 (frV x s 6 2).1, .int .i64 (frV x s 6 2).2, .int .i64 (frV x s 6 3).1, .int .i64 (frV x s 6 3).2, .int .i64 (frV x s 6 4).1, .int .i64 (frV x s 6 4).2, .int .i64 (frV x s 6 5).1, .int .i64 (frV x s 6 5).2] ∧ Below w.heap.size w w'
set_option maxHeartbeats 1000000 in
theorem Framed_any (x : Nat → Int × Int) (s : Int) (B : Nat) (A : Option Addr) (c : Nat) (w : World) (hs1 : -1000 ≤ s) (hs2 : s ≤ 1000) (hB : B ≤ w.heap.size)
    (hr : Nums w B A 6 [x 0, x 1, x 2, x 3, x 4, x 5]) (h : ∀ j, j < 6 → inB 1048576 (x j).1 (x j).2 = true) (hf : ∀ j, j < 6 → inB 1048576 (frE x s j).1 (frE x s j).2 = true) :
    Calls Tryd.prog 11 #[.slice A 6 c, .int .i64 s] w (FrPost x s w) := by
  have hk : Hid (ckA 1048576 [x 0, x 1, x 2, x 3, x 4, x 5] = 0) := ckA_yes (by
    intro y hy
    simp at hy
    rcases hy with rfl | rfl | rfl | rfl | rfl | rfl <;> exact h _ (by omega))
  have ht : Hid (ckR s (-1000000) 1000000 = 0) := ckR_yes (by omega)
  have hw0 : Hid (whenE false 5 = 0) := rfl
  have hmk : ∀ w, (Instr.makeSlice 40 (.int .i64 6) (.int .i64 6)).run Tryd.prog w = .ok (.slice (some ⟨w.heap.size, 0, none⟩) 6 6) (w.alloc (.cells #[.int .i64 0, .int .i64 0, .int .i64 0, .int .i64 0, .int .i64 0, .int .i64 0, .int .i64 0, .int .i64 0, .int .i64 0, .int .i64 0, .int .i64 0, .int .i64 0] 25)) := fun _ => by kernel_rfl
  have hm6 := tmod6 s
  obtain ⟨hm1, hm2⟩ := hm6
  have HF := Lib.hid hf
  clear h hf
  have HR := Lib.hid hr
  clear hr
  go_enter Tryd.func11, Tryd.ntmps11
  go_wp2_with (first | (go_at_call 34; refine (when_any _ _ _).mono ?_; rw [hw0.out]; rintro e w0 ⟨rfl, rfl⟩) | (go_at_call 35; refine (allWithin_any 1048576 B _ 6 _ [x 0, x 1, x 2, x 3, x 4, x 5] _ (by omega) (by omega) (by unfold maxLen; omega) hB HR.out).mono ?_; rw [hk.out]; rintro e w1 ⟨rfl, hb1⟩; obtain ⟨hc1, hf1⟩ := ifs_of hb1; have hs1 := hb1.size; (try simp at hs1)) | (go_at_call 26; refine (checkTurn_any _ _).mono ?_; rw [ht.out]; rintro e w2 ⟨rfl, rfl⟩) | (go_at_call 24; refine (first_new [0, 0, 0] _ _ 3 rfl (by unfold maxLen; omega)).mono ?_; rw [show firstE [0, 0, 0] = 0 from rfl]; rintro e w3 ⟨rfl, rfl⟩))
  go_loopw [30] (fun i wr => ∃ k : Nat, k ≤ 6 ∧ i = .int .i64 k ∧ Blk wr (w1.heap.size + 1) 25 #[.int .i64 (frV x s k 0).1, .int .i64 (frV x s k 0).2, .int .i64 (frV x s k 1).1, .int .i64 (frV x s k 1).2, .int .i64 (frV x s k 2).1, .int .i64 (frV x s k 2).2, .int .i64 (frV x s k 3).1, .int .i64 (frV x s k 3).2, .int .i64 (frV x s k 4).1, .int .i64 (frV x s k 4).2, .int .i64 (frV x s k 5).1, .int .i64 (frV x s k 5).2] ∧ Below w.heap.size w wr) (fun i _ => 6 - (intOf i).toNat)
  case atStart => exact ⟨0, by omega, rfl, (by show Blk _ _ _ #[.int .i64 0, .int .i64 0, .int .i64 0, .int .i64 0, .int .i64 0, .int .i64 0, .int .i64 0, .int .i64 0, .int .i64 0, .int .i64 0, .int .i64 0, .int .i64 0]; exact (by repeat (first | (with_reducible assumption) | ((with_reducible apply Blk.new_at); (first | (simp; done) | (simp; omega))) | (with_reducible apply Blk.drew) | (with_reducible refine Blk.alloc ?_ _) | (with_reducible apply blk_two) | ((with_reducible refine blk_far ?_ ?_ _); (· first | (simp; done) | (simp; omega) | omega)) | ((with_reducible apply blk_kept); (· with_reducible assumption))))), (by repeat (first | (with_reducible exact Below.refl _ _) | (with_reducible assumption) | ((with_reducible refine Below.alloc ?_ ?_ _); rotate_left; (· first | (simp; done) | (simp; omega) | omega)) | ((with_reducible refine Below.setCell ?_ ?_ _); rotate_left; (· first | (simp; done) | (simp; omega) | omega)) | (with_reducible apply Below.drew) | ((with_reducible apply below_step); (· with_reducible assumption); rotate_left; (· first | (simp; done) | (simp; omega) | omega))))⟩
  case round =>
    obtain ⟨k, hk6, rfl, C, hb⟩ := hrel
    have lc := C.lt
    have hsb := hb.size
    have HC := Lib.hid C
    by_cases hlt : k < 6
    · obtain ⟨b, o, a1, a2, rfl, hbl, hx, ha, hc⟩ := (HR.out.below (hb.mono hB)).at_ hlt
      have hx' : x k = (a1, a2) := by
        match k, hlt with
        | 0, _ => simpa using hx
        | 1, _ => simpa using hx
        | 2, _ => simpa using hx
        | 3, _ => simpa using hx
        | 4, _ => simpa using hx
        | 5, _ => simpa using hx
      have HX := Lib.hid hx'
      have hin := HF.out k hlt
      have e : frE x s k = tr (six (frT s k)) (a1, a2) := by unfold frE; rw [hx']
      rw [e] at hin
      have HE := Lib.hid e
      have HI := Lib.hid hin
      clear hx hx' hin e C
      have hk1 : (0 : Int) ≤ (k : Int) := by omega
      have hk2 : (k : Int) < 6 := by omega
      have D := HC.out
      obtain ⟨o0, o1⟩ := tw_at D hlt
      have g3 := D.frozen
      clear D
      go_wp2_with (first | (go_at_call 28; refine (turned_any _ _ _ _).mono ?_; rintro e w4 ⟨rfl, hb4⟩; obtain ⟨hc4, hf4⟩ := ifs_of hb4; have hs4 := hb4.size; (try simp at hs4)) | (go_at_call 27; refine (fit_yes _ _ _ HI.out).mono ?_; rintro e w5 ⟨rfl, hb5⟩; obtain ⟨hc5, hf5⟩ := ifs_of hb5; have hs5 := hb5.size; (try simp at hs5)))
      go_roundw
      case rel =>
        refine ⟨k + 1, by omega, by go_num, ?_, (by repeat (first | (with_reducible exact Below.refl _ _) | (with_reducible assumption) | ((with_reducible refine Below.alloc ?_ ?_ _); rotate_left; (· first | (simp; done) | (simp; omega) | omega)) | ((with_reducible refine Below.setCell ?_ ?_ _); rotate_left; (· first | (simp; done) | (simp; omega) | omega)) | (with_reducible apply Below.drew) | ((with_reducible apply below_step); (· with_reducible assumption); rotate_left; (· first | (simp; done) | (simp; omega) | omega))))⟩
        have h1 := (HC.out.alloc (.cells #[.int .i64 a1, .int .i64 a2] 25)).kept hb4
        have h2 := (h1.kept hb5).alloc (.cells #[.int .i64 (tr (six (frT s k)) (a1, a2)).1, .int .i64 (tr (six (frT s k)) (a1, a2)).2] 25)
        have h3 := tw_set hlt h2 (frV_succ x s k)
        have e : frV x s (k + 1) k = tr (six (frT s k)) (a1, a2) := by unfold frV; rw [if_pos (by omega), HE.out]
        rw [e] at h3
        exact h3
      case measure => simp [intOf]; omega
    · obtain rfl : k = 6 := by omega
      go_wp2
      go_ret2
      exact ⟨_, rfl, HC.out, hb⟩
end Go.Proofs.YtjakigncloleaaaDoor
