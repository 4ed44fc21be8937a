/- Contracts of phasor: turned, first, Turned. -/
import Derived.Test.YtjakigncloleaaaDoorPh
namespace Go.Proofs.YtjakigncloleaaaDoor
open Go.RowKit
attribute [local go_sem] cell_if frozen_if

def tstep (p : Int × Int) : Int × Int := (wrap64 (p.1 - p.2), p.1)
def tr : Nat → Int × Int → Int × Int
  | 0, p => p
  | n + 1, p => tstep (tr n p)
def six (s : Int) : Nat := ((s.tmod 6 + 6) % 6).toNat
theorem tmod6 (s : Int) : -5 ≤ s.tmod 6 ∧ s.tmod 6 ≤ 5 := by
  have h1 := Int.tmod_lt_of_pos s (b := 6) (by omega)
  have h2 := Int.neg_tmod s 6
  have h3 := Int.tmod_lt_of_pos (-s) (b := 6) (by omega)
  omega
set_option maxHeartbeats 400000 in
theorem turned_any (a b s : Int) (w : World) :
    Calls Tryd.prog 28 #[.agg #[.int .i64 a, .int .i64 b], .int .i64 s] w fun e w' => e = .returned (.agg #[.int .i64 (tr (six s) (a, b)).1, .int .i64 (tr (six s) (a, b)).2]) ∧ Below w.heap.size w w' := by
  obtain ⟨hm1, hm2⟩ := tmod6 s
  have HT : Hid (((six s : Nat) : Int) = (s.tmod 6 + 6) % 6) := by unfold six; show _ = _; omega
  go_enter Tryd.func28, Tryd.ntmps28
  go_wp2
  go_loopw [9] (fun i wr => ∃ k : Nat, k ≤ six s ∧ i = .int .i64 k ∧ Blk wr w.heap.size 77 #[.int .i64 (tr k (a, b)).1, .int .i64 (tr k (a, b)).2] ∧ Blk wr (w.heap.size + 1) 77 #[.int .i64 0, .int .i64 0] ∧ Below w.heap.size w wr) (fun i _ => six s - (intOf i).toNat)
  case atStart => exact ⟨0, Nat.zero_le _, rfl, (Blk.new _ _ _).alloc _, Blk.new_at _ _ (by simp), (by repeat (first | (with_reducible exact Below.refl _ _) | (with_reducible assumption) | ((with_reducible refine Below.alloc ?_ ?_ _); rotate_left; (· first | (simp; done) | (simp; omega) | omega)) | ((with_reducible refine Below.setCell ?_ ?_ _); rotate_left; (· first | (simp; done) | (simp; omega) | omega)) | (with_reducible apply Below.drew) | ((with_reducible apply below_step); (· with_reducible assumption); rotate_left; (· first | (simp; done) | (simp; omega) | omega))))⟩
  case round =>
    obtain ⟨k, hk, rfl, hB, hR, hb⟩ := hrel
    have hne : w.heap.size ≠ w.heap.size + 1 := by omega
    have hE : Hid (tr (k + 1) (a, b) = tstep (tr k (a, b))) := rfl
    have HB := Lib.hid hB
    have HR := Lib.hid hR
    generalize hp : tr k (a, b) = p at *
    have HP := Lib.hid hp
    clear hp
    obtain ⟨p1, p2⟩ := p
    obtain ⟨c0, c1, f0, f1⟩ := hB.two
    obtain ⟨r0, r1, g0, g1⟩ := hR.two
    clear hB hR
    by_cases hlt : k < six s
    · have hlt' : (k : Int) < (s.tmod 6 + 6) % 6 := by have := HT.out; omega
      go_wp2
      go_roundw
      case rel => exact ⟨k + 1, by omega, by go_num, by rw [hE.out]; exact (HB.out.set_ 0 _).set_ 1 _, (HR.out.far (by simp) _).far (by simp) _, (hb.setCell (by simp) _).setCell (by simp) _⟩
      case measure => simp [intOf]; omega
    · have hlt' : ¬ (k : Int) < (s.tmod 6 + 6) % 6 := by have := HT.out; omega
      obtain rfl : k = six s := by omega
      go_wp2
      exact bodyPost_ret (v := .agg #[.int .i64 p1, .int .i64 p2]) (by simp [results, Tryd.results28, go_sem, *]) rfl ⟨by rw [HP.out], (by repeat (first | (with_reducible exact Below.refl _ _) | (with_reducible assumption) | ((with_reducible refine Below.alloc ?_ ?_ _); rotate_left; (· first | (simp; done) | (simp; omega) | omega)) | ((with_reducible refine Below.setCell ?_ ?_ _); rotate_left; (· first | (simp; done) | (simp; omega) | omega)) | (with_reducible apply Below.drew) | ((with_reducible apply below_step); (· with_reducible assumption); rotate_left; (· first | (simp; done) | (simp; omega) | omega))))⟩

def firstE (zs : List Int) : Int := (zs.find? (· != 0)).getD 0
theorem first_any (B : Nat) (A : Option Addr) (n c : Nat) (zs : List Int) (w : World) (hr : Reads w B 1 A n (zs.map (.int .i64))) (hn : n ≤ maxLen) : Calls Tryd.prog 24 #[.slice A n c] w fun e w' => e = .returned (.int .i64 (firstE zs)) ∧ w = w' := by
  unfold maxLen at hn
  have hl : zs.length = n := by simpa using hr.1
  have Hl := Lib.hid hl; clear hl
  go_enter Tryd.func24, Tryd.ntmps24
  go_wp2
  go_loop [4, 7] (fun _ i => ∃ k : Nat, k ≤ n ∧ i = .int .i64 k ∧ firstE zs = firstE (zs.drop k)) (fun _ i => n - (intOf i).toNat)
  case atStart => exact ⟨0, Nat.zero_le _, rfl, rfl⟩
  case round =>
    obtain ⟨k, hk, rfl, hf⟩ := hrel
    have Hf := Lib.hid hf; clear hf
    by_cases hlt : k < n
    · obtain ⟨b, o, u, rfl, _, hu, hc⟩ := hr.at_ hlt
      have hkl : k < zs.length := by rw [Hl.out]; exact hlt
      obtain rfl : u = .int .i64 zs[k] := by simpa [hkl] using hu.symm
      have Hd : Hid (zs.drop k = zs[k] :: zs.drop (k + 1)) := List.drop_eq_getElem_cons hkl
      clear hu
      generalize zs[k] = z at *
      by_cases hz : z = 0
      · subst hz
        go_wp2
        go_round
        case rel => exact ⟨k + 1, by omega, by go_num, by rw [Hf.out, Hd.out]; rfl⟩
        case measure => simp [intOf]; omega
      · have hz1 : (z != 0) = true := by simpa using hz
        go_wp2
        go_ret
        exact ⟨by rw [Hf.out, Hd.out]; simp [firstE, hz], rfl⟩
    · have hkn : k = n := by omega
      go_wp2
      go_ret
      exact ⟨by rw [Hf.out, hkn, ← Hl.out]; simp [firstE], rfl⟩
/-- At a list that the caller has just laid. -/
theorem first_new (zs : List Int) (w : World) (t : TypeId) (n : Nat) (hl : zs.length = n) (hn : n ≤ maxLen) : Calls Tryd.prog 24 #[.slice (some ⟨w.heap.size, 0, none⟩) n n] (w.alloc (.cells (zs.map (.int .i64)).toArray t)) fun e w' => e = .returned (.int .i64 (firstE zs)) ∧ w.alloc (.cells (zs.map (.int .i64)).toArray t) = w' :=
  first_any (w.heap.size + 1) _ n n zs _ (by simpa using Reads.new (size := 1) w (zs.map (.int .i64)).toArray t n (by simpa using hl)) hn

set_option maxHeartbeats 400000 in
theorem Turned_any (a b s : Int) (w : World) (h1 : inB 1048576 a b = true) (h2 : inR s (-1000000) 1000000 = true) (h3 : inB 1048576 (tr (six s) (a, b)).1 (tr (six s) (a, b)).2 = true) :
    Calls Tryd.prog 8 #[.agg #[.int .i64 a, .int .i64 b], .int .i64 s] w fun e w' => e = .returned (.tuple #[.agg #[.int .i64 (tr (six s) (a, b)).1, .int .i64 (tr (six s) (a, b)).2], .int .i64 0]) ∧ Below w.heap.size w w' := by
  have e1 : Hid (ckE a b = 0) := by show _ = _; simp [ckE, h1, whenE]
  have e2 : Hid (ckR s (-1000000) 1000000 = 0) := by show _ = _; simp [ckR, h2]
  have H3 := Lib.hid h3
  clear h1 h2 h3
  go_enter Tryd.func8, Tryd.ntmps8
  go_wp2_with (first | (go_at_call 25; refine (checkEisen_any _ _ _).mono ?_; rw [e1.out]; rintro e w1 ⟨rfl, hb1⟩; obtain ⟨hc1, hf1⟩ := ifs_of hb1; have hs1 := hb1.size; (try simp at hs1)) | (go_at_call 26; refine (checkTurn_any _ _).mono ?_; rw [e2.out]; rintro e w2 ⟨rfl, rfl⟩) | (go_at_call 24; refine (first_new [0, 0] _ _ 2 rfl (by unfold maxLen; omega)).mono ?_; rw [show firstE [0, 0] = 0 from rfl]; rintro e w3 ⟨rfl, rfl⟩) | (go_at_call 28; refine (turned_any _ _ _ _).mono ?_; rintro e w4 ⟨rfl, hb4⟩; obtain ⟨hc4, hf4⟩ := ifs_of hb4; have hs4 := hb4.size; (try simp at hs4)) | (go_at_call 27; refine (fit_yes _ _ _ H3.out).mono ?_; rintro e w5 ⟨rfl, hb5⟩; obtain ⟨hc5, hf5⟩ := ifs_of hb5; have hs5 := hb5.size; (try simp at hs5)))
  exact bodyPost_ret (by simp [results, Tryd.results8, go_sem, *, ↓IntWalk.iteOmega]; try ((repeat' apply And.intro) <;> rfl)) rfl ⟨rfl, (by repeat (first | (with_reducible exact Below.refl _ _) | (with_reducible assumption) | ((with_reducible refine Below.alloc ?_ ?_ _); rotate_left; (· first | (simp; done) | (simp; omega) | omega)) | ((with_reducible refine Below.setCell ?_ ?_ _); rotate_left; (· first | (simp; done) | (simp; omega) | omega)) | (with_reducible apply Below.drew) | ((with_reducible apply below_step); (· with_reducible assumption); rotate_left; (· first | (simp; done) | (simp; omega) | omega))))⟩
end Go.Proofs.YtjakigncloleaaaDoor
