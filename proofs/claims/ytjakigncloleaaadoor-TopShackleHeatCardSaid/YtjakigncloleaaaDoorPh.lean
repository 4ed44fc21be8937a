/- Contracts of the small functions of phasor: numbers, checks, turns. -/
import Derived.Test.YtjakigncloleaaaDoorProg
import Derived.Test.YtjakigncloleaaaDoorA
import Derived.Test.YtjakigncloleaaaDoorR
namespace Go.Proofs.YtjakigncloleaaaDoor
open Go.RowKit
attribute [local go_sem] cell_if frozen_if

def whenE (b : Bool) (n : Int) : Int := if b then n else 0
theorem when_any (b : Bool) (n : Int) (w : World) : Calls Tryd.prog 34 #[.bool b, .int .i64 n] w fun e w' => e = .returned (.int .i64 (whenE b n)) ∧ w = w' := by
  cases b
  all_goals
    go_enter Tryd.func34, Tryd.ntmps34
    go_wp2
    go_ret
    exact ⟨rfl, rfl⟩

def inR (n lo hi : Int) : Bool := decide (lo ≤ n) && decide (n ≤ hi)
def ckR (n lo hi : Int) : Int := if inR n lo hi then 0 else 3
theorem ckR_no {n lo hi : Int} (h : n < lo ∨ hi < n) : ckR n lo hi = 3 := by unfold ckR inR; rw [if_neg]; simp; omega
theorem ckR_yes {n lo hi : Int} (h : lo ≤ n ∧ n ≤ hi) : ckR n lo hi = 0 := by unfold ckR inR; rw [if_pos]; simp; omega
theorem within_any (n lo hi : Int) (w : World) : Calls Tryd.prog 57 #[.int .i64 n, .int .i64 lo, .int .i64 hi] w fun e w' => e = .returned (.int .i64 (ckR n lo hi)) ∧ w = w' := by
  by_cases h1 : n < lo
  · have e := ckR_no (n := n) (lo := lo) (hi := hi) (.inl h1)
    (rw [e]; clear e; go_enter Tryd.func57, Tryd.ntmps57; go_wp2; go_ret; exact ⟨by first | rfl | (simp; done) | (simp; omega), rfl⟩)
  · by_cases h2 : hi < n
    · have e := ckR_no (n := n) (lo := lo) (hi := hi) (.inr h2)
      (rw [e]; clear e; go_enter Tryd.func57, Tryd.ntmps57; go_wp2; go_ret; exact ⟨by first | rfl | (simp; done) | (simp; omega), rfl⟩)
    · have e := ckR_yes (n := n) (lo := lo) (hi := hi) (by omega)
      (rw [e]; clear e; go_enter Tryd.func57, Tryd.ntmps57; go_wp2; go_ret; exact ⟨by first | rfl | (simp; done) | (simp; omega), rfl⟩)

def ePA (a c : Int) : Int := wrap64 (a + c)
theorem plus_any (a b c d : Int) (w : World) :
    Calls Tryd.prog 31 #[.agg #[.int .i64 a, .int .i64 b], .agg #[.int .i64 c, .int .i64 d]] w fun e w' => e = .returned (.agg #[.int .i64 (ePA a c), .int .i64 (ePA b d)]) ∧ Below w.heap.size w w' := by
  go_enter Tryd.func31, Tryd.ntmps31
  go_wp2
  exact bodyPost_ret (by simp [results, Tryd.results31, go_sem, *]; try ((repeat' apply And.intro) <;> rfl)) rfl ⟨rfl, (by repeat (first | (with_reducible exact Below.refl _ _) | (with_reducible assumption) | ((with_reducible refine Below.alloc ?_ ?_ _); rotate_left; (· first | (simp; done) | (simp; omega) | omega)) | ((with_reducible refine Below.setCell ?_ ?_ _); rotate_left; (· first | (simp; done) | (simp; omega) | omega)) | (with_reducible apply Below.drew) | ((with_reducible apply below_step); (· with_reducible assumption); rotate_left; (· first | (simp; done) | (simp; omega) | omega))))⟩
def eMA (a b c d : Int) : Int := if c = 1 ∧ d = 0 then a else wrap64 (wrap64 (a * c) - wrap64 (b * d))
def eMB (a b c d : Int) : Int := if c = 1 ∧ d = 0 then b else wrap64 (wrap64 (wrap64 (a * d) + wrap64 (b * c)) - wrap64 (b * d))
theorem times_any (a b c d : Int) (w : World) :
    Calls Tryd.prog 32 #[.agg #[.int .i64 a, .int .i64 b], .agg #[.int .i64 c, .int .i64 d]] w fun e w' => e = .returned (.agg #[.int .i64 (eMA a b c d), .int .i64 (eMB a b c d)]) ∧ Below w.heap.size w w' := by
  by_cases h : c = 1 ∧ d = 0
  · obtain ⟨rfl, rfl⟩ := h
    have e1 : eMA a b 1 0 = a := if_pos ⟨rfl, rfl⟩
    have e2 : eMB a b 1 0 = b := if_pos ⟨rfl, rfl⟩
    rw [e1, e2]
    clear e1 e2
    go_enter Tryd.func32, Tryd.ntmps32
    go_wp2
    exact bodyPost_ret (by simp [results, Tryd.results32, go_sem, *]; try ((repeat' apply And.intro) <;> rfl)) rfl ⟨rfl, (by repeat (first | (with_reducible exact Below.refl _ _) | (with_reducible assumption) | ((with_reducible refine Below.alloc ?_ ?_ _); rotate_left; (· first | (simp; done) | (simp; omega) | omega)) | ((with_reducible refine Below.setCell ?_ ?_ _); rotate_left; (· first | (simp; done) | (simp; omega) | omega)) | (with_reducible apply Below.drew) | ((with_reducible apply below_step); (· with_reducible assumption); rotate_left; (· first | (simp; done) | (simp; omega) | omega))))⟩
  · have e1 : eMA a b c d = wrap64 (wrap64 (a * c) - wrap64 (b * d)) := if_neg h
    have e2 : eMB a b c d = wrap64 (wrap64 (wrap64 (a * d) + wrap64 (b * c)) - wrap64 (b * d)) := if_neg h
    rw [e1, e2]
    clear e1 e2
    by_cases hc : c = 1
    · have hd : d ≠ 0 := fun hd => h ⟨hc, hd⟩
      subst hc
      have h1 : (d == 0) = false := by simpa using hd
      clear h hd
      go_enter Tryd.func32, Tryd.ntmps32
      go_wp2
      exact bodyPost_ret (by simp [results, Tryd.results32, go_sem, *]; try ((repeat' apply And.intro) <;> rfl)) rfl ⟨rfl, (by repeat (first | (with_reducible exact Below.refl _ _) | (with_reducible assumption) | ((with_reducible refine Below.alloc ?_ ?_ _); rotate_left; (· first | (simp; done) | (simp; omega) | omega)) | ((with_reducible refine Below.setCell ?_ ?_ _); rotate_left; (· first | (simp; done) | (simp; omega) | omega)) | (with_reducible apply Below.drew) | ((with_reducible apply below_step); (· with_reducible assumption); rotate_left; (· first | (simp; done) | (simp; omega) | omega))))⟩
    · have h1 : (c == 1) = false := by simpa using hc
      clear h hc
      go_enter Tryd.func32, Tryd.ntmps32
      go_wp2
      exact bodyPost_ret (by simp [results, Tryd.results32, go_sem, *]; try ((repeat' apply And.intro) <;> rfl)) rfl ⟨rfl, (by repeat (first | (with_reducible exact Below.refl _ _) | (with_reducible assumption) | ((with_reducible refine Below.alloc ?_ ?_ _); rotate_left; (· first | (simp; done) | (simp; omega) | omega)) | ((with_reducible refine Below.setCell ?_ ?_ _); rotate_left; (· first | (simp; done) | (simp; omega) | omega)) | (with_reducible apply Below.drew) | ((with_reducible apply below_step); (· with_reducible assumption); rotate_left; (· first | (simp; done) | (simp; omega) | omega))))⟩
def eCA (a b : Int) : Int := wrap64 (a - b)
def eCB (b : Int) : Int := wrap64 (-b)
theorem conj_any (a b : Int) (w : World) :
    Calls Tryd.prog 33 #[.agg #[.int .i64 a, .int .i64 b]] w fun e w' => e = .returned (.agg #[.int .i64 (eCA a b), .int .i64 (eCB b)]) ∧ Below w.heap.size w w' := by
  go_enter Tryd.func33, Tryd.ntmps33
  go_wp2
  exact bodyPost_ret (by simp [results, Tryd.results33, go_sem, *]; try ((repeat' apply And.intro) <;> rfl)) rfl ⟨rfl, (by repeat (first | (with_reducible exact Below.refl _ _) | (with_reducible assumption) | ((with_reducible refine Below.alloc ?_ ?_ _); rotate_left; (· first | (simp; done) | (simp; omega) | omega)) | ((with_reducible refine Below.setCell ?_ ?_ _); rotate_left; (· first | (simp; done) | (simp; omega) | omega)) | (with_reducible apply Below.drew) | ((with_reducible apply below_step); (· with_reducible assumption); rotate_left; (· first | (simp; done) | (simp; omega) | omega))))⟩

def inB (m a b : Int) : Bool := decide (-m ≤ a) && decide (a ≤ m) && decide (-m ≤ b) && decide (b ≤ m)
theorem ewithin_any (a b m : Int) (w : World) (hm0 : 0 ≤ m) (hm1 : m ≤ 2000000) : Calls Tryd.prog 56 #[.agg #[.int .i64 a, .int .i64 b], .int .i64 m] w fun e w' => e = .returned (.bool (inB m a b)) ∧ Below w.heap.size w w' := by
  by_cases h1 : a < -m
  · have e : inB m a b = false := by simp [inB]; omega
    (rw [e]; clear e; go_enter Tryd.func56, Tryd.ntmps56; go_wp2; go_ret; exact ⟨by first | rfl | (simp; done) | (simp; omega), (by repeat (first | (with_reducible exact Below.refl _ _) | (with_reducible assumption) | ((with_reducible refine Below.alloc ?_ ?_ _); rotate_left; (· first | (simp; done) | (simp; omega) | omega)) | ((with_reducible refine Below.setCell ?_ ?_ _); rotate_left; (· first | (simp; done) | (simp; omega) | omega)) | (with_reducible apply Below.drew) | ((with_reducible apply below_step); (· with_reducible assumption); rotate_left; (· first | (simp; done) | (simp; omega) | omega))))⟩)
  · by_cases h2 : m < a
    · have e : inB m a b = false := by simp [inB]; omega
      (rw [e]; clear e; go_enter Tryd.func56, Tryd.ntmps56; go_wp2; go_ret; exact ⟨by first | rfl | (simp; done) | (simp; omega), (by repeat (first | (with_reducible exact Below.refl _ _) | (with_reducible assumption) | ((with_reducible refine Below.alloc ?_ ?_ _); rotate_left; (· first | (simp; done) | (simp; omega) | omega)) | ((with_reducible refine Below.setCell ?_ ?_ _); rotate_left; (· first | (simp; done) | (simp; omega) | omega)) | (with_reducible apply Below.drew) | ((with_reducible apply below_step); (· with_reducible assumption); rotate_left; (· first | (simp; done) | (simp; omega) | omega))))⟩)
    · by_cases h3 : b < -m
      · have e : inB m a b = false := by simp [inB]; omega
        (rw [e]; clear e; go_enter Tryd.func56, Tryd.ntmps56; go_wp2; go_ret; exact ⟨by first | rfl | (simp; done) | (simp; omega), (by repeat (first | (with_reducible exact Below.refl _ _) | (with_reducible assumption) | ((with_reducible refine Below.alloc ?_ ?_ _); rotate_left; (· first | (simp; done) | (simp; omega) | omega)) | ((with_reducible refine Below.setCell ?_ ?_ _); rotate_left; (· first | (simp; done) | (simp; omega) | omega)) | (with_reducible apply Below.drew) | ((with_reducible apply below_step); (· with_reducible assumption); rotate_left; (· first | (simp; done) | (simp; omega) | omega))))⟩)
      · by_cases h4 : m < b
        · have e : inB m a b = false := by simp [inB]; omega
          (rw [e]; clear e; go_enter Tryd.func56, Tryd.ntmps56; go_wp2; go_ret; exact ⟨by first | rfl | (simp; done) | (simp; omega), (by repeat (first | (with_reducible exact Below.refl _ _) | (with_reducible assumption) | ((with_reducible refine Below.alloc ?_ ?_ _); rotate_left; (· first | (simp; done) | (simp; omega) | omega)) | ((with_reducible refine Below.setCell ?_ ?_ _); rotate_left; (· first | (simp; done) | (simp; omega) | omega)) | (with_reducible apply Below.drew) | ((with_reducible apply below_step); (· with_reducible assumption); rotate_left; (· first | (simp; done) | (simp; omega) | omega))))⟩)
        · have e : inB m a b = true := by simp [inB]; omega
          (rw [e]; clear e; go_enter Tryd.func56, Tryd.ntmps56; go_wp2; go_ret; exact ⟨by first | rfl | (simp; done) | (simp; omega), (by repeat (first | (with_reducible exact Below.refl _ _) | (with_reducible assumption) | ((with_reducible refine Below.alloc ?_ ?_ _); rotate_left; (· first | (simp; done) | (simp; omega) | omega)) | ((with_reducible refine Below.setCell ?_ ?_ _); rotate_left; (· first | (simp; done) | (simp; omega) | omega)) | (with_reducible apply Below.drew) | ((with_reducible apply below_step); (· with_reducible assumption); rotate_left; (· first | (simp; done) | (simp; omega) | omega))))⟩)

def ckE (a b : Int) : Int := whenE (!inB 1048576 a b) 3
theorem checkEisen_any (a b : Int) (w : World) : Calls Tryd.prog 25 #[.agg #[.int .i64 a, .int .i64 b]] w fun e w' => e = .returned (.int .i64 (ckE a b)) ∧ Below w.heap.size w w' := by
  go_enter Tryd.func25, Tryd.ntmps25
  go_wp2_with (first | (go_at_call 56; refine (ewithin_any _ _ _ _ (by omega) (by omega)).mono ?_; rintro e w1 ⟨rfl, hb1⟩) | (go_at_call 34; refine (when_any _ _ _).mono ?_; rintro e w2 ⟨rfl, rfl⟩))
  go_ret
  exact ⟨rfl, (by repeat (first | (with_reducible exact Below.refl _ _) | (with_reducible assumption) | ((with_reducible refine Below.alloc ?_ ?_ _); rotate_left; (· first | (simp; done) | (simp; omega) | omega)) | ((with_reducible refine Below.setCell ?_ ?_ _); rotate_left; (· first | (simp; done) | (simp; omega) | omega)) | (with_reducible apply Below.drew) | ((with_reducible apply below_step); (· with_reducible assumption); rotate_left; (· first | (simp; done) | (simp; omega) | omega))))⟩

theorem checkTurn_any (n : Int) (w : World) : Calls Tryd.prog 26 #[.int .i64 n] w fun e w' => e = .returned (.int .i64 (ckR n (-1000000) 1000000)) ∧ w = w' := by
  go_enter Tryd.func26, Tryd.ntmps26
  go_wp2_with (go_at_call 57; refine (within_any _ _ _ _).mono ?_; rintro e w1 ⟨rfl, rfl⟩)
  go_ret
  exact ⟨rfl, rfl⟩

theorem fit_yes (a b : Int) (w : World) (h : inB 1048576 a b = true) : Calls Tryd.prog 27 #[.agg #[.int .i64 a, .int .i64 b]] w fun e w' => e = .returned (.tuple #[.agg #[.int .i64 a, .int .i64 b], .int .i64 0]) ∧ Below w.heap.size w w' := by
  have H := Lib.hid h; clear h
  go_enter Tryd.func27, Tryd.ntmps27
  go_wp2_with (go_at_call 56; refine (ewithin_any _ _ _ _ (by omega) (by omega)).mono ?_; rw [H.out]; rintro e w1 ⟨rfl, hb1⟩; obtain ⟨hc1, hf1⟩ := ifs_of hb1; have hs1 := hb1.size; (try simp at hs1))
  exact bodyPost_ret (by simp [results, Tryd.results27, go_sem, *]; try ((repeat' apply And.intro) <;> rfl)) rfl ⟨rfl, (by repeat (first | (with_reducible exact Below.refl _ _) | (with_reducible assumption) | ((with_reducible refine Below.alloc ?_ ?_ _); rotate_left; (· first | (simp; done) | (simp; omega) | omega)) | ((with_reducible refine Below.setCell ?_ ?_ _); rotate_left; (· first | (simp; done) | (simp; omega) | omega)) | (with_reducible apply Below.drew) | ((with_reducible apply below_step); (· with_reducible assumption); rotate_left; (· first | (simp; done) | (simp; omega) | omega))))⟩
end Go.Proofs.YtjakigncloleaaaDoor
