/- Contracts of phasor: lists of numbers within a bound. -/
import Derived.Test.YtjakigncloleaaaDoorPh
namespace Go.Proofs.YtjakigncloleaaaDoor
open Go.RowKit
attribute [local go_sem] cell_if frozen_if

theorem clos_any (a b m : Int) (g : Nat) (w : World) (hm0 : 0 ≤ m) (hm1 : m ≤ 2000000) (hg : Blk w g 3 #[.int .i64 m]) :
    Calls Tryd.prog 60 #[.agg #[.int .i64 a, .int .i64 b], .pointer (some ⟨g, 0, none⟩)] w fun e w' => e = .returned (.bool (!inB m a b)) ∧ Below w.heap.size w w' := by
  have hlt := hg.lt
  have hc := hg.cell 0
  simp at hc
  clear hg
  go_enter Tryd.func60, Tryd.ntmps60
  go_wp2_with (go_at_call 56; refine (ewithin_any _ _ _ _ (by omega) (by omega)).mono ?_; rintro e w1 ⟨rfl, hb1⟩; obtain ⟨hc1, hf1⟩ := ifs_of hb1; have hs1 := hb1.size; (try simp at hs1))
  go_ret
  exact ⟨rfl, (by repeat (first | (with_reducible exact Below.refl _ _) | (with_reducible assumption) | ((with_reducible refine Below.alloc ?_ ?_ _); rotate_left; (· first | (simp; done) | (simp; omega) | omega)) | ((with_reducible refine Below.setCell ?_ ?_ _); rotate_left; (· first | (simp; done) | (simp; omega) | omega)) | (with_reducible apply Below.drew) | ((with_reducible apply below_step); (· with_reducible assumption); rotate_left; (· first | (simp; done) | (simp; omega) | omega))))⟩

/-- A list of numbers as cells. -/
def flat : List (Int × Int) → List Value
  | [] => []
  | (a, b) :: r => .int .i64 a :: .int .i64 b :: flat r
theorem flat_length (xs : List (Int × Int)) : (flat xs).length = xs.length * 2 := by
  induction xs with
  | nil => rfl
  | cons x r ih => obtain ⟨a, b⟩ := x; simp [flat, ih]; omega
theorem flat_at (xs : List (Int × Int)) (k : Nat) (h : k < xs.length) : (flat xs)[k * 2]? = some (.int .i64 xs[k].1) ∧ (flat xs)[k * 2 + 1]? = some (.int .i64 xs[k].2) := by
  induction xs generalizing k with
  | nil => simp at h
  | cons x r ih =>
    obtain ⟨a, b⟩ := x
    cases k with
    | zero => simp [flat]
    | succ k =>
      have := ih k (by simpa using h)
      rw [show (k + 1) * 2 = k * 2 + 1 + 1 by omega]
      simpa [flat] using this
/-- 'A, n' reads as the numbers xs. -/
def Nums (w : World) (B : Nat) (A : Option Addr) (n : Nat) (xs : List (Int × Int)) : Prop := Reads w B 2 A n (flat xs)
theorem Nums.len {w : World} {B : Nat} {A : Option Addr} {n : Nat} {xs : List (Int × Int)} (h : Nums w B A n xs) : xs.length = n := by
  have := h.1
  rw [flat_length] at this
  omega
theorem Nums.at_ {w : World} {B : Nat} {A : Option Addr} {n : Nat} {xs : List (Int × Int)} (h : Nums w B A n xs) {k : Nat} (hk : k < n) :
    ∃ b o a c, A = some ⟨b, o, none⟩ ∧ b < B ∧ xs[k]? = some (a, c) ∧ w.cell? ⟨b, o + k * 2, none⟩ = some (.int .i64 a) ∧ w.cell? ⟨b, o + k * 2 + 1, none⟩ = some (.int .i64 c) := by
  obtain ⟨b, o, hA, hb, hc⟩ := h.2 (by omega)
  have hkl : k < xs.length := by rw [h.len]; exact hk
  obtain ⟨h1, h2⟩ := flat_at xs k hkl
  exact ⟨b, o, xs[k].1, xs[k].2, hA, hb, List.getElem?_eq_getElem hkl, hc _ _ h1, hc _ _ h2⟩
theorem Nums.below {w w' : World} {B : Nat} {A : Option Addr} {n : Nat} {xs : List (Int × Int)} (h : Nums w B A n xs) (hb : Below B w w') : Nums w' B A n xs := Reads.below h hb

def idxE (p : Int × Int → Bool) (xs : List (Int × Int)) : Int := match xs.findIdx? p with | some i => i | none => -1
theorem idxE_found {p : Int × Int → Bool} {xs : List (Int × Int)} {k : Nat} {x : Int × Int} (hx : xs[k]? = some x) (hp : p x = true) (hf : ∀ (j : Nat) (y : Int × Int), j < k → xs[j]? = some y → p y = false) : idxE p xs = k := by
  unfold idxE
  obtain ⟨hk, rfl⟩ := List.getElem?_eq_some_iff.1 hx
  rw [List.findIdx?_eq_some_iff_getElem.2 ⟨hk, hp, fun j hj => by simpa using hf j _ hj (List.getElem?_eq_getElem (by omega))⟩]
theorem idxE_none {p : Int × Int → Bool} {xs : List (Int × Int)} (h : ∀ (j : Nat) (y : Int × Int), xs[j]? = some y → p y = false) : idxE p xs = -1 := by
  unfold idxE
  rw [List.findIdx?_eq_none_iff.2 (fun x hx => by obtain ⟨j, hj⟩ := List.getElem?_of_mem hx; exact h j x hj)]
set_option maxHeartbeats 400000 in
theorem index_any (m : Int) (g B : Nat) (A : Option Addr) (n c : Nat) (xs : List (Int × Int)) (w : World) (hm0 : 0 ≤ m) (hm1 : m ≤ 2000000) (hn : n ≤ maxLen) (hB : B ≤ w.heap.size) (hr : Nums w B A n xs) (hg : Blk w g 3 #[.int .i64 m]) :
    Calls Tryd.prog 73 #[.slice A n c, .func (.func 60) #[] #[.pointer (some ⟨g, 0, none⟩)]] w fun e w' => e = .returned (.int .i64 (idxE (fun x => !inB m x.1 x.2) xs)) ∧ Below w.heap.size w w' := by
  unfold maxLen at hn
  have hl := hr.len
  have Hl := Lib.hid hl; clear hl
  go_enter Tryd.func73, Tryd.ntmps73
  go_wp2
  go_loopw [5, 8] (fun _ i wr => ∃ k : Nat, k ≤ n ∧ i = .int .i64 k ∧ (∀ j x, j < k → xs[j]? = some x → inB m x.1 x.2 = true) ∧ Below w.heap.size w wr) (fun _ i _ => n - (intOf i).toNat)
  case atStart => exact ⟨0, Nat.zero_le _, rfl, fun j x hj => by omega, Below.refl _ _⟩
  case round =>
    obtain ⟨k, hk, rfl, hf, hb⟩ := hrel
    have hsb := hb.size
    have Hf := Lib.hid hf; clear hf
    by_cases hlt : k < n
    · obtain ⟨b, o, a1, a2, rfl, hbl, hx, hc1, hc2⟩ := (hr.below (hb.mono hB)).at_ hlt
      have Hx := Lib.hid hx; clear hx
      by_cases hin : inB m a1 a2 = true
      · have hin' : (!inB m a1 a2) = false := by rw [hin]; rfl
        have Hin := Lib.hid hin'
        have Hin2 := Lib.hid hin
        clear hin hin'
        go_wp2_with (go_at_call 60; refine (clos_any _ _ _ _ _ hm0 hm1 (hg.kept hb)).mono ?_; rw [Hin.out]; rintro e w1 ⟨rfl, hb1⟩; obtain ⟨hc1, hf1⟩ := ifs_of hb1; have hs1 := hb1.size; (try simp at hs1))
        go_roundw
        case rel =>
          refine ⟨k + 1, by omega, by go_num, fun j x hj hjx => ?_, (by repeat (first | (with_reducible exact Below.refl _ _) | (with_reducible assumption) | ((with_reducible refine Below.alloc ?_ ?_ _); rotate_left; (· first | (simp; done) | (simp; omega) | omega)) | ((with_reducible refine Below.setCell ?_ ?_ _); rotate_left; (· first | (simp; done) | (simp; omega) | omega)) | (with_reducible apply Below.drew) | ((with_reducible apply below_step); (· with_reducible assumption); rotate_left; (· first | (simp; done) | (simp; omega) | omega))))⟩
          rcases Nat.lt_or_ge j k with h | h
          · exact Hf.out j x h hjx
          · obtain rfl : j = k := by omega
            rw [Hx.out] at hjx
            obtain rfl := Option.some.inj hjx
            exact Hin2.out
        case measure => simp [intOf]; omega
      · have hin' : (!inB m a1 a2) = true := by simpa using hin
        have Hin := Lib.hid hin'
        clear hin hin'
        go_wp2_with (go_at_call 60; refine (clos_any _ _ _ _ _ hm0 hm1 (hg.kept hb)).mono ?_; rw [Hin.out]; rintro e w1 ⟨rfl, hb1⟩; obtain ⟨hc1, hf1⟩ := ifs_of hb1; have hs1 := hb1.size; (try simp at hs1))
        go_ret
        refine ⟨?_, (by repeat (first | (with_reducible exact Below.refl _ _) | (with_reducible assumption) | ((with_reducible refine Below.alloc ?_ ?_ _); rotate_left; (· first | (simp; done) | (simp; omega) | omega)) | ((with_reducible refine Below.setCell ?_ ?_ _); rotate_left; (· first | (simp; done) | (simp; omega) | omega)) | (with_reducible apply Below.drew) | ((with_reducible apply below_step); (· with_reducible assumption); rotate_left; (· first | (simp; done) | (simp; omega) | omega))))⟩
        rw [show idxE (fun x => !inB m x.1 x.2) xs = k from idxE_found Hx.out Hin.out (fun j x hj hjx => by rw [Hf.out j x hj hjx]; rfl)]
        rfl
    · obtain rfl : k = n := by omega
      go_wp2
      go_ret
      refine ⟨?_, hb⟩
      rw [show idxE (fun x => !inB m x.1 x.2) xs = -1 from idxE_none (fun j x hjx => by
        rw [Hf.out j x (by rw [← Hl.out]; exact (List.getElem?_eq_some_iff.1 hjx).1) hjx]; rfl)]
      rfl

theorem contains_any (m : Int) (g B : Nat) (A : Option Addr) (n c : Nat) (xs : List (Int × Int)) (w : World) (hm0 : 0 ≤ m) (hm1 : m ≤ 2000000) (hn : n ≤ maxLen) (hB : B ≤ w.heap.size) (hr : Nums w B A n xs) (hg : Blk w g 3 #[.int .i64 m]) :
    Calls Tryd.prog 59 #[.slice A n c, .func (.func 60) #[] #[.pointer (some ⟨g, 0, none⟩)]] w fun e w' => e = .returned (.bool (decide (0 ≤ idxE (fun x => !inB m x.1 x.2) xs))) ∧ Below w.heap.size w w' := by
  go_enter Tryd.func59, Tryd.ntmps59
  go_wp2_with (go_at_call 73; refine (index_any m g B _ _ _ xs _ hm0 hm1 hn hB hr hg).mono ?_; rintro e w1 ⟨rfl, hb1⟩)
  go_ret
  exact ⟨rfl, (by repeat (first | (with_reducible exact Below.refl _ _) | (with_reducible assumption) | ((with_reducible refine Below.alloc ?_ ?_ _); rotate_left; (· first | (simp; done) | (simp; omega) | omega)) | ((with_reducible refine Below.setCell ?_ ?_ _); rotate_left; (· first | (simp; done) | (simp; omega) | omega)) | (with_reducible apply Below.drew) | ((with_reducible apply below_step); (· with_reducible assumption); rotate_left; (· first | (simp; done) | (simp; omega) | omega))))⟩

def ckA (m : Int) (xs : List (Int × Int)) : Int := whenE (decide (0 ≤ idxE (fun x => !inB m x.1 x.2) xs)) 3
theorem allWithin_any (m : Int) (B : Nat) (A : Option Addr) (n c : Nat) (xs : List (Int × Int)) (w : World) (hm0 : 0 ≤ m) (hm1 : m ≤ 2000000) (hn : n ≤ maxLen) (hB : B ≤ w.heap.size) (hr : Nums w B A n xs) :
    Calls Tryd.prog 35 #[.slice A n c, .int .i64 m] w fun e w' => e = .returned (.int .i64 (ckA m xs)) ∧ Below w.heap.size w w' := by
  go_enter Tryd.func35, Tryd.ntmps35
  go_wp2_with (first | (go_at_call 59; refine (contains_any m w.heap.size B _ _ _ xs _ hm0 hm1 hn (by simp; omega) (hr.below ((Below.refl _ _).alloc hB _)) (Blk.new _ _ _)).mono ?_; rintro e w1 ⟨rfl, hb1⟩) | (go_at_call 34; refine (when_any _ _ _).mono ?_; rintro e w2 ⟨rfl, rfl⟩))
  go_ret
  exact ⟨rfl, (by repeat (first | (with_reducible exact Below.refl _ _) | (with_reducible assumption) | ((with_reducible refine Below.alloc ?_ ?_ _); rotate_left; (· first | (simp; done) | (simp; omega) | omega)) | ((with_reducible refine Below.setCell ?_ ?_ _); rotate_left; (· first | (simp; done) | (simp; omega) | omega)) | (with_reducible apply Below.drew) | ((with_reducible apply below_step); (· with_reducible assumption); rotate_left; (· first | (simp; done) | (simp; omega) | omega))))⟩
theorem ckA_yes {m : Int} {xs : List (Int × Int)} (h : ∀ x ∈ xs, inB m x.1 x.2 = true) : ckA m xs = 0 := by
  unfold ckA whenE
  rw [idxE_none (fun j x hjx => by rw [h x (List.mem_of_getElem? hjx)]; rfl)]
  rfl
end Go.Proofs.YtjakigncloleaaaDoor
