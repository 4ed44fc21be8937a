/- The parts of a text, by recursion; in plain words. -/
import Derived.Test.YtphlojgmfkgeiaaGreatDoorQP
namespace Go.Proofs.YtphlojgmfkgeiaaGreatDoor
open Go.RowKit Go.Sort Go.Shelf
/-- The parts between the places of a byte. -/
def spl (c : UInt8) : List UInt8 → List (List UInt8)
  | [] => [[]]
  | b :: r => if b == c then [] :: spl c r else match spl c r with
    | [] => [[b]]
    | p :: ps => (b :: p) :: ps
theorem spl_ne (c : UInt8) : ∀ l, spl c l ≠ []
  | [] => by simp [spl]
  | b :: r => by
    unfold spl
    split
    · simp
    · split <;> simp
theorem spl_eq {c b : UInt8} (h : (b == c) = true) (r : List UInt8) : spl c (b :: r) = [] :: spl c r := if_pos h
theorem spl_cons {c b : UInt8} (h : (b == c) = false) {r p : List UInt8} {ps : List (List UInt8)} (hr : spl c r = p :: ps) : spl c (b :: r) = (b :: p) :: ps := by
  show (if b == c then _ else _) = _
  rw [h, if_neg (by decide), hr]
def lastL (l : List (List UInt8)) : List UInt8 := l.getLast?.getD []
theorem lastL_cons {p q : List UInt8} {ps : List (List UInt8)} : lastL (p :: q :: ps) = lastL (q :: ps) := by
  unfold lastL
  rw [List.getLast?_cons_cons]
theorem spl_snoc (c b : UInt8) : ∀ l, spl c (l ++ [b]) = if b == c then spl c l ++ [[]] else (spl c l).dropLast ++ [lastL (spl c l) ++ [b]]
  | [] => by
    show (if b == c then [] :: spl c [] else _) = _
    split
    · rfl
    · rfl
  | a :: r => by
    have ih := spl_snoc c b r
    cases ha : (a == c) with
    | true =>
      rw [List.cons_append, spl_eq ha, spl_eq ha, ih]
      cases hr : spl c r with
      | nil => exact absurd hr (spl_ne c r)
      | cons p ps =>
        split
        · rfl
        · rw [List.dropLast_cons_cons, lastL_cons]; rfl
    | false =>
      cases hr : spl c r with
      | nil => exact absurd hr (spl_ne c r)
      | cons p ps =>
        rw [hr] at ih
        rw [List.cons_append, spl_cons ha hr]
        cases hb : (b == c) with
        | true =>
          rw [hb, if_pos rfl] at ih
          rw [if_pos rfl, spl_cons ha (p := p) (ps := ps ++ [[]]) (by rw [ih]; rfl)]
          rfl
        | false =>
          rw [hb, if_neg (by decide)] at ih
          rw [if_neg (by decide)]
          cases ps with
          | nil => rw [spl_cons ha (p := p ++ [b]) (ps := []) (by rw [ih]; rfl)]; rfl
          | cons q qs =>
            rw [spl_cons ha (p := p) (ps := (q :: qs).dropLast ++ [lastL (q :: qs) ++ [b]]) (by rw [ih, lastL_cons]; rfl)]
            rw [lastL_cons]
            rfl
def toB (l : List UInt8) : ByteArray := ⟨l.toArray⟩
theorem lastB_map (l : List (List UInt8)) : lastB (l.map toB) = toB (lastL l) := by
  unfold lastB lastL
  rw [List.getLast?_map]
  cases l.getLast? <;> rfl
theorem toB_app (a b : List UInt8) : toB a ++ toB b = toB (a ++ b) := ba_app a b
theorem extract_one {s : ByteArray} {k : Nat} (hk : k < s.size) : s.extract k (k + 1) = toB [s.data[k]'(by simpa using hk)] := by
  apply ByteArray.ext
  show (s.extract k (k + 1)).data = #[_]
  rw [ByteArray.data_extract]
  apply Array.ext
  · simp; omega
  · intro i h1 h2
    simp at h2
    subst h2
    simp
theorem spTo_spl (s : ByteArray) (c : UInt8) : ∀ k, k ≤ s.size → spTo s c.toNat k = (spl c (s.data.toList.take k)).map toB
  | 0, _ => rfl
  | k + 1, h => by
    have hk : k < s.size := h
    have hk' : k < s.data.toList.length := by simpa using hk
    have ih := spTo_spl s c k (by omega)
    have e : s.data.toList.take (k + 1) = s.data.toList.take k ++ [s.data[k]'(by simpa using hk)] := by
      rw [List.take_succ_eq_append_getElem hk']
      simp
    have hb : isByte s c.toNat k = (s.data[k]'(by simpa using hk) == c) := by
      unfold isByte
      rw [Array.getElem?_eq_getElem (by simpa using hk)]
      rw [Bool.eq_iff_iff]
      simp [UInt8.toNat_inj]
    rw [spTo, e, spl_snoc, hb, ih, extract_one hk]
    cases hq : (s.data[k]'(by simpa using hk) == c) with
    | true => rw [if_pos rfl, if_pos rfl, List.map_append]; rfl
    | false => rw [if_neg (by decide), if_neg (by decide), List.map_append, List.map_dropLast, lastB_map, toB_app]; rfl
theorem spL_spl (s : ByteArray) (c : UInt8) : spL s c.toNat = (spl c s.data.toList).map toB := by
  unfold spL
  rw [spTo_spl s c s.size (Nat.le_refl _), List.take_of_length_le (by simp)]
end Go.Proofs.YtphlojgmfkgeiaaGreatDoor
