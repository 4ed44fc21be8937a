/- Plain: sets that are told, their checks and switchings; what the law of choices compares. -/
import Derived.Test.YtfpjcnkfoehhmaaGreatDoorDE
namespace Go.Proofs.YtfpjcnkfoehhmaaGreatDoor
open Go Go.RowKit
theorem setGo_zero {a : Ar} : ∀ {l : List Int} {last : Int}, setGo a last l = 0 → (∀ i ∈ l, i ∈ usL a ∧ last < i) ∧ l.Pairwise (· < ·)
  | [], _, _ => ⟨fun i hi => (by cases hi), List.Pairwise.nil⟩
  | i :: r, last, h => by
    unfold setGo at h
    split at h
    · rename_i hu
      split at h
      · cases h
      · rename_i hl
        obtain ⟨h1, h2⟩ := setGo_zero h
        refine ⟨fun j hj => ?_, List.pairwise_cons.2 ⟨fun j hj => (h1 j hj).2, h2⟩⟩
        rcases List.mem_cons.1 hj with rfl | hj
        · exact ⟨(hasI_iff _ _).1 hu, by omega⟩
        · have := h1 j hj
          exact ⟨this.1, by omega⟩
    · cases h
theorem chsE_ok {a : Ar} (hE : armE a = 0) (set : List Int) : chsE a set = if 16 < set.length then 5 else setGo a (-1) set := by
  unfold chsE
  rw [firstE_cons, hE, firstE_cons, firstE_nil]
  by_cases h : 16 < set.length
  · rw [if_pos h, decide_eq_true (by omega)]
    rfl
  · rw [if_neg h, decide_eq_false (by omega)]
    rfl
theorem chsE_bad {a : Ar} (hE : armE a ≠ 0) (set : List Int) : chsE a set = armE a := by
  unfold chsE
  rw [firstE_cons]
  unfold or0
  rw [if_neg hE, if_neg hE]
theorem chs_chg {a : Ar} (hE : armE a = 0) {set : List Int} (h0 : chsE a set = 0) : chsV a set = (chgN (onL a) set : Int) := by
  have hF := fit_of hE
  have h1 := h0
  rw [chsE_ok hE] at h1
  have h2 : setGo a (-1) set = 0 := by
    split at h1
    · cases h1
    · exact h1
  obtain ⟨hU, hP⟩ := setGo_zero h2
  have hnd : set.Nodup := hP.imp fun h e => by omega
  unfold chsV
  rw [if_pos h0, cntX_sw set 0 a.m 0 (fun i hi hb => by
    refine ⟨?_, ?_⟩
    · cases hon : (a.m[i]).on with
      | false => rfl
      | true =>
        have := hF.cf _ (List.getElem_mem hi) hon
        rw [hb] at this
        cases this
    · cases hh : hasI set ((0 + i : Nat) : Int) with
      | false => rfl
      | true =>
        obtain ⟨j, hj, e, hu⟩ := mem_idxs.1 (hU _ ((hasI_iff _ _).1 hh)).1
        have : i = j := by omega
        subst this
        unfold usB at hu
        rw [hb] at hu
        cases hu), sw_idxs set 0 a.m 0]
  unfold chgN
  congr 2
  · refine len_eq_of ((idxs_nodup _ _ _).sublist List.filter_sublist) (wout_nodup hnd) fun x => ?_
    rw [List.mem_filter, mem_wout]
    constructor
    · rintro ⟨h1, h2⟩
      obtain ⟨j, hj, e1, hq⟩ := mem_idxs.1 h1
      refine ⟨(hasI_iff _ _).1 h2, fun q => ?_⟩
      obtain ⟨j2, hj2, e2, hq2⟩ := mem_idxs.1 q
      obtain rfl : j = j2 := by omega
      rw [hq2] at hq
      cases hq
    · rintro ⟨h1, h2⟩
      obtain ⟨j, hj, e1, _⟩ := mem_idxs.1 (hU x h1).1
      refine ⟨mem_idxs.2 ⟨j, hj, e1, ?_⟩, (hasI_iff _ _).2 h1⟩
      cases hq : (a.m[j]).on with
      | false => rfl
      | true => exact absurd (mem_idxs.2 ⟨j, hj, e1, hq⟩) h2
/-- What stands ahead of place i of a set. -/
def lastAt (set : List Int) (i : Nat) : Int := if i = 0 then -1 else (set[i - 1]?).getD 0
theorem lastAt_succ {set : List Int} {i : Nat} (h : i < set.length) : lastAt set (i + 1) = set[i] := by
  unfold lastAt
  rw [if_neg (by omega), Nat.add_sub_cancel, List.getElem?_eq_getElem h]
  rfl
theorem setGo_pos {a : Ar} {set : List Int} {i : Nat} (h : i < set.length) (last : Int) : setGo a last (set.drop i) = if hasI (usL a) set[i] then (if set[i] ≤ last then 11 else setGo a set[i] (set.drop (i + 1))) else 10 := by
  rw [List.drop_eq_getElem_cons h]
  rfl
theorem setGo_fin {a : Ar} {set : List Int} (last : Int) : setGo a last (set.drop set.length) = 0 := by
  rw [List.drop_length]
  rfl
/-- Sums over the first elements of a set. -/
def sumTo (f : Int → Int) (L : List Int) (k : Nat) : Int := ((L.take k).map f).sum
theorem sumTo_succ {f : Int → Int} {L : List Int} {k : Nat} (h : k < L.length) : sumTo f L (k + 1) = sumTo f L k + f L[k] := by
  unfold sumTo
  rw [List.take_succ_eq_append_getElem h, List.map_append, List.sum_append]
  simp
theorem sumTo_zero (f : Int → Int) (L : List Int) : sumTo f L 0 = 0 := by simp [sumTo]
theorem sumTo_all (f : Int → Int) (L : List Int) : sumTo f L L.length = (L.map f).sum := by unfold sumTo; rw [List.take_length]
theorem sumTo_bd {f : Int → Int} {L : List Int} (h : ∀ i ∈ L, -1000 ≤ f i ∧ f i ≤ 17384) : ∀ k, k ≤ L.length → -(1000 * (k : Int)) ≤ sumTo f L k ∧ sumTo f L k ≤ 17384 * (k : Int)
  | 0, _ => by rw [sumTo_zero]; omega
  | k + 1, hk => by
    have ih := sumTo_bd h k (by omega)
    have h1 := h L[k] (List.getElem_mem (by omega))
    rw [sumTo_succ (by omega)]
    omega
end Go.Proofs.YtfpjcnkfoehhmaaGreatDoor
