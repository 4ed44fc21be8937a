/- What the checks of a yard say; in plain words. -/
import Derived.Test.YtphlojgmfkgeiaaGreatDoorKe
import Derived.Test.YtphlojgmfkgeiaaGreatDoorKm
namespace Go.Proofs.YtphlojgmfkgeiaaGreatDoor
theorem yardE_zero {y : Yd} : yardE y = 0 ↔ partsE y = 0 ∧ soundB y = true := by
  constructor
  · intro h
    exact ⟨(or0_zero h).1, (yard_ok h).2⟩
  · rintro ⟨h1, h2⟩
    unfold yardE
    rw [h1, h2]
    rfl
theorem chkGo_iff : ∀ (l : List (ByteArray × Int)) (b : List ByteArray), chkGo b l = 0 ↔ (∀ q ∈ l, nameE q.1 = 0 ∧ q.2 = 0 ∧ hasW b q.1 = false) ∧ l.Pairwise (fun p q => (p.1.toList == q.1.toList) = false)
  | [], b => by simp [chkGo]
  | (s, e) :: r, b => by
    have hone : chkOne b s e = 0 ↔ nameE s = 0 ∧ e = 0 ∧ hasW b s = false := by
      unfold chkOne
      constructor
      · intro h
        obtain ⟨h1, h2⟩ := first2_zeroV h
        obtain ⟨h3, h4⟩ := first2_zeroV h1
        exact ⟨h3, h2, whenE_zero (by decide) h4⟩
      · rintro ⟨h1, h2, h3⟩
        rw [h1, h2, h3]
        rfl
    have hb : ∀ q : ByteArray × Int, hasW (b ++ [s]) q.1 = false ↔ hasW b q.1 = false ∧ (s.toList == q.1.toList) = false := fun q => by
      unfold hasW
      rw [List.any_append]
      simp
    unfold chkGo
    constructor
    · intro h
      split at h
      · rename_i h'
        obtain ⟨g1, g2⟩ := (chkGo_iff r _).1 h
        obtain ⟨o1, o2, o3⟩ := hone.1 h'
        refine ⟨fun q hq => ?_, List.pairwise_cons.2 ⟨fun q hq => ((hb q).1 (g1 q hq).2.2).2, g2⟩⟩
        rcases List.mem_cons.1 hq with rfl | hq
        · exact ⟨o1, o2, o3⟩
        · have := g1 q hq
          exact ⟨this.1, this.2.1, ((hb q).1 this.2.2).1⟩
      · rename_i h'; exact absurd h h'
    · rintro ⟨g1, g2⟩
      obtain ⟨p1, p2⟩ := List.pairwise_cons.1 g2
      rw [if_pos (hone.2 (g1 _ (List.mem_cons_self ..)))]
      refine (chkGo_iff r _).2 ⟨fun q hq => ?_, p2⟩
      have := g1 q (List.mem_cons_of_mem _ hq)
      exact ⟨this.1, this.2.1, (hb q).2 ⟨this.2.2, p1 q hq⟩⟩
theorem chkAll_iff (l : List (ByteArray × Int)) : chkAll l = 0 ↔ l.length ≤ 8 ∧ (∀ q ∈ l, nameE q.1 = 0 ∧ q.2 = 0) ∧ l.Pairwise (fun p q => (p.1.toList == q.1.toList) = false) := by
  unfold chkAll
  constructor
  · intro h
    split at h
    · cases h
    · obtain ⟨h1, h2⟩ := (chkGo_iff l []).1 h
      exact ⟨by omega, fun q hq => ⟨(h1 q hq).1, (h1 q hq).2.1⟩, h2⟩
  · rintro ⟨h0, h1, h2⟩
    rw [if_neg (by omega)]
    exact (chkGo_iff l []).2 ⟨fun q hq => ⟨(h1 q hq).1, (h1 q hq).2, rfl⟩, h2⟩
theorem parts_split {y : Yd} : partsE y = 0 ↔ (y.s.isEmpty = false ∧ secChk y.s = 0 ∧ swChk y.s.length y.w = 0) ∧ pmChk y.s.length y.p = 0 := by
  unfold partsE
  constructor
  · intro h
    obtain ⟨h0, h⟩ := or0_zero h
    obtain ⟨h1, h⟩ := or0_zero h
    obtain ⟨h2, h3⟩ := or0_zero h
    exact ⟨⟨whenE_zero (by decide) h0, h1, h2⟩, h3⟩
  · rintro ⟨⟨h0, h1, h2⟩, h3⟩
    rw [h0, h1, h2, h3]
    rfl
def pmQ (n : Nat) (l : List Pm) : Prop := l.length ≤ 8 ∧ (∀ x ∈ l, nameE x.n = 0 ∧ hasN n x.s = true) ∧ l.Pairwise (fun p q => (p.n.toList == q.n.toList) = false)
theorem pmChk_iff {n : Nat} {l : List Pm} : pmChk n l = 0 ↔ pmQ n l := by
  unfold pmChk pmQ
  rw [chkAll_iff, List.length_map, List.pairwise_map]
  refine and_congr Iff.rfl (and_congr ?_ Iff.rfl)
  constructor
  · intro h x hx
    have := h (x.n, whenE (!hasN n x.s) 10) (List.mem_map.2 ⟨x, hx, rfl⟩)
    exact ⟨this.1, by have := whenE_zero (by decide) this.2; simpa using this⟩
  · intro h q hq
    obtain ⟨x, hx, rfl⟩ := List.mem_map.1 hq
    have := h x hx
    refine ⟨this.1, ?_⟩
    show whenE (!hasN n x.s) 10 = 0
    rw [this.2]; rfl
end Go.Proofs.YtphlojgmfkgeiaaGreatDoor
