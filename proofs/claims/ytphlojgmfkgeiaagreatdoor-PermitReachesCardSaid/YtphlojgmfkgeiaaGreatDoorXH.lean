/- Boxes hold no rows: a store into a block of slices leaves a yard. -/
import Derived.Test.YtphlojgmfkgeiaaGreatDoorXA
namespace Go.Proofs.YtphlojgmfkgeiaaGreatDoor
open Go.RowKit Go.Sort Go.Shelf
def isSl : Value → Bool
  | .slice _ _ _ => true
  | _ => false
theorem Reads.box {w : World} {B size n g i : Nat} {A : Option Addr} {xs : List Value} {t : TypeId} {cs : Array Value} (h : Reads w B size A n xs) (hb : Blk w g t cs) (hx : ∀ u ∈ xs, isSl u = false) (hc : ∀ u ∈ cs.toList, isSl u = true) (u : Value) : Reads (w.setCell ⟨g, i, none⟩ u) B size A n xs := by
  refine ⟨h.1, fun hn => ?_⟩
  obtain ⟨b, o, rfl, hlt, hcell⟩ := h.2 hn
  refine ⟨b, o, rfl, hlt, fun j v hj => ?_⟩
  have h1 := hcell j v hj
  have hbg : b ≠ g := by
    rintro rfl
    rw [hb.cell] at h1
    have h2 := hc v (List.mem_of_getElem? (by rw [Array.getElem?_toList]; exact h1))
    rw [hx v (List.mem_of_getElem? hj)] at h2
    cases h2
  exact (World.cell?_of_block (Below.heap_setCell w ⟨g, i, none⟩ u b hbg)).trans h1
theorem secs_sl (l : List Sec) : ∀ u ∈ secs l, isSl u = false := by
  intro u hu
  obtain ⟨x, _, hx⟩ := List.mem_flatMap.1 hu
  simp [Sec.cells] at hx
  rcases hx with rfl | rfl <;> rfl
theorem sws_sl (l : List Sw) : ∀ u ∈ sws l, isSl u = false := by
  intro u hu
  obtain ⟨x, _, hx⟩ := List.mem_flatMap.1 hu
  simp [Sw.cells] at hx
  rcases hx with rfl | rfl | rfl | rfl | rfl <;> rfl
theorem pms_sl (l : List Pm) : ∀ u ∈ pms l, isSl u = false := by
  intro u hu
  obtain ⟨x, _, hx⟩ := List.mem_flatMap.1 hu
  simp [Pm.cells] at hx
  rcases hx with rfl | rfl <;> rfl
theorem YdAt.box {w : World} {B n0 n1 n2 g i : Nat} {A0 A1 A2 : Option Addr} {y : Yd} {t : TypeId} {cs : Array Value} (h : YdAt w B A0 A1 A2 n0 n1 n2 y) (hb : Blk w g t cs) (hc : ∀ u ∈ cs.toList, isSl u = true) (u : Value) : YdAt (w.setCell ⟨g, i, none⟩ u) B A0 A1 A2 n0 n1 n2 y :=
  ⟨h.hs.box hb (secs_sl _) hc u, h.hw.box hb (sws_sl _) hc u, h.hp.box hb (pms_sl _) hc u⟩
/-- Three slices are stored into a box: a yard that lies anywhere stays. -/
theorem YdAt.box3 {w : World} {n0 n1 n2 g k0 k1 k2 l0 l1 l2 : Nat} {A0 A1 A2 : Option Addr} {y : Yd} {t : TypeId} {a0 a1 a2 b0 b1 b2 : Option Addr} {d0 d1 d2 c0 c1 c2 : Nat} (h : YdAt w w.heap.size A0 A1 A2 n0 n1 n2 y) (hb : Blk w g t #[.slice a0 k0 d0, .slice a1 k1 d1, .slice a2 k2 d2]) :
    YdAt (((w.setCell ⟨g, 0, none⟩ (.slice b0 l0 c0)).setCell ⟨g, 1, none⟩ (.slice b1 l1 c1)).setCell ⟨g, 2, none⟩ (.slice b2 l2 c2)) (((w.setCell ⟨g, 0, none⟩ (.slice b0 l0 c0)).setCell ⟨g, 1, none⟩ (.slice b1 l1 c1)).setCell ⟨g, 2, none⟩ (.slice b2 l2 c2)).heap.size A0 A1 A2 n0 n1 n2 y := by
  have e : (((w.setCell ⟨g, 0, none⟩ (.slice b0 l0 c0)).setCell ⟨g, 1, none⟩ (.slice b1 l1 c1)).setCell ⟨g, 2, none⟩ (.slice b2 l2 c2)).heap.size = w.heap.size := by simp [World.setCell]
  rw [e]
  refine ((h.box hb ?_ _).box (hb.set_ 0 (.slice b0 l0 c0)) ?_ _).box ((hb.set_ 0 (.slice b0 l0 c0)).set_ 1 (.slice b1 l1 c1)) ?_ _
  all_goals
    intro u hu
    simp at hu
    rcases hu with rfl | rfl | rfl <;> rfl
end Go.Proofs.YtphlojgmfkgeiaaGreatDoor
