/- Yards by value; what is kept where the world grows. -/
import Derived.Test.YtphlojgmfkgeiaaGreatDoorKm
namespace Go.Proofs.YtphlojgmfkgeiaaGreatDoor
open Go.RowKit Go.Sort Go.Shelf
/-- A yard by value. -/
def ShRes (w : World) (y : Yd) (e : Ending) (w' : World) : Prop := ∃ A0 A1 A2 c0 c1 c2, e = .returned (.agg #[.slice A0 y.s.length c0, .slice A1 y.w.length c1, .slice A2 y.p.length c2]) ∧ YdAt w' w'.heap.size A0 A1 A2 y.s.length y.w.length y.p.length y ∧ Below w.heap.size w w'
theorem OwRes.sh {T0 T1 T2 : TypeId} {w w' : World} {y : Yd} {e : Ending} (h : OwRes T0 T1 T2 w y e w') : ShRes w y e w' := by
  obtain ⟨A0, A1, A2, c0, c1, c2, rfl, hO, hb⟩ := h
  exact ⟨A0, A1, A2, c0, c1, c2, rfl, hO.yd, hb⟩
theorem rd_kept {w W : World} {n size : Nat} {A : Option Addr} {xs : List Value} (h : Reads w w.heap.size size A n xs) (hb : Below w.heap.size w W) : Reads W W.heap.size size A n xs := (h.below hb).more hb.size
theorem yd_kept {w W : World} {A0 A1 A2 : Option Addr} {n0 n1 n2 : Nat} {y : Yd} (h : YdAt w w.heap.size A0 A1 A2 n0 n1 n2 y) (hb : Below w.heap.size w W) : YdAt W W.heap.size A0 A1 A2 n0 n1 n2 y := (h.below hb).more hb.size
end Go.Proofs.YtphlojgmfkgeiaaGreatDoor
