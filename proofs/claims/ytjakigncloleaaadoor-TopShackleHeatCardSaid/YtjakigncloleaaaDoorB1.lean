/- Kept blocks. -/
import Derived.Test.YtjakigncloleaaaDoorA
namespace Go.Proofs.YtjakigncloleaaaDoor
open Go.RowKit
theorem blk_kept {w w' : World} {g : Nat} {t : TypeId} {cs : Array Value} (hb : Below w.heap.size w w') (h : Blk w g t cs) : Blk w' g t cs := h.kept hb
theorem blk_two {w : World} {g : Nat} {t : TypeId} {p q x y : Value} (h : Blk w g t #[p, q]) : Blk ((w.setCell ⟨g, 0, none⟩ x).setCell ⟨g, 1, none⟩ y) g t #[x, y] := (h.set_ 0 x).set_ 1 y
theorem blk_far {w : World} {g : Nat} {t : TypeId} {cs : Array Value} {p : Addr} (hp : g ≠ p.block) (h : Blk w g t cs) (u : Value) : Blk (w.setCell p u) g t cs := h.far hp u
end Go.Proofs.YtjakigncloleaaaDoor
