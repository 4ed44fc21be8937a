/- Reference: FindSection, as the program's search. -/
import Derived.Test.YtphlojgmfkgeiaaGreatDoorKg
namespace Go.Proofs.YtphlojgmfkgeiaaGreatDoor
open Go.RowKit Go.Sort Go.Shelf
theorem find_idx {α : Type} (f : α → ByteArray) (s : ByteArray) : ∀ (l : List α) (k : Nat), findFrom k (l.map f) s = idxP (fun x => (f x).toList == s.toList) k l
  | [], _ => rfl
  | x :: r, k => by
    rw [List.map_cons, findFrom_cons, idxP_cons, find_idx f s r (k + 1)]
theorem sec_find (y : Yd) (nm : ByteArray) {n : Nat} (h : y.s.length = n) : findI ((y.s.map Sec.n).take n) nm = secAtB y nm := by
  rw [List.take_of_length_le (by simp [h])]
  exact find_idx _ _ _ _
theorem FindSec_any (B : Nat) (A0 A1 A2 : Option Addr) (n0 n1 n2 c0 c1 c2 : Nat) (y : Yd) (nm : ByteArray) (w : World) (hY : YdAt w B A0 A1 A2 n0 n1 n2 y) (hB : B ≤ w.heap.size) (h9 : n0 ≤ 400) :
    Calls Tryz.prog 91 #[.agg #[.slice A0 n0 c0, .slice A1 n1 c1, .slice A2 n2 c2], .string nm, .int .i64 n0] w fun e w' => e = .returned (.int .i64 (secAtB y nm)) ∧ Below w.heap.size w w' := by
  have h := FindSection_any B A0 A1 A2 n0 n1 n2 c0 c1 c2 y nm n0 w hY hB (Nat.le_refl _) (by unfold maxLen; omega)
  rw [sec_find y nm (sec_at hY.hs).1] at h
  exact h
end Go.Proofs.YtphlojgmfkgeiaaGreatDoor
