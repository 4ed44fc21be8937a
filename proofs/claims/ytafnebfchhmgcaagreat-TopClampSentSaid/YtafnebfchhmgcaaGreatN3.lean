/- Streams in plain words: what is packed, and what its parts are. -/
import Derived.Test.YtafnebfchhmgcaaGreatN2
namespace Go.Proofs.YtafnebfchhmgcaaGreat
open Go.RowKit Go.Sort
set_option linter.unusedSimpArgs false
set_option linter.unusedVariables false
def w2 (n : Int) : List Int := [n / 256 % 256, n % 256]
def l4 (n : Int) : List Int := w2 (n / 65536) ++ w2 n
def nmI (nm : List UInt8) : List Int := nm.map fun c => (c.toNat : Int)
def fltI (xs : List Nat) : List Int := xs.flatMap fun (x : Nat) => l4 (x : Int)
def bodyB (nm : List UInt8) (xs : List Nat) : List Int := [82, 69, 67, 79] ++ ([(nm.length : Int)] ++ (nmI nm ++ (w2 (xs.length : Int) ++ fltI xs)))
def packB (nm : List UInt8) (xs : List Nat) : List Int := bodyB nm xs ++ l4 (cks (bodyB nm xs))
theorem w2_len (n : Int) : (w2 n).length = 2 := rfl
theorem l4_len (n : Int) : (l4 n).length = 4 := rfl
theorem w2_bd {n : Int} : ∀ b ∈ w2 n, 0 ≤ b ∧ b ≤ 255 := fun b hb => by
  simp only [w2, List.mem_cons, List.not_mem_nil, or_false] at hb
  omega
theorem l4_bd {n : Int} : ∀ b ∈ l4 n, 0 ≤ b ∧ b ≤ 255 := fun b hb => by
  rcases List.mem_append.1 hb with h | h <;> exact w2_bd b h
theorem nmI_bd (nm : List UInt8) : ∀ b ∈ nmI nm, 0 ≤ b ∧ b ≤ 255 := fun b hb => by
  obtain ⟨c, _, rfl⟩ := List.mem_map.1 hb
  have := c.toNat_lt
  omega
theorem fltI_bd (xs : List Nat) : ∀ b ∈ fltI xs, 0 ≤ b ∧ b ≤ 255 := fun b hb => by
  obtain ⟨c, _, h⟩ := List.mem_flatMap.1 hb
  exact l4_bd b h
theorem fltI_len : ∀ xs : List Nat, (fltI xs).length = 4 * xs.length
  | [] => rfl
  | x :: r => by
    have := fltI_len r
    unfold fltI at this ⊢
    rw [List.flatMap_cons, List.length_append, this, l4_len, List.length_cons]
    omega
theorem body_bd {nm : List UInt8} (hn : nm.length ≤ 255) (xs : List Nat) : ∀ b ∈ bodyB nm xs, 0 ≤ b ∧ b ≤ 255 := fun b hb => by
  unfold bodyB at hb
  simp only [List.mem_append] at hb
  rcases hb with h | h | h | h | h
  · simp only [List.mem_cons, List.not_mem_nil, or_false] at h; omega
  · simp only [List.mem_cons, List.not_mem_nil, or_false] at h; omega
  · exact nmI_bd nm b h
  · exact w2_bd b h
  · exact fltI_bd xs b h
theorem body_len (nm : List UInt8) (xs : List Nat) : (bodyB nm xs).length = nm.length + 4 * xs.length + 7 := by
  unfold bodyB nmI
  simp only [List.length_append, List.length_cons, List.length_nil, List.length_map, fltI_len, w2_len]
  omega
theorem pack_len (nm : List UInt8) (xs : List Nat) : (packB nm xs).length = nm.length + 4 * xs.length + 11 := by
  unfold packB
  rw [List.length_append, body_len, l4_len]
theorem pack_bd {nm : List UInt8} (hn : nm.length ≤ 255) (xs : List Nat) : ∀ b ∈ packB nm xs, 0 ≤ b ∧ b ≤ 255 := fun b hb => by
  rcases List.mem_append.1 hb with h | h
  · exact body_bd hn xs b h
  · exact l4_bd b h
theorem num_w2 {n : Int} (h : 0 ≤ n ∧ n < 65536) : numB (w2 n) = n := by
  show ((0 * 256 + n / 256 % 256) * 256 + n % 256) = n
  omega
theorem num_l4 {n : Int} (h : 0 ≤ n ∧ n < 4294967296) : numB (l4 n) = n := by
  show ((((0 * 256 + n / 65536 / 256 % 256) * 256 + n / 65536 % 256) * 256 + n / 256 % 256) * 256 + n % 256) = n
  omega
theorem num_one (n : Int) : numB [n] = n := by
  show 0 * 256 + n = n
  omega
/- The parts, one after the other. -/
def restB (nm : List UInt8) (xs : List Nat) : List Int := fltI xs ++ l4 (cks (bodyB nm xs))
theorem part0 (nm : List UInt8) (xs : List Nat) : packB nm xs = [82, 69, 67, 79] ++ ((nm.length : Int) :: (nmI nm ++ (w2 (xs.length : Int) ++ restB nm xs))) := by
  unfold packB restB
  generalize cks (bodyB nm xs) = C
  unfold bodyB
  simp only [List.append_assoc, List.cons_append, List.nil_append]
theorem part4 (nm : List UInt8) (xs : List Nat) : (packB nm xs).drop 4 = (nm.length : Int) :: (nmI nm ++ (w2 (xs.length : Int) ++ restB nm xs)) := by rw [part0]; rfl
theorem take_left {l1 l2 : List Int} {k : Nat} (h : l1.length = k) : (l1 ++ l2).take k = l1 ∧ (l1 ++ l2).drop k = l2 := by
  subst h
  exact ⟨List.take_left, List.drop_left⟩
theorem nmI_len (nm : List UInt8) : (nmI nm).length = nm.length := by unfold nmI; rw [List.length_map]
theorem tail_len (nm : List UInt8) (xs : List Nat) : (restB nm xs).length = 4 * xs.length + 4 := by
  unfold restB
  rw [List.length_append, fltI_len, l4_len]
theorem tail_parts (nm : List UInt8) (xs : List Nat) : (restB nm xs).take (4 * xs.length) = fltI xs ∧ (restB nm xs).drop (4 * xs.length) = l4 (cks (bodyB nm xs)) := take_left (fltI_len xs)
theorem pack_body (nm : List UInt8) (xs : List Nat) : (packB nm xs).take ((packB nm xs).length - 4) = bodyB nm xs := by
  rw [pack_len, show nm.length + 4 * xs.length + 11 - 4 = (bodyB nm xs).length by rw [body_len]; omega]
  exact List.take_left
theorem flt_chunk : ∀ (xs : List Nat) (k : Nat) (hk : k < xs.length), ((fltI xs).drop (4 * k)).take 4 = l4 (xs[k] : Int)
  | [], k, hk => absurd hk (Nat.not_lt_zero _)
  | x :: r, 0, _ => by
    unfold fltI
    rw [List.flatMap_cons]
    exact (take_left (l4_len _)).1
  | x :: r, k + 1, hk => by
    have ih := flt_chunk r k (by simpa using hk)
    have e : fltI (x :: r) = l4 (x : Int) ++ fltI r := rfl
    rw [e, show 4 * (k + 1) = (l4 (x : Int)).length + 4 * k by rw [l4_len]; omega, ← List.drop_drop, List.drop_left]
    exact ih
end Go.Proofs.YtafnebfchhmgcaaGreat
