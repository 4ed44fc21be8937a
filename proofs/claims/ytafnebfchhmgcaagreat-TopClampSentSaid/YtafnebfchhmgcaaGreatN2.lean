/- The reader of a stream: take. -/
import Derived.Test.YtafnebfchhmgcaaGreatN1
namespace Go.Proofs.YtafnebfchhmgcaaGreat
open Go.RowKit Go.Sort
set_option linter.unusedSimpArgs false
set_option linter.unusedVariables false
attribute [local go_sem] cell_if frozen_if grow_cell
/-- A reader in a box: what is left lies below B. -/
structure RdAt (B b : Nat) (bs : List Int) (w : World) : Prop where
  ex : ∃ g o c, Blk w b 133 #[.slice (some ⟨g, o, none⟩) bs.length c, .bool false] ∧ Reads w B 1 (some ⟨g, o, none⟩) bs.length (bs.map (.int .u8)) ∧ bs.length ≤ c
  le : B ≤ b
theorem RdAt.kept {B b : Nat} {bs : List Int} {w w' : World} (h : RdAt B b bs w) (hB : B ≤ w.heap.size) (hb : Below w.heap.size w w') : RdAt B b bs w' := by
  obtain ⟨g, o, c, h1, h2, h3⟩ := h.ex
  exact ⟨⟨g, o, c, h1.kept hb, h2.below (hb.mono hB), h3⟩, h.le⟩
theorem reads_drop {w : World} {B g o : Nat} {bs : List Int} (h : Reads w B 1 (some ⟨g, o, none⟩) bs.length (bs.map (.int .u8))) (k : Nat) (hk : k ≤ bs.length) : Reads w B 1 (some ⟨g, o + k, none⟩) (bs.drop k).length ((bs.drop k).map (.int .u8)) := by
  refine ⟨by simp, fun h0 => ?_⟩
  rw [List.length_drop] at h0
  obtain ⟨b, o', e, hb, hc⟩ := h.2 (by omega)
  cases e
  refine ⟨g, o + k, rfl, hb, fun j u hu => ?_⟩
  rw [List.getElem?_map, List.getElem?_drop] at hu
  have := hc (k + j) u (by rw [List.getElem?_map]; exact hu)
  rwa [← Nat.add_assoc] at this
theorem reads_tk {w : World} {B : Nat} {A : Option Addr} {bs : List Int} (h : Reads w B 1 A bs.length (bs.map (.int .u8))) (k : Nat) (hk : k ≤ bs.length) : Reads w B 1 A k ((bs.take k).map (.int .u8)) := by
  refine ⟨by simp; omega, fun h0 => ?_⟩
  obtain ⟨b, o', e, hb, hc⟩ := h.2 (by omega)
  refine ⟨b, o', e, hb, fun j u hu => hc j u ?_⟩
  rw [List.getElem?_map] at hu ⊢
  rw [List.getElem?_take] at hu
  split at hu
  · exact hu
  · cases hu
def TakeRes (B b k : Nat) (bs : List Int) (w : World) (e : Ending) (w' : World) : Prop := ∃ A c v, e = .returned (.slice A k c) ∧ Reads w' B 1 A k ((bs.take k).map (.int .u8)) ∧ RdAt B b (bs.drop k) w' ∧ w' = w.setCell ⟨b, 0, none⟩ v ∧ k ≤ c
set_option maxRecDepth 100000 in
theorem take_any (B b k : Nat) (bs : List Int) (w : World) (h : RdAt B b bs w) (hk : k ≤ bs.length) (hlen : bs.length ≤ 100000) :
    Calls Tryz.prog 64 #[.pointer (some ⟨b, 0, none⟩), .int .i64 (k : Int)] w (TakeRes B b k bs w) := by
  obtain ⟨g, o, c, hbk, hr, hc⟩ := h.ex
  have hle := h.le
  have HR := Lib.hid hr
  have HBk := Lib.hid hbk
  have cB := hbk.cell
  have fB := hbk.frozen
  have lB := hbk.lt
  have HD := Lib.hid (reads_drop hr k hk)
  have HT := Lib.hid (reads_tk hr k hk)
  have hdl : (bs.drop k).length = bs.length - k := List.length_drop
  have HDl := Lib.hid hdl
  obtain ⟨n, hn⟩ : ∃ n, bs.length = n := ⟨_, rfl⟩
  rw [hn] at hk hlen hc cB
  have HN := Lib.hid hn
  have hlt : ¬ (n : Int) < (k : Int) := by omega
  have hk0 : (0 : Int) ≤ (k : Int) := by omega
  have hkc : k ≤ c := by omega
  have hkc2 : ¬ c < k := by omega
  clear hr hbk h hdl hn
  go_enter Tryz.func64, Tryz.ntmps64
  by_cases hck : c = k
  · have hnk : n = k := by omega
    subst hnk
    subst hck
    go_wp2_with fail
    go_ret
    refine ⟨_, _, _, rfl, HT.out.below ((Below.refl B w).setCell (p := ⟨b, 0, none⟩) hle _), ⟨⟨g, o, 0, ?_, ?_, ?_⟩, hle⟩, rfl, by omega⟩
    · have h := HBk.out.set_ 0 (.slice (some ⟨g, o, none⟩) 0 0)
      have e : (bs.drop c).length = 0 := by rw [HDl.out, HN.out]; omega
      rw [e]
      exact h
    · have e : bs.drop c = [] := List.drop_eq_nil_of_le (by rw [HN.out]; exact Nat.le_refl _)
      rw [e]
      exact ⟨rfl, fun h => absurd h (Nat.not_lt_zero _)⟩
    · rw [HDl.out, HN.out]; omega
  · go_wp2_with fail
    go_ret
    refine ⟨_, _, _, rfl, HT.out.below ((Below.refl B w).setCell (p := ⟨b, 0, none⟩) hle _), ⟨⟨g, o + k, c - k, ?_, ?_, ?_⟩, hle⟩, rfl, by omega⟩
    · have h := HBk.out.set_ 0 (.slice (some ⟨g, o + k, none⟩) (n - k) (c - k))
      have e : (bs.drop k).length = n - k := by rw [HDl.out, HN.out]
      rw [e]
      exact h
    · exact HD.out.below ((Below.refl B w).setCell (p := ⟨b, 0, none⟩) hle _)
    · rw [HDl.out, HN.out]; omega
end Go.Proofs.YtafnebfchhmgcaaGreat
