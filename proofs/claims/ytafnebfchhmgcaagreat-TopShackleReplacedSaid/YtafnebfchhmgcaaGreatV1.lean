/- Valves: first, when, within; pulses of indices. -/
import Derived.Test.YtafnebfchhmgcaaGreatV0
namespace Go.Proofs.YtafnebfchhmgcaaGreat
open Go Go.RowKit Go.Sort
set_option linter.unusedSimpArgs false
set_option linter.unusedVariables false
attribute [local go_sem] cell_if frozen_if grow_cell
theorem vwhen_any (b : Bool) (n : Int) (w : World) : Calls Tryz.prog 106 #[.bool b, .int .i64 n] w fun e w' => e = .returned (.int .i64 (whenE b n)) ∧ w = w' := by
  cases b
  all_goals
    go_enter Tryz.func106, Tryz.ntmps106
    go_wp2
    go_ret
    exact ⟨rfl, rfl⟩
theorem vwithin_any (n lo hi : Int) (w : World) : Calls Tryz.prog 98 #[.int .i64 n, .int .i64 lo, .int .i64 hi] w fun e w' => e = .returned (.int .i64 (ckR n lo hi)) ∧ w = w' := by
  by_cases h1 : n < lo
  · have e := ckR_no (n := n) (lo := lo) (hi := hi) (.inl h1)
    (rw [e]; clear e; go_enter Tryz.func98, Tryz.ntmps98; go_wp2; go_ret; exact ⟨by first | rfl | (simp; done) | (simp; omega), rfl⟩)
  · by_cases h2 : hi < n
    · have e := ckR_no (n := n) (lo := lo) (hi := hi) (.inr h2)
      (rw [e]; clear e; go_enter Tryz.func98, Tryz.ntmps98; go_wp2; go_ret; exact ⟨by first | rfl | (simp; done) | (simp; omega), rfl⟩)
    · have e := ckR_yes (n := n) (lo := lo) (hi := hi) (by omega)
      (rw [e]; clear e; go_enter Tryz.func98, Tryz.ntmps98; go_wp2; go_ret; exact ⟨by first | rfl | (simp; done) | (simp; omega), rfl⟩)
theorem vwithin_b (n lo hi : Int) (w : World) : Calls Tryz.prog 98 #[.int .i64 n, .int .i64 lo, .int .i64 hi] w fun e w' => e = .returned (.int .i64 (ckR n lo hi)) ∧ Below w.heap.size w w' := calls_below (vwithin_any n lo hi w)
theorem vfirst_any (B : Nat) (A : Option Addr) (n c : Nat) (zs : List Int) (w : World) (hr : Reads w B 1 A n (zs.map (.int .i64))) (hn : n ≤ maxLen) : Calls Tryz.prog 96 #[.slice A n c] w fun e w' => e = .returned (.int .i64 (firstE zs)) ∧ w = w' := by
  unfold maxLen at hn
  have hl : zs.length = n := by simpa using hr.1
  have Hl := Lib.hid hl; clear hl
  go_enter Tryz.func96, Tryz.ntmps96
  go_wp2
  go_loop [4, 7] (fun _ i => ∃ k : Nat, k ≤ n ∧ i = .int .i64 k ∧ firstE zs = firstE (zs.drop k)) (fun _ i => n - (intOf i).toNat)
  case atStart => exact ⟨0, Nat.zero_le _, rfl, rfl⟩
  case round =>
    obtain ⟨k, hk, rfl, hf⟩ := hrel
    have Hf := Lib.hid hf; clear hf
    by_cases hlt : k < n
    · obtain ⟨b, o, u, rfl, _, hu, hc⟩ := hr.at_ hlt
      have hkl : k < zs.length := by rw [Hl.out]; exact hlt
      obtain rfl : u = .int .i64 zs[k] := by simpa [hkl] using hu.symm
      have Hd : Hid (zs.drop k = zs[k] :: zs.drop (k + 1)) := List.drop_eq_getElem_cons hkl
      clear hu
      generalize zs[k] = z at *
      by_cases hz : z = 0
      · subst hz
        go_wp2
        go_round
        case rel => exact ⟨k + 1, by omega, by go_num, by rw [Hf.out, Hd.out]; rfl⟩
        case measure => simp [intOf]; omega
      · have hz1 : (z != 0) = true := by simpa using hz
        go_wp2
        go_ret
        exact ⟨by rw [Hf.out, Hd.out]; simp [firstE, hz], rfl⟩
    · have hkn : k = n := by omega
      go_wp2
      go_ret
      exact ⟨by rw [Hf.out, hkn, ← Hl.out]; simp [firstE], rfl⟩
/-- At a list that the caller has just laid. -/
theorem vfirst_new (zs : List Int) (w : World) (t : TypeId) (n : Nat) (hl : zs.length = n) (hn : n ≤ maxLen) : Calls Tryz.prog 96 #[.slice (some ⟨w.heap.size, 0, none⟩) n n] (w.alloc (.cells (zs.map (.int .i64)).toArray t)) fun e w' => e = .returned (.int .i64 (firstE zs)) ∧ w.alloc (.cells (zs.map (.int .i64)).toArray t) = w' :=
  vfirst_any (w.heap.size + 1) _ n n zs _ (by simpa using Reads.new (size := 1) w (zs.map (.int .i64)).toArray t n (by simpa using hl)) hn
/-- The pulses of indices. -/
def bitN (l : List Int) : Nat := l.foldl (fun z i => z ||| 2 ^ i.toNat) 0
theorem bitN_snoc (l : List Int) {k : Nat} (h : k < l.length) : bitN (l.take (k + 1)) = bitN (l.take k) ||| 2 ^ (l[k]).toNat := by
  unfold bitN
  rw [List.take_succ_eq_append_getElem h, List.foldl_append]
  rfl
theorem bitF_lt : ∀ (l : List Int) (z : Nat), z < 2 ^ 12 → (∀ i ∈ l, 0 ≤ i ∧ i < 12) → l.foldl (fun z i => z ||| 2 ^ i.toNat) z < 2 ^ 12
  | [], _, h, _ => h
  | x :: r, z, h, hb => bitF_lt r _ (Nat.or_lt_two_pow h (Nat.pow_lt_pow_right (by decide) (by have := hb x List.mem_cons_self; omega))) fun i hi => hb i (List.mem_cons_of_mem _ hi)
theorem bitN_lt {l : List Int} (h : ∀ i ∈ l, 0 ≤ i ∧ i < 12) : bitN l < 2 ^ 12 := bitF_lt l 0 (by decide) h
theorem bitF_has (j : Nat) : ∀ (l : List Int) (z : Nat), (∀ i ∈ l, 0 ≤ i) → (l.foldl (fun z i => z ||| 2 ^ i.toNat) z).testBit j = (z.testBit j || decide ((j : Int) ∈ l))
  | [], z, _ => by simp
  | x :: r, z, h => by
    rw [List.foldl_cons, bitF_has j r _ fun i hi => h i (List.mem_cons_of_mem _ hi), Nat.testBit_or, Nat.testBit_two_pow, Bool.or_assoc]
    congr 1
    have h0 := h x List.mem_cons_self
    by_cases hx : x.toNat = j
    · have : (j : Int) = x := by omega
      simp [hx, this]
    · have : ¬ (j : Int) = x := by omega
      simp [hx, this]
theorem bitN_has {l : List Int} (h : ∀ i ∈ l, 0 ≤ i) (j : Nat) : (bitN l).testBit j = decide ((j : Int) ∈ l) := by
  unfold bitN
  rw [bitF_has j l 0 h]
  simp
set_option maxRecDepth 100000 in
set_option maxHeartbeats 2000000 in
theorem bits_any (B : Nat) (A : Option Addr) (n c : Nat) (l : List Int) (w : World) (hr : Reads w B 1 A n (l.map (.int .i64))) (hn : n ≤ 1000) (hb : ∀ i ∈ l, 0 ≤ i ∧ i < 12) :
    Calls Tryz.prog 37 #[.slice A n c] w fun e w' => e = .returned (.int .i64 (bitN l : Nat)) ∧ w = w' := by
  obtain ⟨hl, ha⟩ := int_at hr
  have HL := Lib.hid hl
  have HA := Lib.hid ha
  have HB := Lib.hid hb
  clear hl ha hr hb
  go_enter Tryz.func37, Tryz.ntmps37
  go_wp2_with fail
  go_loop [3, 8] (fun x i => ∃ k : Nat, k ≤ n ∧ i = .int .i64 k ∧ x = .int .i64 (bitN (l.take k) : Nat)) (fun _ i => n - (intOf i).toNat)
  case atStart => exact ⟨0, Nat.zero_le _, rfl, rfl⟩
  case round =>
    obtain ⟨k, hk, rfl, rfl⟩ := hrel
    by_cases hlt : k < n
    · have hkl : k < l.length := by rw [HL.out]; exact hlt
      obtain ⟨b, o, rfl, _, z0⟩ := HA.out k hkl
      obtain ⟨h1, h2⟩ := HB.out _ (List.getElem_mem hkl)
      have Hs := Lib.hid (bitN_snoc l hkl)
      have hz := bitN_lt (l := l.take k) fun i hi => HB.out i (List.mem_of_mem_take hi)
      generalize l[k] = y at *
      generalize bitN (l.take k) = z at *
      have ho : bits .or .i64 (z : Int) (wrap64 (2 ^ y.toNat)) = ((z ||| 2 ^ y.toNat : Nat) : Int) := by
        rw [shl_one (by omega)]
        exact bo_or (by omega) (Nat.pow_lt_pow_right (by decide) (by omega))
      go_wp2_with fail
      go_round
      case rel => exact ⟨k + 1, by omega, by go_num, by rw [Hs.out, ← ho]⟩
      case measure => simp [intOf]; omega
    · obtain rfl : k = n := by omega
      go_wp2_with fail
      go_ret
      rw [List.take_of_length_le (by rw [HL.out]; exact Nat.le_refl _)]
      exact ⟨rfl, rfl⟩
end Go.Proofs.YtafnebfchhmgcaaGreat
