/- Bytes of streams: word, long, checksum, number of the program. -/
import Derived.Laws.BitsAllLaws
import Derived.Test.YtafnebfchhmgcaaGreatQb
namespace Go.Proofs.YtafnebfchhmgcaaGreat
open Go.RowKit Go.Sort
set_option linter.unusedSimpArgs false
set_option linter.unusedVariables false
attribute [local go_sem] cell_if frozen_if grow_cell
theorem elemU8 : Elem Tryz.prog 52 5 1 1 := elem_of Tryz.underlying52 (z := .int .u8 0) (by kernel_rfl) rfl (by decide)
/-- A byte string of the call's own, and what became of the rest. -/
def Bytes (base : Nat) (w0 : World) (l : Nat) (xs : List Value) (e : Ending) (w : World) : Prop :=
  ∃ g cap, e = .returned (.slice (some ⟨g, 0, none⟩) l cap) ∧ Own w base 5 1 g l cap xs ∧ Below base w0 w
theorem word_any (base g l cap : Nat) (xs : List Value) (n : Int) (w : World) (hown : Own w base 5 1 g l cap xs) (hb : base ≤ w.heap.size) (hl : l ≤ 100000) :
    Calls Tryz.prog 57 #[.slice (some ⟨g, 0, none⟩) l cap, .int .i64 n] w (Bytes base w (l + 2) (xs ++ [.int .u8 (n / 256 % 256), .int .u8 (n % 256)])) := by
  have HO := Lib.hid hown
  clear hown
  go_enter Tryz.func57, Tryz.ntmps57
  go_wp2_with (at_builtin; refine wpList_app 52 5 1 1 elemU8 rfl (.tmp 5) (.tmp 11) rfl base _ l xs rfl HO.out 2 rfl rfl ?h1 (by decide) ?h3 (by omega) hb ?_)
  case h1 => exact ⟨rfl, rfl⟩
  case h3 => unfold maxLen; omega
  intro g' cap' w' hown' hb' _ _
  go_wp2
  go_ret
  exact ⟨g', cap', rfl, hown', hb'⟩
theorem long_any (base g l cap : Nat) (xs : List Value) (n : Int) (w : World) (hown : Own w base 5 1 g l cap xs) (hb : base ≤ w.heap.size) (hl : l ≤ 99000) :
    Calls Tryz.prog 58 #[.slice (some ⟨g, 0, none⟩) l cap, .int .i64 n] w (Bytes base w (l + 4) (xs ++ [.int .u8 (n / 65536 / 256 % 256), .int .u8 (n / 65536 % 256)] ++ [.int .u8 (n / 256 % 256), .int .u8 (n % 256)])) := by
  go_enter Tryz.func58, Tryz.ntmps58
  go_wp2_with fail
  refine (word_any base g l cap xs (n / 65536) _ hown hb (by omega)).mono ?_
  rintro e w1 ⟨g1, cap1, rfl, ho1, hb1⟩
  have hs1 := hb1.size
  go_wp2_with fail
  refine (word_any base g1 (l + 2) cap1 _ n _ ho1 (by omega) (by omega)).mono ?_
  rintro e w2 ⟨g2, cap2, rfl, ho2, hb2⟩
  go_wp2
  go_ret
  exact ⟨g2, cap2, rfl, ho2, hb1.trans hb2⟩
def ckS (x b : Int) : Int := (263 * x + b) % 16777199
def cks (bs : List Int) : Int := bs.foldl ckS 1
theorem cks_bound (bs : List Int) : 0 ≤ cks bs ∧ cks bs < 16777199 := by
  unfold cks
  suffices h : ∀ (bs : List Int) (x : Int), 0 ≤ x ∧ x < 16777199 → 0 ≤ bs.foldl ckS x ∧ bs.foldl ckS x < 16777199 from h bs 1 (by omega)
  intro bs
  induction bs with
  | nil => intro x h; exact h
  | cons b r ih => intro x _; exact ih _ (by unfold ckS; omega)
theorem cks_snoc (bs : List Int) (k : Nat) (h : k < bs.length) : cks (bs.take (k + 1)) = ckS (cks (bs.take k)) bs[k] := by
  unfold cks
  rw [List.take_succ_eq_append_getElem h, List.foldl_append]
  rfl
theorem checksum_any (B : Nat) (A : Option Addr) (n c : Nat) (bs : List Int) (w : World) (hr : Reads w B 1 A n (bs.map (.int .u8))) (hn : n ≤ maxLen) (hb : ∀ b ∈ bs, 0 ≤ b ∧ b ≤ 255) :
    Calls Tryz.prog 60 #[.slice A n c] w fun e w' => e = .returned (.int .i64 (cks bs)) ∧ w = w' := by
  unfold maxLen at hn
  have hl : bs.length = n := by simpa using hr.1
  have Hl := Lib.hid hl; clear hl
  have Hb := Lib.hid hb; clear hb
  go_enter Tryz.func60, Tryz.ntmps60
  go_wp2
  go_loop [3, 8] (fun x i => ∃ k : Nat, k ≤ n ∧ i = .int .i64 k ∧ x = .int .i64 (cks (bs.take k))) (fun _ i => n - (intOf i).toNat)
  case atStart => exact ⟨0, Nat.zero_le _, rfl, rfl⟩
  case round =>
    obtain ⟨k, hk, rfl, rfl⟩ := hrel
    obtain ⟨hc1, hc2⟩ := cks_bound (bs.take k)
    by_cases hlt : k < n
    · obtain ⟨b, o, u, rfl, _, hu, hc⟩ := hr.at_ hlt
      have hkl : k < bs.length := by rw [Hl.out]; exact hlt
      obtain rfl : u = .int .u8 bs[k] := by simpa [hkl] using hu.symm
      obtain ⟨b1, b2⟩ := Hb.out bs[k] (List.getElem_mem hkl)
      have Hd : Hid (cks (bs.take (k + 1)) = ckS (cks (bs.take k)) bs[k]) := cks_snoc bs k hkl
      clear hu
      generalize bs[k] = z at *
      generalize cks (bs.take k) = x at *
      go_wp2
      go_round
      case rel => exact ⟨k + 1, by omega, by go_num, by rw [Hd.out]; rfl⟩
      case measure => simp [intOf]; omega
    · obtain rfl : k = n := by omega
      go_wp2
      go_ret
      exact ⟨by rw [List.take_of_length_le (by rw [Hl.out]; exact Nat.le_refl _)]; rfl, rfl⟩

theorem pfirst_any (B : Nat) (A : Option Addr) (n c : Nat) (zs : List Int) (w : World) (hr : Reads w B 1 A n (zs.map (.int .i64))) (hn : n ≤ maxLen) : Calls Tryz.prog 61 #[.slice A n c] w fun e w' => e = .returned (.int .i64 (firstE zs)) ∧ w = w' := by
  unfold maxLen at hn
  have hl : zs.length = n := by simpa using hr.1
  have Hl := Lib.hid hl; clear hl
  go_enter Tryz.func61, Tryz.ntmps61
  go_wp2
  go_loop [4, 7] (fun _ i => ∃ k : Nat, k ≤ n ∧ i = .int .i64 k ∧ firstE zs = firstE (zs.drop k)) (fun _ i => n - (intOf i).toNat)
  case atStart => exact ⟨0, Nat.zero_le _, rfl, rfl⟩
  case round =>
    obtain ⟨k, hk, rfl, hf⟩ := hrel
    have Hf := Lib.hid hf; clear hf
    by_cases hlt : k < n
    · obtain ⟨b, o, u, rfl, _, hu, hc⟩ := hr.at_ hlt
      have hkl : k < zs.length := by rw [Hl.out]; exact hlt
      obtain rfl : u = .int .i64 zs[k] := by simpa [hkl] using hu.symm
      have Hd : Hid (zs.drop k = zs[k] :: zs.drop (k + 1)) := List.drop_eq_getElem_cons hkl
      clear hu
      generalize zs[k] = z at *
      by_cases hz : z = 0
      · subst hz
        go_wp2
        go_round
        case rel => exact ⟨k + 1, by omega, by go_num, by rw [Hf.out, Hd.out]; rfl⟩
        case measure => simp [intOf]; omega
      · have hz1 : (z != 0) = true := by simpa using hz
        go_wp2
        go_ret
        exact ⟨by rw [Hf.out, Hd.out]; simp [firstE, hz], rfl⟩
    · have hkn : k = n := by omega
      go_wp2
      go_ret
      exact ⟨by rw [Hf.out, hkn, ← Hl.out]; simp [firstE], rfl⟩
/-- At a list that the caller has just laid. -/
theorem pfirst_new (zs : List Int) (w : World) (t : TypeId) (n : Nat) (hl : zs.length = n) (hn : n ≤ maxLen) : Calls Tryz.prog 61 #[.slice (some ⟨w.heap.size, 0, none⟩) n n] (w.alloc (.cells (zs.map (.int .i64)).toArray t)) fun e w' => e = .returned (.int .i64 (firstE zs)) ∧ w.alloc (.cells (zs.map (.int .i64)).toArray t) = w' :=
  pfirst_any (w.heap.size + 1) _ n n zs _ (by simpa using Reads.new (size := 1) w (zs.map (.int .i64)).toArray t n (by simpa using hl)) hn
/-- The number of bytes, the greatest first. -/
def numB (bs : List Int) : Int := bs.foldl (fun x b => x * 256 + b) 0
theorem numB_snoc (bs : List Int) (k : Nat) (h : k < bs.length) : numB (bs.take (k + 1)) = numB (bs.take k) * 256 + bs[k] := by
  unfold numB
  rw [List.take_succ_eq_append_getElem h, List.foldl_append]
  rfl
theorem numB_bd : ∀ (bs : List Int) (x : Int) (m : Nat), (∀ b ∈ bs, 0 ≤ b ∧ b ≤ 255) → 0 ≤ x → x < 256 ^ m → 0 ≤ bs.foldl (fun x b => x * 256 + b) x ∧ bs.foldl (fun x b => x * 256 + b) x < 256 ^ (m + bs.length)
  | [], x, m, _, h0, h1 => ⟨h0, h1⟩
  | b :: r, x, m, hb, h0, h1 => by
    obtain ⟨b1, b2⟩ := hb b List.mem_cons_self
    have h2 : x * 256 + b < 256 ^ (m + 1) := by
      have e : (256 : Int) ^ (m + 1) = 256 ^ m * 256 := Int.pow_succ ..
      omega
    have ih := numB_bd r (x * 256 + b) (m + 1) (fun z hz => hb z (List.mem_cons_of_mem _ hz)) (by omega) h2
    rw [List.length_cons, show m + (r.length + 1) = m + 1 + r.length by omega]
    exact ih
theorem or_byte {x b : Int} (h0 : 0 ≤ x) (h1 : x < 36028797018963968) (b0 : 0 ≤ b) (b1 : b ≤ 255) : bits .or .i64 (x * 256) b = x * 256 + b := by
  obtain ⟨A, rfl⟩ := Int.eq_ofNat_of_zero_le h0
  obtain ⟨B, rfl⟩ := Int.eq_ofNat_of_zero_le b0
  have e : ((A : Int) * 256) = ((256 * A : Nat) : Int) := by omega
  rw [e]
  show IntKind.i64.wrap ((BitVec.ofInt 64 ((256 * A : Nat) : Int) ||| BitVec.ofInt 64 (B : Int)).toNat : Int) = _
  rw [BitVec.toNat_or, ofInt_u64 _ (by omega), ofInt_u64 B (by omega)]
  have h := Nat.shiftLeft_add_eq_or_of_lt (i := 8) (show B < 2 ^ 8 by omega) A
  rw [Nat.shiftLeft_eq] at h
  rw [show 256 * A = A * 2 ^ 8 by omega, ← h, IntKind.wrap_i64]
  omega
set_option maxRecDepth 100000 in
theorem number_any (B : Nat) (A : Option Addr) (n c : Nat) (bs : List Int) (w : World) (hr : Reads w B 1 A n (bs.map (.int .u8))) (hn : n ≤ 6) (hb : ∀ b ∈ bs, 0 ≤ b ∧ b ≤ 255) :
    Calls Tryz.prog 63 #[.slice A n c] w fun e w' => e = .returned (.int .i64 (numB bs)) ∧ w = w' := by
  have hl : bs.length = n := by simpa using hr.1
  have Hl := Lib.hid hl; clear hl
  have Hb := Lib.hid hb; clear hb
  go_enter Tryz.func63, Tryz.ntmps63
  go_wp2
  go_loop [3, 8] (fun x i => ∃ k : Nat, k ≤ n ∧ i = .int .i64 k ∧ x = .int .i64 (numB (bs.take k))) (fun _ i => n - (intOf i).toNat)
  case atStart => exact ⟨0, Nat.zero_le _, rfl, rfl⟩
  case round =>
    obtain ⟨k, hk, rfl, rfl⟩ := hrel
    by_cases hlt : k < n
    · obtain ⟨b, o, u, rfl, _, hu, hc⟩ := hr.at_ hlt
      have hkl : k < bs.length := by rw [Hl.out]; exact hlt
      obtain rfl : u = .int .u8 bs[k] := by simpa [hkl] using hu.symm
      obtain ⟨b1, b2⟩ := Hb.out bs[k] (List.getElem_mem hkl)
      have Hd : Hid (numB (bs.take (k + 1)) = numB (bs.take k) * 256 + bs[k]) := numB_snoc bs k hkl
      have hbd := numB_bd (bs.take k) 0 0 (fun z hz => Hb.out z (List.mem_of_mem_take hz)) (Int.le_refl _) (by decide)
      have hle : (256 : Int) ^ (0 + (bs.take k).length) ≤ 1099511627776 := by
        have h5 : ∀ j, j < 6 → (256 : Int) ^ (0 + j) ≤ 1099511627776 := by decide
        exact h5 _ (by rw [List.length_take]; omega)
      have h1 : 0 ≤ numB (bs.take k) ∧ numB (bs.take k) < 1099511627776 := ⟨hbd.1, Int.lt_of_lt_of_le hbd.2 hle⟩
      clear hu hbd hle
      generalize bs[k] = z at *
      generalize numB (bs.take k) = x at *
      have e1 : IntKind.i64.wrap (x * 256) = x * 256 := by rw [IntKind.wrap_i64]; omega
      have e2 := or_byte (x := x) (b := z) h1.1 (by omega) b1 b2
      have E2 := Lib.hid e2
      clear e2
      go_wp2
      go_round
      case rel => exact ⟨k + 1, by omega, by go_num, by rw [Hd.out, E2.out]⟩
      case measure => simp [intOf]; omega
    · obtain rfl : k = n := by omega
      go_wp2
      go_ret
      exact ⟨by rw [List.take_of_length_le (by rw [Hl.out]; exact Nat.le_refl _)]; rfl, rfl⟩
end Go.Proofs.YtafnebfchhmgcaaGreat
