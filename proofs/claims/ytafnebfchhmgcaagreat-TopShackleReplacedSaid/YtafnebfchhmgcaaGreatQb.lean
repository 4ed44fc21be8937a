/- Joined texts: UA UB UC UD UE. -/
import Derived.Test.YtafnebfchhmgcaaGreatQa
import Derived.Test.YtafnebfchhmgcaaGreatProg
import Derived.WalkKit
import Derived.RangeFuncNested
import Derived.RangeFuncBound
import Derived.RangeFuncCalls
import Derived.RangeFuncLeaves
import Derived.Shelf.Abstract
import Derived.Shelf.RegionOpen
import Derived.OwnWalkIn
import Derived.TacticsInMore
import Derived.LoopNIn
import Derived.LoopIn
import Derived.Sort.CutIn
import Derived.Maps.OwnIn
import Derived.Laws.RangeAny
import Derived.Laws.RangeString
/- Arms: modules as rows of cells. -/
namespace Go.Proofs.YtafnebfchhmgcaaGreat
open Go Go.RowKit
structure Md where
  n : ByteArray
  q : Int
  on : Bool
  by_ : Bool
structure Ar where
  m : List Md
  lo : Int
  hi : Int
  cur : Int
  lim : Int
structure Od where
  n : Int
  c : Int
def Md.cells (x : Md) : List Value := [.string x.n, .int .i64 x.q, .bool x.on, .bool x.by_]
def Od.cells (x : Od) : List Value := [.int .i64 x.n, .int .i64 x.c]
def mds (l : List Md) : List Value := l.flatMap Md.cells
def ods (l : List Od) : List Value := l.flatMap Od.cells
theorem flat_len {α β : Type} {f : α → List β} {m : Nat} (hf : ∀ x, (f x).length = m) : ∀ l : List α, (l.flatMap f).length = l.length * m
  | [] => by simp
  | x :: r => by rw [List.flatMap_cons, List.length_append, hf, flat_len hf r, List.length_cons, Nat.succ_mul, Nat.add_comm]
theorem flat_get {α β : Type} {f : α → List β} {m : Nat} (hf : ∀ x, (f x).length = m) : ∀ (l : List α) (k j : Nat), j < m → (l.flatMap f)[k * m + j]? = (l[k]?).bind fun x => (f x)[j]?
  | [], k, j, _ => by simp
  | x :: r, 0, j, hj => by
    rw [List.flatMap_cons, Nat.zero_mul, Nat.zero_add, List.getElem?_append_left (by rw [hf]; exact hj)]
    rfl
  | x :: r, k + 1, j, hj => by
    rw [List.flatMap_cons, List.getElem?_append_right (by rw [hf, Nat.succ_mul]; omega), hf, show (k + 1) * m + j - m = k * m + j by rw [Nat.succ_mul]; omega, flat_get hf r k j hj]
    rfl
section
variable {w w' : World} {B n : Nat} {A : Option Addr}
theorem flat_at {α : Type} {f : α → List Value} {m : Nat} (hf : ∀ x, (f x).length = m) (hm : 0 < m) {l : List α} (h : Reads w B m A n (l.flatMap f)) : l.length = n ∧ ∀ k, (hk : k < l.length) → ∃ b o, A = some ⟨b, o, none⟩ ∧ b < B ∧ ∀ j u, (f l[k])[j]? = some u → w.cell? ⟨b, o + (k * m + j), none⟩ = some u := by
  have hl : l.length = n := by
    have := h.1
    rw [flat_len hf] at this
    exact Nat.eq_of_mul_eq_mul_right hm this
  refine ⟨hl, fun k hk => ?_⟩
  obtain ⟨b, o, rfl, hb, hc⟩ := h.2 (by omega)
  refine ⟨b, o, rfl, hb, fun j u hu => hc _ _ ?_⟩
  have hj : j < m := by rw [← hf l[k]]; exact (List.getElem?_eq_some_iff.1 hu).1
  rw [flat_get hf l k j hj, List.getElem?_eq_getElem hk]
  exact hu
theorem md_at {l : List Md} (h : Reads w B 4 A n (mds l)) : l.length = n ∧ ∀ k, (hk : k < l.length) → ∃ b o, A = some ⟨b, o, none⟩ ∧ b < B ∧ w.cell? ⟨b, o + k * 4, none⟩ = some (.string l[k].n) ∧ w.cell? ⟨b, o + k * 4 + 1, none⟩ = some (.int .i64 l[k].q) ∧ w.cell? ⟨b, o + k * 4 + 2, none⟩ = some (.bool l[k].on) ∧ w.cell? ⟨b, o + k * 4 + 3, none⟩ = some (.bool l[k].by_) := by
  obtain ⟨h1, h2⟩ := flat_at (f := Md.cells) (fun _ => rfl) (by decide) h
  refine ⟨h1, fun k hk => ?_⟩
  obtain ⟨b, o, e, hb, hc⟩ := h2 k hk
  exact ⟨b, o, e, hb, hc 0 _ rfl, hc 1 _ rfl, hc 2 _ rfl, hc 3 _ rfl⟩
theorem od_at {l : List Od} (h : Reads w B 2 A n (ods l)) : l.length = n ∧ ∀ k, (hk : k < l.length) → ∃ b o, A = some ⟨b, o, none⟩ ∧ b < B ∧ w.cell? ⟨b, o + k * 2, none⟩ = some (.int .i64 l[k].n) ∧ w.cell? ⟨b, o + k * 2 + 1, none⟩ = some (.int .i64 l[k].c) := by
  obtain ⟨h1, h2⟩ := flat_at (f := Od.cells) (fun _ => rfl) (by decide) h
  refine ⟨h1, fun k hk => ?_⟩
  obtain ⟨b, o, e, hb, hc⟩ := h2 k hk
  exact ⟨b, o, e, hb, hc 0 _ rfl, hc 1 _ rfl⟩
theorem int_at {l : List Int} (h : Reads w B 1 A n (l.map (.int .i64))) : l.length = n ∧ ∀ k, (hk : k < l.length) → ∃ b o, A = some ⟨b, o, none⟩ ∧ b < B ∧ w.cell? ⟨b, o + k, none⟩ = some (.int .i64 l[k]) := by
  have hl : l.length = n := by simpa using h.1
  refine ⟨hl, fun k hk => ?_⟩
  obtain ⟨b, o, u, e, hb, hu, hc⟩ := h.at_ (k := k) (by omega)
  refine ⟨b, o, e, hb, ?_⟩
  rw [hc]
  simpa [hk] using hu.symm
end
/-- A list of modules by value: its cells lie below block B. -/
abbrev MsAt (w : World) (B : Nat) (A : Option Addr) (n : Nat) (l : List Md) : Prop := Reads w B 4 A n (mds l)
end Go.Proofs.YtafnebfchhmgcaaGreat
/- Words: when, first, within of the arm; When, First, CheckRange, HasInt, HasWord, SameInts of the first reference. -/
namespace Go.Proofs.YtafnebfchhmgcaaGreat
open Go.RowKit Go.Sort
set_option linter.unusedSimpArgs false
set_option linter.unusedVariables false
attribute [local go_sem] cell_if frozen_if grow_cell
def whenE (b : Bool) (n : Int) : Int := if b then n else 0
def firstE (zs : List Int) : Int := (zs.find? (· != 0)).getD 0
def inR (n lo hi : Int) : Bool := decide (lo ≤ n) && decide (n ≤ hi)
def ckR (n lo hi : Int) : Int := if inR n lo hi then 0 else 3
theorem ckR_no {n lo hi : Int} (h : n < lo ∨ hi < n) : ckR n lo hi = 3 := by unfold ckR inR; rw [if_neg]; simp; omega
theorem ckR_yes {n lo hi : Int} (h : lo ≤ n ∧ n ≤ hi) : ckR n lo hi = 0 := by unfold ckR inR; rw [if_pos]; simp; omega
theorem rWhen_any (b : Bool) (n : Int) (w : World) : Calls Tryz.prog 83 #[.bool b, .int .i64 n] w fun e w' => e = .returned (.int .i64 (whenE b n)) ∧ w = w' := by
  cases b
  all_goals
    go_enter Tryz.func83, Tryz.ntmps83
    go_wp2
    go_ret
    exact ⟨rfl, rfl⟩
theorem awhen_any (b : Bool) (n : Int) (w : World) : Calls Tryz.prog 84 #[.bool b, .int .i64 n] w fun e w' => e = .returned (.int .i64 (whenE b n)) ∧ w = w' := by
  cases b
  all_goals
    go_enter Tryz.func84, Tryz.ntmps84
    go_wp2
    go_ret
    exact ⟨rfl, rfl⟩
theorem awithin_any (n lo hi : Int) (w : World) : Calls Tryz.prog 89 #[.int .i64 n, .int .i64 lo, .int .i64 hi] w fun e w' => e = .returned (.int .i64 (ckR n lo hi)) ∧ w = w' := by
  by_cases h1 : n < lo
  · have e := ckR_no (n := n) (lo := lo) (hi := hi) (.inl h1)
    (rw [e]; clear e; go_enter Tryz.func89, Tryz.ntmps89; go_wp2; go_ret; exact ⟨by first | rfl | (simp; done) | (simp; omega), rfl⟩)
  · by_cases h2 : hi < n
    · have e := ckR_no (n := n) (lo := lo) (hi := hi) (.inr h2)
      (rw [e]; clear e; go_enter Tryz.func89, Tryz.ntmps89; go_wp2; go_ret; exact ⟨by first | rfl | (simp; done) | (simp; omega), rfl⟩)
    · have e := ckR_yes (n := n) (lo := lo) (hi := hi) (by omega)
      (rw [e]; clear e; go_enter Tryz.func89, Tryz.ntmps89; go_wp2; go_ret; exact ⟨by first | rfl | (simp; done) | (simp; omega), rfl⟩)
theorem awithin_b (n lo hi : Int) (w : World) : Calls Tryz.prog 89 #[.int .i64 n, .int .i64 lo, .int .i64 hi] w fun e w' => e = .returned (.int .i64 (ckR n lo hi)) ∧ Below w.heap.size w w' := calls_below (awithin_any n lo hi w)
theorem rRange_any (n lo hi : Int) (w : World) : Calls Tryz.prog 80 #[.int .i64 n, .int .i64 lo, .int .i64 hi] w fun e w' => e = .returned (.int .i64 (ckR n lo hi)) ∧ w = w' := by
  by_cases h1 : n < lo
  · have e := ckR_no (n := n) (lo := lo) (hi := hi) (.inl h1)
    (rw [e]; clear e; go_enter Tryz.func80, Tryz.ntmps80; go_wp2; go_ret; exact ⟨by first | rfl | (simp; done) | (simp; omega), rfl⟩)
  · by_cases h2 : hi < n
    · have e := ckR_no (n := n) (lo := lo) (hi := hi) (.inr h2)
      (rw [e]; clear e; go_enter Tryz.func80, Tryz.ntmps80; go_wp2; go_ret; exact ⟨by first | rfl | (simp; done) | (simp; omega), rfl⟩)
    · have e := ckR_yes (n := n) (lo := lo) (hi := hi) (by omega)
      (rw [e]; clear e; go_enter Tryz.func80, Tryz.ntmps80; go_wp2; go_ret; exact ⟨by first | rfl | (simp; done) | (simp; omega), rfl⟩)
theorem rRange_b (n lo hi : Int) (w : World) : Calls Tryz.prog 80 #[.int .i64 n, .int .i64 lo, .int .i64 hi] w fun e w' => e = .returned (.int .i64 (ckR n lo hi)) ∧ Below w.heap.size w w' := calls_below (rRange_any n lo hi w)
theorem rFirst_any (B : Nat) (A : Option Addr) (n c : Nat) (zs : List Int) (w : World) (hr : Reads w B 1 A n (zs.map (.int .i64))) (hn : n ≤ maxLen) : Calls Tryz.prog 78 #[.slice A n c] w fun e w' => e = .returned (.int .i64 (firstE zs)) ∧ w = w' := by
  unfold maxLen at hn
  have hl : zs.length = n := by simpa using hr.1
  have Hl := Lib.hid hl; clear hl
  go_enter Tryz.func78, Tryz.ntmps78
  go_wp2
  go_loop [3] (fun  i => ∃ k : Nat, k ≤ n ∧ i = .int .i64 k ∧ firstE zs = firstE (zs.drop k)) (fun  i => n - (intOf i).toNat)
  case atStart => exact ⟨0, Nat.zero_le _, rfl, rfl⟩
  case round =>
    obtain ⟨k, hk, rfl, hf⟩ := hrel
    have Hf := Lib.hid hf; clear hf
    by_cases hlt : k < n
    · obtain ⟨b, o, u, rfl, _, hu, hc⟩ := hr.at_ hlt
      have hkl : k < zs.length := by rw [Hl.out]; exact hlt
      obtain rfl : u = .int .i64 zs[k] := by simpa [hkl] using hu.symm
      have Hd : Hid (zs.drop k = zs[k] :: zs.drop (k + 1)) := List.drop_eq_getElem_cons hkl
      clear hu
      generalize zs[k] = z at *
      by_cases hz : z = 0
      · subst hz
        go_wp2
        go_round
        case rel => exact ⟨k + 1, by omega, by go_num, by rw [Hf.out, Hd.out]; rfl⟩
        case measure => simp [intOf]; omega
      · have hz1 : (z != 0) = true := by simpa using hz
        go_wp2
        go_ret
        exact ⟨by rw [Hf.out, Hd.out]; simp [firstE, hz], rfl⟩
    · have hkn : k = n := by omega
      go_wp2
      go_ret
      exact ⟨by rw [Hf.out, hkn, ← Hl.out]; simp [firstE], rfl⟩
/-- At a list that the caller has just laid. -/
theorem rFirst_new (zs : List Int) (w : World) (t : TypeId) (n : Nat) (hl : zs.length = n) (hn : n ≤ maxLen) : Calls Tryz.prog 78 #[.slice (some ⟨w.heap.size, 0, none⟩) n n] (w.alloc (.cells (zs.map (.int .i64)).toArray t)) fun e w' => e = .returned (.int .i64 (firstE zs)) ∧ w.alloc (.cells (zs.map (.int .i64)).toArray t) = w' :=
  rFirst_any (w.heap.size + 1) _ n n zs _ (by simpa using Reads.new (size := 1) w (zs.map (.int .i64)).toArray t n (by simpa using hl)) hn
theorem afirst_any (B : Nat) (A : Option Addr) (n c : Nat) (zs : List Int) (w : World) (hr : Reads w B 1 A n (zs.map (.int .i64))) (hn : n ≤ maxLen) : Calls Tryz.prog 53 #[.slice A n c] w fun e w' => e = .returned (.int .i64 (firstE zs)) ∧ w = w' := by
  unfold maxLen at hn
  have hl : zs.length = n := by simpa using hr.1
  have Hl := Lib.hid hl; clear hl
  go_enter Tryz.func53, Tryz.ntmps53
  go_wp2
  go_loop [4, 7] (fun _ i => ∃ k : Nat, k ≤ n ∧ i = .int .i64 k ∧ firstE zs = firstE (zs.drop k)) (fun _ i => n - (intOf i).toNat)
  case atStart => exact ⟨0, Nat.zero_le _, rfl, rfl⟩
  case round =>
    obtain ⟨k, hk, rfl, hf⟩ := hrel
    have Hf := Lib.hid hf; clear hf
    by_cases hlt : k < n
    · obtain ⟨b, o, u, rfl, _, hu, hc⟩ := hr.at_ hlt
      have hkl : k < zs.length := by rw [Hl.out]; exact hlt
      obtain rfl : u = .int .i64 zs[k] := by simpa [hkl] using hu.symm
      have Hd : Hid (zs.drop k = zs[k] :: zs.drop (k + 1)) := List.drop_eq_getElem_cons hkl
      clear hu
      generalize zs[k] = z at *
      by_cases hz : z = 0
      · subst hz
        go_wp2
        go_round
        case rel => exact ⟨k + 1, by omega, by go_num, by rw [Hf.out, Hd.out]; rfl⟩
        case measure => simp [intOf]; omega
      · have hz1 : (z != 0) = true := by simpa using hz
        go_wp2
        go_ret
        exact ⟨by rw [Hf.out, Hd.out]; simp [firstE, hz], rfl⟩
    · have hkn : k = n := by omega
      go_wp2
      go_ret
      exact ⟨by rw [Hf.out, hkn, ← Hl.out]; simp [firstE], rfl⟩
/-- At a list that the caller has just laid. -/
theorem afirst_new (zs : List Int) (w : World) (t : TypeId) (n : Nat) (hl : zs.length = n) (hn : n ≤ maxLen) : Calls Tryz.prog 53 #[.slice (some ⟨w.heap.size, 0, none⟩) n n] (w.alloc (.cells (zs.map (.int .i64)).toArray t)) fun e w' => e = .returned (.int .i64 (firstE zs)) ∧ w.alloc (.cells (zs.map (.int .i64)).toArray t) = w' :=
  afirst_any (w.heap.size + 1) _ n n zs _ (by simpa using Reads.new (size := 1) w (zs.map (.int .i64)).toArray t n (by simpa using hl)) hn
def hasI (zs : List Int) (z : Int) : Bool := zs.contains z
theorem hasI_cons (x : Int) (r : List Int) (z : Int) : hasI (x :: r) z = (x == z || hasI r z) := by
  unfold hasI
  rw [List.contains_cons]
  by_cases h : x = z
  · simp [h]
  · have h' : ¬ z = x := fun e => h e.symm
    rw [show (x == z) = false by simpa using h, show (z == x) = false by simpa using h']
def hasW (ws : List ByteArray) (s : ByteArray) : Bool := ws.any fun t => t.toList == s.toList
theorem hasW_cons (x : ByteArray) (r : List ByteArray) (s : ByteArray) : hasW (x :: r) s = (x.toList == s.toList || hasW r s) := rfl
def sameI : List Int → List Int → Bool
  | [], [] => true
  | x :: r, z :: t => x == z && sameI r t
  | _, _ => false
theorem sameI_len : ∀ (xs ys : List Int), xs.length ≠ ys.length → sameI xs ys = false
  | [], [], h => absurd rfl h
  | [], _ :: _, _ => rfl
  | _ :: _, [], _ => rfl
  | x :: r, z :: t, h => by
    rw [sameI, sameI_len r t (by simpa using h)]
    simp
theorem SameInts_any (B1 B2 : Nat) (A1 A2 : Option Addr) (n1 n2 c1 c2 : Nat) (xs ys : List Int) (w : World) (h1 : Reads w B1 1 A1 n1 (xs.map (Value.int .i64))) (h2 : Reads w B2 1 A2 n2 (ys.map (Value.int .i64))) (hB1 : B1 ≤ w.heap.size) (hB2 : B2 ≤ w.heap.size) (hn : n1 ≤ maxLen) (hm : n2 ≤ maxLen) :
    Calls Tryz.prog 23 #[.slice A1 n1 c1, .slice A2 n2 c2] w fun e w' => e = .returned (.bool (sameI xs ys)) ∧ Below w.heap.size w w' := by
  unfold maxLen at hn hm
  have hl1 : xs.length = n1 := by simpa using h1.1
  have hl2 : ys.length = n2 := by simpa using h2.1
  have HL1 := Lib.hid hl1
  have HL2 := Lib.hid hl2
  clear hl1 hl2
  by_cases hne : n1 = n2
  · subst hne
    go_enter Tryz.func23, Tryz.ntmps23
    go_wp2_with fail
    go_loopw [5] (fun i wr => ∃ k : Nat, k ≤ n1 ∧ i = .int .i64 k ∧ sameI xs ys = sameI (xs.drop k) (ys.drop k) ∧ Below w.heap.size w wr) (fun i _ => n1 - (intOf i).toNat)
    case atStart => exact ⟨0, by omega, rfl, rfl, bl_⟩
    case round =>
      obtain ⟨k, hk, rfl, hf, hb⟩ := hrel
      have Hf := Lib.hid hf; clear hf
      by_cases hlt : k < n1
      · obtain ⟨b, o, u, rfl, hbb, hu, hc⟩ := (h1.below (hb.mono hB1)).at_ hlt
        obtain ⟨b', o', u', rfl, hbb', hu', hc'⟩ := (h2.below (hb.mono hB2)).at_ hlt
        have hs := hb.size
        have hl1 : b < wr.heap.size := by omega
        have hl2 : b' < wr.heap.size := by omega
        have hkl : k < xs.length := by rw [HL1.out]; exact hlt
        have hkl' : k < ys.length := by rw [HL2.out]; exact hlt
        obtain rfl : u = (Value.int .i64) xs[k] := by simpa [hkl] using hu.symm
        obtain rfl : u' = (Value.int .i64) ys[k] := by simpa [hkl'] using hu'.symm
        have Hd : Hid (xs.drop k = xs[k] :: xs.drop (k + 1)) := List.drop_eq_getElem_cons hkl
        have Hd' : Hid (ys.drop k = ys[k] :: ys.drop (k + 1)) := List.drop_eq_getElem_cons hkl'
        clear hu hu'
        generalize xs[k] = x at *
        generalize ys[k] = z at *
        go_wp2_with fail
        (refine wp_region_all_below (by kernel_rfl) (by kernel_rfl) ?_; (repeat (go_big_quiet_step (fail))); refine wpQuiet_nil ?_)
        intro w1 hb1
        obtain ⟨hc1, hf1⟩ := ifs_of hb1; have hs1 := hb1.size; (try simp at hs1)
        cases hz : (x == z) with
        | true =>
          go_wp2_with fail
          go_roundw
          case rel => exact ⟨k + 1, by omega, by go_num, by rw [Hf.out, Hd.out, Hd'.out, sameI]; simp [hz], bl_⟩
          case measure => simp [intOf]; omega
        | false =>
          go_wp2_with fail
          go_ret
          exact ⟨by rw [Hf.out, Hd.out, Hd'.out, sameI]; simp [hz], bl_⟩
      · obtain rfl : k = n1 := by omega
        go_wp2_with fail
        go_ret
        exact ⟨by rw [Hf.out, List.drop_eq_nil_of_le (by rw [HL1.out]; exact Nat.le_refl _), List.drop_eq_nil_of_le (by rw [HL2.out]; exact Nat.le_refl _)]; rfl, bl_⟩
  · have e : sameI xs ys = false := sameI_len xs ys (by rw [HL1.out, HL2.out]; exact hne)
    have hq : ((n1 : Int) != (n2 : Int)) = true := by simp; omega
    rw [e]
    clear e
    go_enter Tryz.func23, Tryz.ntmps23
    go_wp2_with fail
    go_ret
    exact ⟨by first | rfl | (simp; done), bl_⟩
def absI (n : Int) : Int := max n (-n)
theorem absolute_any (n : Int) (w : World) (h1 : -9223372036854775807 ≤ n) (h2 : n ≤ 9223372036854775807) : Calls Tryz.prog 131 #[.int .i64 n] w fun e w' => e = .returned (.int .i64 (absI n)) ∧ w = w' := by
  have hw : IntKind.i64.wrap (-n) = -n := by rw [IntKind.wrap_i64]; omega
  have ha : Hid (absI n = max n (-n)) := rfl
  clear h1 h2
  rcases Int.lt_or_le n (-n) with h | h
  · have hd : n < -n := h
    go_enter Tryz.func131, Tryz.ntmps131
    go_wp2
    go_ret
    exact ⟨by rw [ha.out, Int.max_eq_right (by omega)]; rfl, rfl⟩
  · have hd : ¬ n < -n := by omega
    go_enter Tryz.func131, Tryz.ntmps131
    go_wp2
    go_ret
    exact ⟨by rw [ha.out, Int.max_eq_left (by omega)]; rfl, rfl⟩
def inB (lo hi q : Int) : Bool := decide (lo ≤ q) && decide (q ≤ hi)
theorem holds_any (lo hi q : Int) (w : World) : Calls Tryz.prog 93 #[.agg #[.int .i64 lo, .int .i64 hi], .int .i64 q] w fun e w' => e = .returned (.bool (inB lo hi q)) ∧ Below w.heap.size w w' := by
  unfold inB
  by_cases h : lo ≤ q
  · rw [decide_eq_true h, Bool.true_and]
    go_enter Tryz.func93, Tryz.ntmps93
    go_wp2
    go_ret
    exact ⟨rfl, bl_⟩
  · rw [decide_eq_false h, Bool.false_and]
    go_enter Tryz.func93, Tryz.ntmps93
    go_wp2
    go_ret
    exact ⟨rfl, bl_⟩
end Go.Proofs.YtafnebfchhmgcaaGreat
/- Library: Index, Contains, IndexFunc, ContainsFunc at integers and modules. -/
namespace Go.Proofs.YtafnebfchhmgcaaGreat
open Go.RowKit Go.Sort
set_option linter.unusedSimpArgs false
set_option linter.unusedVariables false
attribute [local go_sem] cell_if frozen_if grow_cell
/-- A function value that answers p at all elements of a list; it leaves all that lay in w. -/
def Pred {α : Type} (P : Program) (g : Nat) (bs cap : Array Value) (enc : α → Value) (l : List α) (p : α → Bool) (w : World) : Prop :=
  ∀ W, Below w.heap.size w W → ∀ x ∈ l, Calls P g (bs ++ #[enc x] ++ cap) W fun e w' => e = .returned (.bool (p x)) ∧ Below W.heap.size W w'
/-- Function g is entered by a call. -/
def Enters (P : Program) (g : Nat) : Prop := ∀ args w, (callFunc g args).run P w = .ok (.enter g args) w
def idxP {α : Type} (p : α → Bool) : Nat → List α → Int
  | _, [] => -1
  | k, x :: r => if p x then k else idxP p (k + 1) r
theorem idxP_cons {α : Type} (p : α → Bool) (k : Nat) (x : α) (r : List α) : idxP p k (x :: r) = if p x then (k : Int) else idxP p (k + 1) r := rfl
theorem idxP_any {α : Type} (p : α → Bool) : ∀ (l : List α) (k : Nat), decide (0 ≤ idxP p k l) = l.any p
  | [], _ => rfl
  | x :: r, k => by
    rw [idxP_cons, List.any_cons]
    cases h : p x with
    | true => simp
    | false => simpa using idxP_any p r (k + 1)
theorem IndexFuncM_any (g : Nat) (cap : Array Value) (B : Nat) (A : Option Addr) (n c : Nat) (l : List Md) (p : Md → Bool) (w : World) (hr : Reads w B 4 A n (mds l)) (hB : B ≤ w.heap.size) (hn : n ≤ 1000) (eg : Enters Tryz.prog g) (hp : Pred Tryz.prog g #[] cap (fun x => .agg #[.string x.n, .int .i64 x.q, .bool x.on, .bool x.by_]) l p w) :
    Calls Tryz.prog 128 #[.slice A n c, .func (.func g) #[] cap] w fun e w' => e = .returned (.int .i64 (idxP p 0 l)) ∧ Below w.heap.size w w' := by
  obtain ⟨hl, ha⟩ := md_at hr
  have HL := Lib.hid hl
  have HA := Lib.hid ha
  have HP := Lib.hid hp
  unfold Enters at eg
  clear hl ha hp hr
  go_enter Tryz.func128, Tryz.ntmps128
  go_wp2_with fail
  go_loopw [8] (fun i wr => ∃ k : Nat, k ≤ n ∧ i = .int .i64 k ∧ idxP p 0 l = idxP p k (l.drop k) ∧ Below w.heap.size w wr) (fun i _ => n - (intOf i).toNat)
  case atStart => exact ⟨0, by omega, rfl, rfl, bl_⟩
  case round =>
    obtain ⟨k, hk, rfl, hf, hb⟩ := hrel
    have Hf := Lib.hid hf; clear hf
    have hs := hb.size
    by_cases hlt : k < n
    · have hkl : k < l.length := by rw [HL.out]; exact hlt
      have HX := HP.out wr hb l[k] (List.getElem_mem hkl)
      obtain ⟨b, o, eA, hbb, hz⟩ := HA.out k hkl
      have kb : ∀ i, wr.cell? ⟨b, i, none⟩ = w.cell? ⟨b, i, none⟩ := fun i => hb.cell (p := ⟨b, i, none⟩) (by simp; omega)
      simp only [← kb] at hz
      clear kb
      subst eA
      have Hd : Hid (l.drop k = l[k] :: l.drop (k + 1)) := List.drop_eq_getElem_cons hkl
      generalize l[k] = x at *
      (obtain ⟨z0, z1, z2, z3⟩ := hz; obtain ⟨xn, xq, xo, xb⟩ := x; dsimp only at z0 z1 z2 z3 HX)
      cases hq : p ⟨xn, xq, xo, xb⟩ with
      | true =>
        rw [hq] at HX
        have HXH := Lib.hid HX
        have HQ := Lib.hid hq
        clear HX hq
        go_wp2_with fail
        refine HXH.out.mono ?_
        rintro e w1 ⟨rfl, hb1⟩
        go_wp2_with fail
        go_ret
        exact ⟨by rw [Hf.out, Hd.out, idxP_cons, HQ.out]; rfl, bl_⟩
      | false =>
        rw [hq] at HX
        have HXH := Lib.hid HX
        have HQ := Lib.hid hq
        clear HX hq
        go_wp2_with fail
        refine HXH.out.mono ?_
        rintro e w1 ⟨rfl, hb1⟩
        go_wp2_with fail
        go_roundw
        case rel => exact ⟨k + 1, by omega, by go_num, by rw [Hf.out, Hd.out, idxP_cons, HQ.out]; rfl, bl_⟩
        case measure => simp [intOf]; omega
    · obtain rfl : k = n := by omega
      go_wp2_with fail
      go_ret
      exact ⟨by rw [Hf.out, List.drop_eq_nil_of_le (by rw [HL.out]; exact Nat.le_refl _)]; rfl, bl_⟩
theorem IndexFuncI_any (g : Nat) (cap : Array Value) (B : Nat) (A : Option Addr) (n c : Nat) (l : List Int) (p : Int → Bool) (w : World) (hr : Reads w B 1 A n (List.map (Value.int .i64) l)) (hB : B ≤ w.heap.size) (hn : n ≤ 1000) (eg : Enters Tryz.prog g) (hp : Pred Tryz.prog g #[] cap (fun x => Value.int .i64 x) l p w) :
    Calls Tryz.prog 136 #[.slice A n c, .func (.func g) #[] cap] w fun e w' => e = .returned (.int .i64 (idxP p 0 l)) ∧ Below w.heap.size w w' := by
  obtain ⟨hl, ha⟩ := int_at hr
  have HL := Lib.hid hl
  have HA := Lib.hid ha
  have HP := Lib.hid hp
  unfold Enters at eg
  clear hl ha hp hr
  go_enter Tryz.func136, Tryz.ntmps136
  go_wp2_with fail
  go_loopw [8] (fun i wr => ∃ k : Nat, k ≤ n ∧ i = .int .i64 k ∧ idxP p 0 l = idxP p k (l.drop k) ∧ Below w.heap.size w wr) (fun i _ => n - (intOf i).toNat)
  case atStart => exact ⟨0, by omega, rfl, rfl, bl_⟩
  case round =>
    obtain ⟨k, hk, rfl, hf, hb⟩ := hrel
    have Hf := Lib.hid hf; clear hf
    have hs := hb.size
    by_cases hlt : k < n
    · have hkl : k < l.length := by rw [HL.out]; exact hlt
      have HX := HP.out wr hb l[k] (List.getElem_mem hkl)
      obtain ⟨b, o, eA, hbb, hz⟩ := HA.out k hkl
      have kb : ∀ i, wr.cell? ⟨b, i, none⟩ = w.cell? ⟨b, i, none⟩ := fun i => hb.cell (p := ⟨b, i, none⟩) (by simp; omega)
      simp only [← kb] at hz
      clear kb
      subst eA
      have Hd : Hid (l.drop k = l[k] :: l.drop (k + 1)) := List.drop_eq_getElem_cons hkl
      generalize l[k] = x at *
      skip
      cases hq : p x with
      | true =>
        rw [hq] at HX
        have HXH := Lib.hid HX
        have HQ := Lib.hid hq
        clear HX hq
        go_wp2_with fail
        refine HXH.out.mono ?_
        rintro e w1 ⟨rfl, hb1⟩
        go_wp2_with fail
        go_ret
        exact ⟨by rw [Hf.out, Hd.out, idxP_cons, HQ.out]; rfl, bl_⟩
      | false =>
        rw [hq] at HX
        have HXH := Lib.hid HX
        have HQ := Lib.hid hq
        clear HX hq
        go_wp2_with fail
        refine HXH.out.mono ?_
        rintro e w1 ⟨rfl, hb1⟩
        go_wp2_with fail
        go_roundw
        case rel => exact ⟨k + 1, by omega, by go_num, by rw [Hf.out, Hd.out, idxP_cons, HQ.out]; rfl, bl_⟩
        case measure => simp [intOf]; omega
    · obtain rfl : k = n := by omega
      go_wp2_with fail
      go_ret
      exact ⟨by rw [Hf.out, List.drop_eq_nil_of_le (by rw [HL.out]; exact Nat.le_refl _)]; rfl, bl_⟩
theorem ContainsFuncM_any (g : Nat) (cap : Array Value) (B : Nat) (A : Option Addr) (n c : Nat) (l : List Md) (p : Md → Bool) (w : World) (hr : Reads w B 4 A n (mds l)) (hB : B ≤ w.heap.size) (hn : n ≤ 1000) (eg : Enters Tryz.prog g) (hp : Pred Tryz.prog g #[] cap (fun x => .agg #[.string x.n, .int .i64 x.q, .bool x.on, .bool x.by_]) l p w) :
    Calls Tryz.prog 90 #[.slice A n c, .func (.func g) #[] cap] w fun e w' => e = .returned (.bool (l.any p)) ∧ Below w.heap.size w w' := by
  have HC := Lib.hid (IndexFuncM_any g cap B A n c l p w hr hB hn eg hp)
  rw [← idxP_any p l 0]
  clear hp hr
  generalize idxP p 0 l = q at *
  go_enter Tryz.func90, Tryz.ntmps90
  go_wp2_with (go_at_call 128; refine HC.out.mono ?_; rintro e w1 ⟨rfl, hb1⟩)
  go_ret
  exact ⟨by first | rfl | (simp; done), hb1⟩
theorem IndexI_any (B : Nat) (A : Option Addr) (n c : Nat) (l : List Int) (z : Int) (w : World) (hr : Reads w B 1 A n (l.map (Value.int .i64))) (hn : n ≤ maxLen) :
    Calls Tryz.prog 158 #[.slice A n c, (Value.int .i64) z] w fun e w' => e = .returned (.int .i64 (idxP (fun x => z == x) 0 l)) ∧ w = w' := by
  unfold maxLen at hn
  have hl : l.length = n := by simpa using hr.1
  have HL := Lib.hid hl
  clear hl
  go_enter Tryz.func158, Tryz.ntmps158
  go_wp2_with fail
  go_loop [8] (fun i => ∃ k : Nat, k ≤ n ∧ i = .int .i64 k ∧ idxP (fun x => z == x) 0 l = idxP (fun x => z == x) k (l.drop k)) (fun i => n - (intOf i).toNat)
  case atStart => exact ⟨0, by omega, rfl, rfl⟩
  case round =>
    obtain ⟨k, hk, rfl, hf⟩ := hrel
    have Hf := Lib.hid hf; clear hf
    by_cases hlt : k < n
    · have hkl : k < l.length := by rw [HL.out]; exact hlt
      obtain ⟨b, o, u, rfl, hbb, hu, hc⟩ := hr.at_ hlt
      obtain rfl : u = (Value.int .i64) l[k] := by simpa [hkl] using hu.symm
      have Hd : Hid (l.drop k = l[k] :: l.drop (k + 1)) := List.drop_eq_getElem_cons hkl
      clear hu
      generalize l[k] = x at *
      cases hq : (z == x) with
      | true =>
        go_wp2_with fail
        go_ret
        exact ⟨by rw [Hf.out, Hd.out, idxP_cons, if_pos hq]; rfl, rfl⟩
      | false =>
        go_wp2_with fail
        go_round
        case rel => exact ⟨k + 1, by omega, by go_num, by rw [Hf.out, Hd.out, idxP_cons, if_neg (by rw [hq]; exact Bool.false_ne_true)]⟩
        case measure => simp [intOf]; omega
    · obtain rfl : k = n := by omega
      go_wp2_with fail
      go_ret
      exact ⟨by rw [Hf.out, List.drop_eq_nil_of_le (by rw [HL.out]; exact Nat.le_refl _)]; rfl, rfl⟩
theorem idx_hasI (l : List Int) (z : Int) : decide (0 ≤ idxP (fun x => z == x) 0 l) = hasI l z := by
  rw [idxP_any, hasI, List.contains_eq_any_beq]
theorem ContainsI_any (B : Nat) (A : Option Addr) (n c : Nat) (l : List Int) (z : Int) (w : World) (hr : Reads w B 1 A n (l.map (Value.int .i64))) (hn : n ≤ maxLen) :
    Calls Tryz.prog 114 #[.slice A n c, (Value.int .i64) z] w fun e w' => e = .returned (.bool (hasI l z)) ∧ w = w' := by
  have HC := Lib.hid (IndexI_any B A n c l z w hr hn)
  rw [← idx_hasI]
  clear hr
  generalize idxP _ 0 l = q at *
  go_enter Tryz.func114, Tryz.ntmps114
  go_wp2_with (go_at_call 158; refine HC.out.mono ?_; rintro e w1 ⟨rfl, rfl⟩)
  go_ret
  exact ⟨by first | rfl | (simp; done), rfl⟩
end Go.Proofs.YtafnebfchhmgcaaGreat
/- Rows that the call makes, inside a range over a function; marks. -/
namespace Go.Proofs.YtafnebfchhmgcaaGreat
open Go.RowKit Go.Sort Go.Shelf
set_option linter.unusedSimpArgs false
set_option linter.unusedVariables false
attribute [local go_sem] cell_if frozen_if grow_cell
attribute [local go_sem] Oper.semAt_some
theorem grown_of_below {w w' : World} (h : Below w.heap.size w w') : w.grownBy w' none := ⟨h.os, h.tape, h.output, h.size, fun k hk _ => h.block k hk⟩
/-- append of a literal's elements onto a row of the call's own, in a fence. -/
theorem wpListIn_app {F : Fence} {nF : Nat} {P : Program} {ops : Array Oper} {rest : List Oper} {o : Oper} {a : Act} {Q : Exit → Act → World → Prop} {w0 : World} {cs : Array Value} (t e size bytes : Nat) (E : Elem P t e size bytes) (hgd : o.guard = none) (s x : Operand)
    (ho : o.op = .call { callee := .builtin .append, args := #[s, x], argTypes := #[t, t] }) (base g l cap : Nat) (xs : List Value) (hs : a.eval s = .slice (some ⟨g, 0, none⟩) l cap) (hown : Own w0 base e size g l cap xs) (m : Nat) (hx : a.eval x = .slice (some ⟨w0.heap.size, 0, none⟩) m m)
    (hl : cs.size = m * size) (h1 : ∀ u ∈ cs.toList, u.oneCell' = true) (hm : 0 < m) (h63 : l + m ≤ maxLen) (hbytes : (l + m) * bytes ≤ 140737488355328)
    (h : ∀ g' cap' w', Own w' base e size g' (l + m) cap' (xs ++ cs.toList) → (g' = g ∨ g' = w0.heap.size + 1) → Below base w0 w' → (∀ k, k < w0.heap.size → k ≠ g → w'.heap[k]? = w0.heap[k]?) → KeepsOthers w0 w' → w0.heap.size < w'.heap.size → wpListIn F nF P ops Q rest (a.put o.dst (.slice (some ⟨g', 0, none⟩) (l + m) cap')) w') :
    wpListIn F nF P ops Q (o :: rest) a (w0.alloc (.cells cs e)) := by
  obtain ⟨ht, ⟨i, z, h1', h2', h3', h4', h5'⟩, hp⟩ := E
  have hlt := hown.lt
  refine wpListIn_append_own_at _ hgd s x t ho base e i z size bytes ht h1' h2' h3' h4' h5' hp _ l xs hs (hown.alloc _) ⟨w0.heap.size, 0, none⟩ m m cs.toList hx (by simpa using hl) (news_new w0 cs e) h1 h63 hbytes (by simp; omega) ?_
  intro v' w' hown' hg hnil hat
  have hsz : w0.heap.size + 1 ≤ w'.heap.size := by simpa using hg.size
  obtain ⟨g', cap', rfl⟩ : ∃ g' cap', v' = .slice (some ⟨g', 0, none⟩) (l + m) cap' := by
    rcases hown'.2 with ⟨_, h0⟩ | ⟨g', cap', cur, hv, _⟩
    · omega
    · exact ⟨g', cap', hv⟩
  have hgr : w0.grownBy w' (some g) := by
    refine ⟨hg.os, hg.tape, hg.output, by omega, fun k hk hne => ?_⟩
    exact (hg.block k (by simp; omega) hne).trans (Below.heap_alloc w0 _ k hk)
  refine h g' cap' w' hown' ?_ ?_ (fun k hk hne => hgr.block k hk (by intro e; cases e; exact hne rfl)) ?_ (by omega)
  · rcases hat with hat | hat
    · left; simpa [Value.ownBlock] using hat
    · right; simpa [Value.ownBlock] using hat
  · exact (Below.refl base w0).grown hgr (by omega) (fun k hk => by cases hk; omega)
  · refine KeepsOthers.of_grownBy hgr fun j o' e hj => ?_
    cases e
    rcases hown.2 with ⟨h0, _⟩ | ⟨g2, cap2, cur, hv, _, hh, _⟩
    · cases h0
    · injection hv with h1
      injection h1 with h1
      injection h1 with h1
      subst h1
      rw [hh] at hj
      cases hj
      rfl
/-- The result is a slice that reads as zs; what lay in w lies as it lay. -/
def IntsRes (w : World) (zs : List Int) (e : Ending) (w' : World) : Prop := ∃ A cap, e = .returned (.slice A zs.length cap) ∧ Reads w' w'.heap.size 1 A zs.length (zs.map (.int .i64)) ∧ Below w.heap.size w w'
/-- The marks of ranges over functions that are over. -/
def marks (Ds : List Nat) : List Deferred := Ds.map fun D => { target := .collected D, args := #[] }
def Marked (Ds : List Nat) (w : World) : Prop := ∀ D ∈ Ds, w.heap[D]? = some (.deferred (some []))
theorem Marked.lt {Ds : List Nat} {w : World} (h : Marked Ds w) {D : Nat} (hD : D ∈ Ds) : D < w.heap.size := (Array.getElem?_eq_some_iff.1 (h D hD)).1
theorem Marked.kept {Ds : List Nat} {w w' : World} (h : Marked Ds w) (hb : Below w.heap.size w w') : Marked Ds w' := fun D hD => (hb.block D (h.lt hD)).trans (h D hD)
theorem Marked.others {Ds : List Nat} {w w' : World} (h : Marked Ds w) (hk : KeepsOthers w w') : Marked Ds w' := fun D hD => hk.same D _ (h D hD) rfl
theorem Marked.cons {Ds : List Nat} {w : World} (h : Marked Ds w) {D : Nat} (hD : w.heap[D]? = some (.deferred (some []))) : Marked (D :: Ds) w := fun E hE => by
  rcases List.mem_cons.1 hE with rfl | hE
  · exact hD
  · exact h E hE
theorem cell_put {w : World} {D : Nat} {o : Obj} (h : w.heap[D]? = some o) (ho : o.isCells = false) (o' : Obj) (ho' : o'.isCells = false) (p : Addr) (hp : p.block ≠ D) : (w.putObj D o').cell? p = w.cell? p :=
  World.cell?_of_block (w := w) (World.putObj_heap_other hp)
/-- The function leaves: all marks are taken up; what is no mark lies as it lay. -/
theorem leaves_marks {F : Fence} {n : Nat} {P : Program} {fn : Func} {tmps : Array Value} {R : Ending → World → Prop} (base : Nat) : ∀ (Ds : List Nat) (w : World), Ds.Nodup → Marked Ds w → (∀ D ∈ Ds, base ≤ D) →
    (∀ w', Below base w w' → (∀ k, k ∉ Ds → w'.heap[k]? = w.heap[k]?) → w'.heap.size = w.heap.size → LeavesInM F n P fn tmps R [] .returning w') → LeavesInM F n P fn tmps R (marks Ds) .returning w
  | [], w, _, _, _, h => h w (Below.refl _ _) (fun _ _ => rfl) rfl
  | D :: Ds, w, hn, hm, hb, h => by
    rw [List.nodup_cons] at hn
    have hD := hm D List.mem_cons_self
    have hlt := hm.lt List.mem_cons_self
    refine ⟨by simp, .inl ⟨D, _, rfl, run_takeDeferred hD, ?_⟩⟩
    refine leaves_marks base Ds _ hn.2 (fun E hE => ?_) (fun E hE => hb E (List.mem_cons_of_mem _ hE)) fun w' hw' hk hs => ?_
    · exact (World.putObj_heap_other (by rintro rfl; exact hn.1 hE)).trans (hm E (List.mem_cons_of_mem _ hE))
    · have h1 : Below base w (w.putObj D (.deferred none)) := (Below.refl base w).grown (grownBy_putObj' w D _) (by have := hb D List.mem_cons_self; omega) (fun k e => by cases e; exact hb _ List.mem_cons_self)
      refine h w' (h1.trans hw') (fun k hk' => ?_) (by rw [hs]; simp)
      rw [List.mem_cons, not_or] at hk'
      rw [hk k hk'.2]
      exact World.putObj_heap_other hk'.1
end Go.Proofs.YtafnebfchhmgcaaGreat
/- Names: of the program and of the first reference. -/
namespace Go.Proofs.YtafnebfchhmgcaaGreat
open Go.RowKit Go.Sort Go.Shelf
set_option linter.unusedSimpArgs false
set_option linter.unusedVariables false
attribute [local go_sem] cell_if frozen_if grow_cell
def letterB (c : UInt8) : Bool := (65 ≤ c && c ≤ 90) || (97 ≤ c && c ≤ 122)
def tailB (c : UInt8) : Bool := letterB c || (48 ≤ c && c ≤ 57) || c == 95
/-- The bytes of a name: the first one a letter. -/
def scanB : Bool → List UInt8 → Bool
  | _, [] => true
  | true, c :: r => letterB c && scanB false r
  | false, c :: r => tailB c && scanB false r
def nameB (s : ByteArray) : Bool := scanB true s.data.toList && (!s.data.toList.isEmpty && decide (s.data.toList.length ≤ 24))
def nameE (s : ByteArray) : Int := whenE (!nameB s) 8
/- Names. -/
theorem loop_list (bs : ByteArray) : ∀ (n i : Nat) (r : List UInt8), bs.size - i = n → ByteArray.toList.loop bs i r = r.reverse ++ bs.data.toList.drop i := by
  intro n
  induction n with
  | zero =>
    intro i r h
    rw [ByteArray.toList.loop, if_neg (by omega), List.drop_eq_nil_of_le (by simp; omega), List.append_nil]
  | succ n ih =>
    intro i r h
    have hi : i < bs.size := by omega
    rw [ByteArray.toList.loop, if_pos hi, ih (i + 1) _ (by omega), List.drop_eq_getElem_cons (show i < bs.data.toList.length by simpa using hi)]
    have e : bs.get! i = bs.data.toList[i]'(by simpa using hi) := by
      simp [ByteArray.get!, getElem!_pos, hi]
    rw [e]
    simp
theorem toList_data (s : ByteArray) : s.toList = s.data.toList := by
  have := loop_list s _ 0 [] rfl
  simpa [ByteArray.toList] using this
theorem letter_z {c : UInt8} {z : Int} (h : (c.toNat : Int) = z) : letterB c = decide (65 ≤ z ∧ z ≤ 90 ∨ 97 ≤ z ∧ z ≤ 122) := by
  subst h
  unfold letterB
  rw [Bool.eq_iff_iff]
  simp [UInt8.le_iff_toNat_le]
  omega
theorem tail_z {c : UInt8} {z : Int} (h : (c.toNat : Int) = z) : tailB c = decide ((65 ≤ z ∧ z ≤ 90 ∨ 97 ≤ z ∧ z ≤ 122) ∨ 48 ≤ z ∧ z ≤ 57 ∨ z = 95) := by
  unfold tailB
  rw [letter_z h]
  subst h
  rw [Bool.eq_iff_iff]
  simp [UInt8.le_iff_toNat_le, ← UInt8.toNat_inj]
  omega
theorem scan_at (s : ByteArray) {p : Nat} (hp : p < s.size) : scanB (decide (p = 0)) (s.data.toList.drop p) = ((if p = 0 then letterB s[p] else tailB s[p]) && scanB (decide (p + 1 = 0)) (s.data.toList.drop (p + 1))) := by
  have e : s.data.toList.drop p = s[p] :: s.data.toList.drop (p + 1) := by
    rw [List.drop_eq_getElem_cons (by simpa using hp)]; rfl
  rw [e]
  by_cases h : p = 0
  · subst h; simp [scanB]
  · simp [scanB, h]
theorem name_no {s : ByteArray} (h : scanB true s.data.toList = false) : nameB s = false := by rw [nameB, h]; rfl
theorem name_yes {s : ByteArray} (h : scanB true s.data.toList = true) (h0 : 0 < s.size) : nameB s = decide (s.size ≤ 24) := by
  rw [nameB, h]
  have e : s.data.toList.length = s.size := by simp
  have e2 : s.data.toList.isEmpty = false := by
    cases hl : s.data.toList with
    | nil => rw [hl] at e; simp at e; omega
    | cons a r => rfl
  rw [e, e2]
  simp
theorem name_nil {s : ByteArray} (h0 : s.size = 0) : nameB s = false := by
  have e : s.data.toList.length = s.size := by simp
  have : s.data.toList = [] := List.length_eq_zero_iff.1 (by omega)
  rw [nameB, this]; rfl
theorem str_nil {s : ByteArray} (h0 : s.size = 0) : s.toList = [] ∧ s.toList.isEmpty = true := by
  have e : s.data.toList.length = s.size := by simp
  have : s.data.toList = [] := List.length_eq_zero_iff.1 (by omega)
  rw [toList_data, this]
  exact ⟨rfl, rfl⟩
theorem str_some {s : ByteArray} (h0 : 0 < s.size) : s.toList.isEmpty = false := by
  have e : s.data.toList.length = s.size := by simp
  rw [toList_data]
  cases hl : s.data.toList with
  | nil => rw [hl] at e; simp at e; omega
  | cons a r => rfl
set_option maxRecDepth 100000 in
set_option maxHeartbeats 4000000 in
theorem IsName_any (s : ByteArray) (w : World) (hs : s.size ≤ maxLen) :
    Calls Tryz.prog 92 #[.string s] w fun e w' => e = .returned (.bool (nameB s)) ∧ Below w.heap.size w w' := by
  unfold maxLen at hs
  go_enter Tryz.func92, Tryz.ntmps92
  go_wp2_with fail
  go_loopw [2] (fun _ wr => ∃ p : Nat, p ≤ s.size ∧ wr = w.iter s p ∧ scanB true s.data.toList = scanB (decide (p = 0)) (s.data.toList.drop p)) (fun _ wr => s.size - wr.iterPos w.heap.size)
  case atStart => exact ⟨0, by omega, rfl, rfl⟩
  case round =>
    obtain ⟨p, hp, rfl, hf⟩ := hrel
    have Hf := Lib.hid hf; clear hf
    by_cases hlt : p < s.size
    · have Hd := Lib.hid (scan_at s hlt)
      by_cases ha : (s[p]).toNat < 128
      · have hnx : ∀ ty, (Instr.next (.pointer (some ⟨w.heap.size, 0, none⟩)) true ty).run Tryz.prog (w.iter s p) = _ := fun ty => run_next_ascii w s p ty hlt ha
        obtain ⟨z, hz⟩ : ∃ z : Int, ((s[p]).toNat : Int) = z := ⟨_, rfl⟩
        rw [hz] at hnx
        have Hl := Lib.hid (letter_z hz)
        have Ht := Lib.hid (tail_z hz)
        have hz0 : 0 ≤ z := by omega
        have hz1 : z < 128 := by omega
        clear hz ha
        generalize s[p] = c at *
        rcases (show (z < 48) ∨ (48 ≤ z ∧ z ≤ 57) ∨ (58 ≤ z ∧ z ≤ 64) ∨ (65 ≤ z ∧ z ≤ 90) ∨ (91 ≤ z ∧ z ≤ 94) ∨ (z = 95) ∨ (z = 96) ∨ (97 ≤ z ∧ z ≤ 122) ∨ (123 ≤ z) from by omega) with h | h | h | h | h | h | h | h | h
        all_goals
          (first | (have t1 : decide (65 ≤ z) = true := by simp; omega) | (have t1 : decide (65 ≤ z) = false := by simp; omega))
          (first | (have t2 : decide (z ≤ 90) = true := by simp; omega) | (have t2 : decide (z ≤ 90) = false := by simp; omega))
          (first | (have t3 : decide (97 ≤ z) = true := by simp; omega) | (have t3 : decide (97 ≤ z) = false := by simp; omega))
          (first | (have t4 : decide (z ≤ 122) = true := by simp; omega) | (have t4 : decide (z ≤ 122) = false := by simp; omega))
          (first | (have t5 : decide (z < 48) = true := by simp; omega) | (have t5 : decide (z < 48) = false := by simp; omega))
          (first | (have t6 : decide (57 < z) = true := by simp; omega) | (have t6 : decide (57 < z) = false := by simp; omega))
          (first | (have t7 : (z != 95) = true := by simp; omega) | (have t7 : (z != 95) = false := by simp; omega))
          have H := Lib.hid h
          clear h hz0 hz1
          by_cases hp0 : p = 0
          · subst hp0
            have hno : Hid (¬ (65 ≤ z ∧ z ≤ 90 ∨ 97 ≤ z ∧ z ≤ 122) → nameB s = false) := fun hn => name_no (by have h1 := Hf.out; rw [Hd.out, if_pos rfl, Hl.out, decide_eq_false hn] at h1; simpa using h1)
            have hyes : Hid ((65 ≤ z ∧ z ≤ 90 ∨ 97 ≤ z ∧ z ≤ 122) → scanB true s.data.toList = scanB (decide (0 + 1 = 0)) (s.data.toList.drop (0 + 1))) := fun hn => by have h1 := Hf.out; rw [Hd.out, if_pos rfl, Hl.out, decide_eq_true hn] at h1; simpa using h1
            go_wp2
            first
              | (go_ret; exact ⟨by first | (rw [hno.out (by have := H.out; omega)]; done) | (rw [hno.out (by have := H.out; omega)]; rfl), (Below.refl w.heap.size w).alloc (Nat.le_refl _) _⟩)
              | (go_roundw; (case rel => exact ⟨0 + 1, by omega, rfl, hyes.out (by have := H.out; omega)⟩); (case measure => simp; omega))
          · have hp1 : ((p : Int) == 0) = false := by simp; omega
            have hno : Hid (¬ ((65 ≤ z ∧ z ≤ 90 ∨ 97 ≤ z ∧ z ≤ 122) ∨ 48 ≤ z ∧ z ≤ 57 ∨ z = 95) → nameB s = false) := fun hn => name_no (by have h1 := Hf.out; rw [Hd.out, if_neg hp0, Ht.out, decide_eq_false hn] at h1; simpa using h1)
            have hyes : Hid (((65 ≤ z ∧ z ≤ 90 ∨ 97 ≤ z ∧ z ≤ 122) ∨ 48 ≤ z ∧ z ≤ 57 ∨ z = 95) → scanB true s.data.toList = scanB (decide (p + 1 = 0)) (s.data.toList.drop (p + 1))) := fun hn => by have h1 := Hf.out; rw [Hd.out, if_neg hp0, Ht.out, decide_eq_true hn] at h1; simpa using h1
            go_wp2
            first
              | (go_ret; exact ⟨by first | (rw [hno.out (by have := H.out; omega)]; done) | (rw [hno.out (by have := H.out; omega)]; rfl), (Below.refl w.heap.size w).alloc (Nat.le_refl _) _⟩)
              | (go_roundw; (case rel => exact ⟨p + 1, by omega, rfl, hyes.out (by have := H.out; omega)⟩); (case measure => simp; omega))
      · have hnx : ∀ ty, (Instr.next (.pointer (some ⟨w.heap.size, 0, none⟩)) true ty).run Tryz.prog (w.iter s p) = _ := fun ty => run_next_any w s p ty hlt
        have hh := (decode_high s p hlt (by omega)).1
        have hz : 128 ≤ ((s[p]).toNat : Int) := by omega
        have Hl := Lib.hid (letter_z (c := s[p]) rfl)
        have Ht := Lib.hid (tail_z (c := s[p]) rfl)
        have hno : Hid (nameB s = false) := name_no (by
          have h1 := Hf.out
          rw [Hd.out] at h1
          rw [h1]
          by_cases hp0 : p = 0
          · rw [if_pos hp0, Hl.out, decide_eq_false (by omega)]; rfl
          · rw [if_neg hp0, Ht.out, decide_eq_false (by omega)]; rfl)
        obtain ⟨z, hz'⟩ : ∃ z : Int, ((Utf8.decode s p).1 : Int) = z := ⟨_, rfl⟩
        rw [hz'] at hnx
        have t1 : decide (65 ≤ z) = true := by simp; omega
        have t2 : decide (z ≤ 90) = false := by simp; omega
        have t3 : decide (97 ≤ z) = true := by simp; omega
        have t4 : decide (z ≤ 122) = false := by simp; omega
        have t5 : decide (z < 48) = false := by simp; omega
        have t6 : decide (57 < z) = true := by simp; omega
        have t7 : (z != 95) = true := by simp; omega
        clear hz hz' hh ha Hd Hl Ht Hf
        by_cases hp0 : p = 0
        · subst hp0
          go_wp2
          go_ret
          exact ⟨by rw [hno.out]; rfl, (Below.refl w.heap.size w).alloc (Nat.le_refl _) _⟩
        · have hp1 : ((p : Int) == 0) = false := by simp; omega
          go_wp2
          go_ret
          exact ⟨by rw [hno.out]; rfl, (Below.refl w.heap.size w).alloc (Nat.le_refl _) _⟩
    · have hnx : ∀ ty, (Instr.next (.pointer (some ⟨w.heap.size, 0, none⟩)) true ty).run Tryz.prog (w.iter s p) = _ := fun ty => run_next_end w s p ty hlt
      obtain rfl : p = s.size := by omega
      have hsc : Hid (scanB true s.data.toList = true) := by show _ = _; rw [Hf.out, List.drop_eq_nil_of_le (by simp)]; cases decide (s.size = 0) <;> rfl
      by_cases h0 : s.size = 0
      · obtain ⟨e1, e2⟩ := str_nil h0
        have hno := Lib.hid (name_nil h0)
        clear h0
        go_wp2
        go_ret
        exact ⟨by rw [hno.out]; rfl, (Below.refl w.heap.size w).alloc (Nat.le_refl _) _⟩
      · have hyes := Lib.hid (name_yes hsc.out (by omega))
        have e1 := str_some (s := s) (by omega)
        have e3 : Hid (decide (s.size ≤ 24) = decide ((s.size : Int) ≤ 24)) := by show _ = _; rw [decide_eq_decide]; omega
        go_wp2
        go_ret
        exact ⟨by rw [hyes.out, e3.out]; rfl, (Below.refl w.heap.size w).alloc (Nat.le_refl _) _⟩
theorem isLetter_any (c : UInt8) (w : World) : Calls Tryz.prog 185 #[.int .u8 c.toNat] w fun e w' => e = .returned (.bool (letterB c)) ∧ w = w' := by
  have hz : ∃ z : Int, (c.toNat : Int) = z := ⟨_, rfl⟩
  obtain ⟨z, hz⟩ := hz
  have hz0 : 0 ≤ z := by omega
  rw [letter_z hz, hz]
  have Hz := Lib.hid hz
  clear hz
  by_cases h1 : 65 ≤ z <;> by_cases h2 : z ≤ 90 <;> by_cases h3 : 97 ≤ z <;> by_cases h4 : z ≤ 122
  all_goals
    (first | (exfalso; omega) | skip)
  all_goals
    go_enter Tryz.func185, Tryz.ntmps185
    go_wp2
    go_ret
    exact ⟨by simp [h1, h2, h3, h4], rfl⟩
theorem isDigit_any (c : UInt8) (w : World) : Calls Tryz.prog 186 #[.int .u8 c.toNat] w fun e w' => e = .returned (.bool (48 ≤ c && c ≤ 57)) ∧ w = w' := by
  have hz : ∃ z : Int, (c.toNat : Int) = z := ⟨_, rfl⟩
  obtain ⟨z, hz⟩ := hz
  have hz0 : 0 ≤ z := by omega
  have e : (48 ≤ c && c ≤ 57) = decide (48 ≤ z ∧ z ≤ 57) := by
    subst hz
    rw [Bool.eq_iff_iff]
    simp [UInt8.le_iff_toNat_le]
    omega
  rw [e, hz]
  have Hz := Lib.hid hz
  clear hz e
  by_cases h1 : 48 ≤ z <;> by_cases h2 : z ≤ 57
  all_goals
    go_enter Tryz.func186, Tryz.ntmps186
    go_wp2
    go_ret
    exact ⟨by simp [h1, h2], rfl⟩

/- Names: the reference; checks of names. -/
theorem scan_first (s : ByteArray) (h : 0 < s.size) : scanB true s.data.toList = (letterB s[0] && scanB false (s.data.toList.drop 1)) := by
  have := scan_at s h
  simpa using this
theorem scan_next (s : ByteArray) {p : Nat} (hp : 0 < p) (h : p < s.size) : scanB false (s.data.toList.drop p) = (tailB s[p] && scanB false (s.data.toList.drop (p + 1))) := by
  have := scan_at s h
  rw [decide_eq_false (by omega), decide_eq_false (by omega), if_neg (by omega)] at this
  exact this
theorem rIsName_any (s : ByteArray) (w : World) (hs : s.size ≤ maxLen) :
    Calls Tryz.prog 161 #[.string s] w fun e w' => e = .returned (.bool (nameB s)) ∧ w = w' := by
  unfold maxLen at hs
  by_cases h0 : s.size = 0
  · have hno := Lib.hid (name_nil h0)
    have e0 : ((s.size : Int) == 0) = true := by rw [h0]; rfl
    have H0 := Lib.hid h0
    clear h0
    go_enter Tryz.func161, Tryz.ntmps161
    go_wp2
    go_ret
    exact ⟨by rw [hno.out]; rfl, rfl⟩
  · have hpos : 0 < s.size := by omega
    have e0 : ((s.size : Int) == 0) = false := beq_eq_false_iff_ne.2 (by omega)
    by_cases h24 : s.size ≤ 24
    · have e1 : decide (24 < (s.size : Int)) = false := by simp; omega
      have HF := Lib.hid (scan_first s hpos)
      have HY : Hid (scanB true s.data.toList = true → nameB s = true) := fun h => by rw [name_yes h hpos]; simpa using h24
      have HN : Hid (scanB true s.data.toList = false → nameB s = false) := fun h => name_no h
      have HC := Lib.hid (fun w => isLetter_any s[0] w)
      cases hq : letterB s[0] with
      | false =>
        rw [hq] at HF HC
        clear hq
        go_enter Tryz.func161, Tryz.ntmps161
        go_wp2_with (go_at_call 185; refine (HC.out _).mono ?_; rintro e w1 ⟨rfl, rfl⟩)
        go_ret
        exact ⟨by rw [HN.out (by rw [HF.out]; rfl)]; rfl, rfl⟩
      | true =>
        rw [hq] at HF HC
        clear hq
        go_enter Tryz.func161, Tryz.ntmps161
        go_wp2_with (go_at_call 185; refine (HC.out _).mono ?_; rintro e w1 ⟨rfl, rfl⟩)
        go_loop [3] (fun i => ∃ p : Nat, 0 < p ∧ p ≤ s.size ∧ i = .int .i64 p ∧ scanB true s.data.toList = scanB false (s.data.toList.drop p)) (fun i => s.size - (intOf i).toNat)
        case atStart => exact ⟨1, by omega, by omega, rfl, by rw [HF.out]; rfl⟩
        case round =>
          obtain ⟨p, hp0, hp, rfl, hf⟩ := hrel
          have Hf := Lib.hid hf; clear hf
          by_cases hlt : p < s.size
          · have Hd := Lib.hid (scan_next s hp0 hlt)
            have HL := Lib.hid (fun w => isLetter_any s[p] w)
            have HD := Lib.hid (fun w => isDigit_any s[p] w)
            have HT : Hid (tailB s[p] = (letterB s[p] || (48 ≤ s[p] && s[p] ≤ 57) || s[p] == 95)) := rfl
            have HU : Hid ((((s[p]).toNat : Int) != 95) = !(s[p] == 95)) := by
              show _ = _
              rw [Bool.eq_iff_iff]
              simp [← UInt8.toNat_inj]
              omega
            cases ha : letterB s[p] with
            | true =>
              rw [ha] at HL HT
              clear ha
              go_wp2_with (go_at_call 185; refine (HL.out _).mono ?_; rintro e w1 ⟨rfl, rfl⟩)
              go_round
              case rel => exact ⟨p + 1, by omega, by omega, by go_num, by rw [Hf.out, Hd.out, HT.out]; rfl⟩
              case measure => simp [intOf]; omega
            | false =>
              cases hb : (decide (48 ≤ s[p]) && decide (s[p] ≤ 57)) with
              | true =>
                rw [ha, hb] at HT
                rw [ha] at HL
                rw [hb] at HD
                clear ha hb
                go_wp2_with (first | (go_at_call 185; refine (HL.out _).mono ?_; rintro e w1 ⟨rfl, rfl⟩) | (go_at_call 186; refine (HD.out _).mono ?_; rintro e w1 ⟨rfl, rfl⟩))
                go_round
                case rel => exact ⟨p + 1, by omega, by omega, by go_num, by rw [Hf.out, Hd.out, HT.out]; rfl⟩
                case measure => simp [intOf]; omega
              | false =>
                rw [ha, hb] at HT
                rw [ha] at HL
                rw [hb] at HD
                clear ha hb
                cases hu : (s[p] == 95) with
                | true =>
                  have hu' : (((s[p]).toNat : Int) != 95) = false := by rw [HU.out, hu]; rfl
                  have HUU := Lib.hid hu
                  clear hu
                  go_wp2_with (first | (go_at_call 185; refine (HL.out _).mono ?_; rintro e w1 ⟨rfl, rfl⟩) | (go_at_call 186; refine (HD.out _).mono ?_; rintro e w1 ⟨rfl, rfl⟩))
                  go_round
                  case rel => exact ⟨p + 1, by omega, by omega, by go_num, by rw [Hf.out, Hd.out, HT.out, HUU.out]; rfl⟩
                  case measure => simp [intOf]; omega
                | false =>
                  have hu' : (((s[p]).toNat : Int) != 95) = true := by rw [HU.out, hu]; rfl
                  have HUU := Lib.hid hu
                  clear hu
                  go_wp2_with (first | (go_at_call 185; refine (HL.out _).mono ?_; rintro e w1 ⟨rfl, rfl⟩) | (go_at_call 186; refine (HD.out _).mono ?_; rintro e w1 ⟨rfl, rfl⟩))
                  go_ret
                  exact ⟨by rw [HN.out (by rw [Hf.out, Hd.out, HT.out, HUU.out]; rfl)]; rfl, rfl⟩
          · obtain rfl : p = s.size := by omega
            go_wp2
            go_ret
            exact ⟨by rw [HY.out (by rw [Hf.out, List.drop_eq_nil_of_le (by simp)]; rfl)]; rfl, rfl⟩
    · have e1 : decide (24 < (s.size : Int)) = true := by simp; omega
      have hno : Hid (nameB s = false) := by show _ = _; rw [nameB, decide_eq_false (by simp; omega)]; simp
      go_enter Tryz.func161, Tryz.ntmps161
      go_wp2
      go_ret
      exact ⟨by rw [hno.out]; rfl, rfl⟩

theorem CheckName_any (s : ByteArray) (w : World) (hs : s.size ≤ maxLen) :
    Calls Tryz.prog 125 #[.string s] w fun e w' => e = .returned (.int .i64 (nameE s)) ∧ w = w' := by
  unfold nameE
  have H := Lib.hid (rIsName_any s w hs)
  generalize nameB s = q at *
  clear hs
  go_enter Tryz.func125, Tryz.ntmps125
  go_wp2_with (first | (go_at_call 161; refine H.out.mono ?_; rintro e w1 ⟨rfl, rfl⟩) | (go_at_call 83; refine (rWhen_any _ _ _).mono ?_; rintro e w1 ⟨rfl, rfl⟩))
  go_ret
  exact ⟨rfl, rfl⟩
end Go.Proofs.YtafnebfchhmgcaaGreat
