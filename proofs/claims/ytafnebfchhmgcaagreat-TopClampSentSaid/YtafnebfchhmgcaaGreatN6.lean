/- Pieces of a byte string: slices.Chunk as an iterator. -/
import Derived.Test.YtafnebfchhmgcaaGreatN5
namespace Go.Proofs.YtafnebfchhmgcaaGreat
open Go Go.RowKit Go.Sort Go.Shelf
set_option linter.unusedSimpArgs false
set_option linter.unusedVariables false
attribute [local go_sem] cell_if frozen_if grow_cell
attribute [local go_sem] Oper.semAt_some
theorem Chunk_any (A : Option Addr) (n c : Nat) (w : World) :
    Calls Tryz.prog 65 #[.slice A n c, .int .i64 4] w fun e w' => e = .returned (.func (.func 117) #[] #[.pointer (some ⟨w.heap.size, 0, none⟩), .pointer (some ⟨w.heap.size + 1, 0, none⟩)]) ∧ (w.alloc (.cells #[.slice A n c] 52)).alloc (.cells #[.int .i64 4] 3) = w' := by
  go_enter Tryz.func65, Tryz.ntmps65
  go_wp2
  go_ret
  exact ⟨rfl, rfl⟩
/-- What a round keeps: all below n₀; blocks g and g'. -/
structure KpC (n₀ g g' : Nat) (W W' : World) : Prop where
  low : Below n₀ W W'
  sec : W'.heap[g]? = W.heap[g]?
  sec2 : W'.heap[g']? = W.heap[g']?
theorem KpC.t {n₀ g g' : Nat} {A B C : World} (h : KpC n₀ g g' A B) (k : KpC n₀ g g' B C) : KpC n₀ g g' A C := ⟨h.low.trans k.low, k.sec.trans h.sec, k.sec2.trans h.sec2⟩
theorem KpC.b {n₀ g g' : Nat} {w : World} (hn : n₀ ≤ w.heap.size) (hg : g < w.heap.size) (hg' : g' < w.heap.size) (W : World) (l : Nat) (o o' : Obj) (hl : w.heap.size ≤ l) (h : W.heap[l]? = some o) (h1 : o.isCells = false) (h2 : o.isWalk = false) : KpC n₀ g g' W (W.putObj l o') :=
  ⟨belowK_b hn W l o o' hl h h1 h2, World.putObj_heap_other (by omega), World.putObj_heap_other (by omega)⟩
/-- The piece at an index. -/
def chV (b o m : Nat) (k : Fin m) : Array Value := #[.slice (some ⟨b, o + 4 * k.1, none⟩) 4 4]
/-- The first k indices. -/
def fTo (m : Nat) : Nat → List (Fin m)
  | 0 => []
  | k + 1 => fTo m k ++ (if h : k < m then [⟨k, h⟩] else [])
theorem fTo_succ {m k : Nat} (h : k < m) : fTo m (k + 1) = fTo m k ++ [⟨k, h⟩] := by
  show fTo m k ++ _ = _
  rw [dif_pos h]
theorem fTo_len {m : Nat} : ∀ k, k ≤ m → (fTo m k).length = k
  | 0, _ => rfl
  | k + 1, h => by rw [fTo_succ (by omega), List.length_append, fTo_len k (by omega)]; rfl
set_option maxRecDepth 100000 in
set_option maxHeartbeats 4000000 in
theorem ch_stops (n g1 g2 n₀ b o m c0 : Nat) (w : World) (hn : 3 ≤ n) (h0 : n₀ ≤ w.heap.size) (hm : m ≤ 1000) (hc : 4 * m ≤ c0) (hp : Blk w g1 52 #[.slice (some ⟨b, o, none⟩) (4 * m) c0]) (hq : Blk w g2 3 #[.int .i64 4]) :
    SeqStopsK Fence.wide n Tryz.prog 117 #[.pointer (some ⟨g1, 0, none⟩), .pointer (some ⟨g2, 0, none⟩)] (chV b o m) (KpC n₀ g1 g2) (fun xs => xs = fTo m m) (fun _ => True) 1001 w := fun L J Jx W hW hJ hJx hR hJ0 => by
  have b1 := hp.kept hW
  have b2 := hq.kept hW
  have l1 := b1.lt
  have l2 := b2.lt
  have hnW : n₀ ≤ W.heap.size := Nat.le_trans h0 hW.size
  clear hp hq hW
  refine callsIn_of_wp Tryz.func117 rfl trivial ?_ rfl
  simp only [Tryz.ntmps117, List.size_toArray, List.length_cons, List.length_nil, Nat.reduceAdd, Nat.reduceSub, Array.replicate_succ, Array.replicate_zero, List.push_toArray, List.append_toArray, List.nil_append, List.cons_append]
  gi_wp2
  gi_loopw [4, 5] (fun i s5 wr => ∃ k : Nat, k ≤ m ∧ i = .int .i64 ((4 * k : Nat) : Int) ∧ J (fTo m k) wr ∧ KpC n₀ g1 g2 W wr ∧ W.heap.size ≤ wr.heap.size) (fun i _ _ => 4 * m - (intOf i).toNat)
  case atStart => exact ⟨0, Nat.zero_le _, rfl, hJ0, ⟨Below.refl _ _, rfl, rfl⟩, Nat.le_refl _⟩
  case round =>
    obtain ⟨k, hk, rfl, hJk, hkp, hsz⟩ := hrel
    have q1 : Blk wr g1 52 #[.slice (some ⟨b, o, none⟩) (4 * m) c0] := hkp.sec.trans b1
    have q2 : Blk wr g2 3 #[.int .i64 4] := hkp.sec2.trans b2
    have c1 := q1.cell 0
    have c2 := q2.cell 0
    simp at c1 c2
    by_cases hlt : k < m
    · have HD : Hid (fTo m (k + 1) = fTo m k ++ [⟨k, hlt⟩]) := Lib.hid (fTo_succ hlt)
      have hmin : min (4 : Int) ((4 * m - 4 * k : Nat) : Int) = 4 := by omega
      gi_wp2
      refine wpIn_wide.2 ?_
      (refine wp_region_all_below (by kernel_rfl) (by kernel_rfl) ?_; (repeat (go_big_quiet_step (fail))); refine wpQuiet_nil ?_)
      intro w5 hb5
      have hs5 := hb5.size
      have hJ5 := hJ _ wr w5 none hJk ⟨hb5.os, hb5.tape, hb5.output, hb5.size, fun k hk _ => hb5.block k hk⟩ (fun r e => by cases e)
      have hk5 : KpC n₀ g1 g2 wr w5 := ⟨hb5.mono (by omega), hb5.block _ (by omega), hb5.block _ (by omega)⟩
      have c51 := (q1.kept hb5).cell 0
      have c52 := (q2.kept hb5).cell 0
      simp at c51 c52
      obtain ⟨fn, tmps, assign, body, hy, hR1⟩ := hR _ ⟨k, hlt⟩ _ hJ5 (by rw [fTo_len k hk]; omega)
      have hV : chV b o m ⟨k, hlt⟩ = #[.slice (some ⟨b, o + 4 * k, none⟩) 4 4] := rfl
      rw [hV] at hy
      have q25 := q2.kept hb5
      clear c1 c2 q1 q2 hb5
      have hz := hkp.t hk5
      clear hkp hk5
      gi_wp2
      refine ⟨(fun _ => by omega), hR1.mono ?_⟩
      rintro e W3 (⟨rfl, hJ3, hk3⟩ | ⟨rfl, hJx3⟩)
      · have q2 : Blk W3 g2 3 #[.int .i64 4] := hk3.sec2.trans q25
        have c2 := q2.cell 0
        simp at c2
        clear c51 c52 q25
        (gi_wp2; (try (refine ⟨fun _ h => (by cases h), ?_⟩; gi_wp2)); (try (refine ⟨fun _ h => (by cases h), ?_⟩; gi_wp2)))
        go_roundw
        case rel => exact ⟨k + 1, by omega, by go_num, by rw [HD.out]; exact hJ3, hz.t hk3, Nat.le_trans hsz (Nat.le_trans hs5 hk3.low.size)⟩
        case measure => simp [intOf]; omega
      · (gi_wp2; (try (refine ⟨fun _ h => (by cases h), ?_⟩; gi_wp2)); (try (refine ⟨fun _ h => (by cases h), ?_⟩; gi_wp2)))
        refine bodyPost_ret (results_none rfl _ _ _) rfl ?_
        exact ⟨⟨_, rfl⟩, .inr ⟨_, trivial, hJx3⟩⟩
    · obtain rfl : k = m := by omega
      gi_wp2
      go_end0
      exact ⟨⟨_, rfl⟩, .inl ⟨_, rfl, hJk⟩⟩
end Go.Proofs.YtafnebfchhmgcaaGreat
